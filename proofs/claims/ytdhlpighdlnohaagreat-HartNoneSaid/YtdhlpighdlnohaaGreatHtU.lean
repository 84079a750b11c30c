/-
  A hart's instructions from their words.
-/
import Derived.Test.YtdhlpighdlnohaaGreatDsBi
import Derived.Test.YtdhlpighdlnohaaGreatDsL
set_option linter.unusedSimpArgs false
set_option linter.unusedVariables false
set_option maxHeartbeats 8000000
set_option maxRecDepth 10000
set_option linter.unusedSimpArgs false
set_option linter.unusedVariables false
namespace Go.Proofs.YtdhlpighdlnohaaGreat.As
open Go Go.Mid Go.RowKit Go.Bits
attribute [local irreducible] mid
def hit (w i:Nat):Prop:=i<98∧w &&& maskN i=isN i
instance (w i:Nat):Decidable (hit w i):=by unfold hit;infer_instance
def opOf (w:Nat):Option Nat:=(List.range 98).find? fun i=>decide (hit w i)
theorem hit_bit {w i q:Nat} (h:hit w i) (hm:bitN (maskN i) q=1):bitN w q=bitN (isN i) q:=by
 have:=congrArg (fun x=>bitN x q) h.2
 simp only [and_bit,hm] at this
 have h2:=bitN_lt w q
 omega
theorem apart:((List.range 98).all fun i=>(List.range 98).all fun j=>decide (i=j) || decide ((isN i ^^^ isN j) &&& maskN i &&& maskN j≠0))=true:=by decide +kernel
theorem hit_uniq {w i j:Nat} (h1:hit w i) (h2:hit w j):i=j:=by
 have:=List.all_eq_true.1 (List.all_eq_true.1 apart i (List.mem_range.2 h1.1)) j (List.mem_range.2 h2.1)
 simp only [Bool.or_eq_true,decide_eq_true_eq] at this
 rcases this with h | h
 ·exact h
 ·exfalso
  apply h
  rw [← h1.2,← h2.2]
  refine Nat.eq_of_testBit_eq fun q=>?_
  simp only [Nat.testBit_and,Nat.testBit_xor,Nat.zero_testBit]
  cases w.testBit q <;> cases (maskN i).testBit q <;> cases (maskN j).testBit q <;> rfl
theorem opOf_some {w i:Nat} (h:hit w i):opOf w=some i:=by
 unfold opOf
 rw [List.find?_range_eq_some]
 refine ⟨decide_eq_true h,List.mem_range.2 h.1,fun j hj=>?_⟩
 have:¬ hit w j:=fun h2=>by have:=hit_uniq h h2;omega
 simpa using this
theorem opOf_hit {w i:Nat} (h:opOf w=some i):hit w i:=by
 unfold opOf at h
 have:=List.find?_some (p:=fun i=>decide (hit w i)) h
 exact of_decide_eq_true this
theorem opOf_none {w:Nat} (h:∀ i,¬ hit w i):opOf w=none:=by
 unfold opOf
 rw [List.find?_eq_none]
 intro i _
 simpa using h i
def rangesOf:Nat→List (Nat×Nat)
 | 55=>[(0,0)]
 | 23=>[(1,1)]
 | 111=>[(2,2)]
 | 103=>[(3,3)]
 | 99=>[(4,9)]
 | 3=>[(10,16)]
 | 35=>[(17,20)]
 | 19=>[(21,29)]
 | 15=>[(49,50)]
 | 47=>[(66,87)]
 | 51 | 27 | 59 | 115=>[(30,65),(88,97)]
 | _=>[]
def inR (R:List (Nat×Nat)) (i:Nat):Prop:=∃ p ∈ R,p.1≤i∧i≤p.2
instance (R:List (Nat×Nat)) (i:Nat):Decidable (inR R i):=by unfold inR;infer_instance
theorem in_ranges:∀ i:Nat,i<98→inR (rangesOf (isN i &&& 127)) i∧maskN i &&& 127=127:=by decide +kernel
theorem hit_range {w i:Nat} (h:hit w i):inR (rangesOf (w &&& 127)) i:=by
 obtain ⟨h1,h2⟩:=in_ranges i h.1
 have:w &&& 127=isN i &&& 127:=by rw [← h.2,Nat.and_assoc,h2]
 rwa [this]
def rangeC (p:Nat×Nat):List Value:=[.int .i64 (p.1+1:Nat),.int .i64 (p.2+1:Nat)]
def opV (w:Nat):Int:=match opOf w with
 | some i=>(i+1:Nat)
 | none=>0
section
variable {h:Hp} {K:Value→Hp→Prop}
theorem aggOp:isAggT Tryz.prog 76 = some false:=by kernel_rfl
theorem rangeC_get {R:List (Nat×Nat)} {j:Nat} {p:Nat×Nat} (hp:R[j]? = some p):(R.flatMap rangeC)[2*j]? = some (.int .i64 (p.1+1:Nat))∧(R.flatMap rangeC)[2*j+1]? = some (.int .i64 (p.2+1:Nat)):=by
 induction R generalizing j with
 | nil=>simp at hp
 | cons q R ih =>
  cases j with
  | zero=>simp at hp;subst hp;exact ⟨rfl,rfl⟩
  | succ j =>
   rw [List.getElem?_cons_succ] at hp
   have:=ih hp
   rw [List.flatMap_cons,show 2*(j+1)=2*j+1+1 by omega]
   exact this
theorem seek_x (w:Nat) (hw:w<2 ^ 32) (R:List (Nat×Nat)) (hR:∀ p ∈ R,p.1≤p.2∧p.2<98) (hl:R.length≤4) (b cap:Nat) (hb:h b=some (rowO 76 (R.flatMap rangeC))) (n:Nat) (hn:n=2*R.length)
  (hk1:∀ i,hit w i→inR R i→K (.int .i64 (i+1:Nat)) h) (hk0:(∀ i,inR R i→¬ hit w i)→K (.int .i64 0) h):X Tryz.prog 276 #[wx w,.slice (some ⟨b,0,none⟩) n cap] h K:=by
 refine fnv (args:=_) mixed [] [] [] Tryz.func276 rfl (by kernel_rfl) (cw_ ?_)
 refine loop_at [5] [] (fun r vs _ h'=>h=h'∧∃ j:Nat,j≤R.length∧r=R.length - j∧vs=[.v (.int .i64 (2*j:Nat))]∧∀ i,inR (R.take j) i→¬ hit w i) R.length ⟨rfl,0,by omega,by omega,rfl,fun i hi=>by obtain ⟨p,hp,_⟩:=hi;simp at hp⟩ ?_
 rintro r vs cs mm bx _ ⟨rfl,j,hj,rfl,rfl,hno⟩
 conv=>whnf
 refine n_ ?_
 refine br_ (fun q1=>?_) fun q1=>?_
 ·have hj2:j<R.length:=by omega
  obtain ⟨p,hp⟩:∃ p,R[j]? = some p:=⟨_,List.getElem?_eq_getElem hj2⟩
  obtain ⟨p1,p2⟩:=hR p (List.mem_of_getElem? hp)
  obtain ⟨g1,g2⟩:=rangeC_get hp
  have hnx:∀ i,inR (R.take (j+1)) i→inR (R.take j) i∨(p.1≤i∧i≤p.2):=by
   rintro i ⟨q,hq,hq2⟩
   rw [List.take_add_one,hp] at hq
   rcases List.mem_append.1 hq with hq | hq
   ·exact .inl ⟨q,hq,hq2⟩
   ·simp only [Option.toList_some,List.mem_singleton] at hq;subst hq;exact .inr hq2
  conv=>whnf
  refine n_ ?_
  refine ⟨_,loadI aggOp hb (j:=2*j) (by omega) g1,cw_ ?_⟩
  refine loop_at [6] [] (fun r vs _ h'=>h=h'∧∃ o:Nat,p.1≤o∧o≤p.2+1∧r=p.2+1 - o∧vs=[.v (.int .i64 (o+1:Nat))]∧∀ i,p.1≤i→i<o→¬ hit w i) (p.2+1 - p.1) ⟨rfl,p.1,by omega,by omega,rfl,rfl,fun i h1 h2=>by omega⟩ ?_
  rintro r vs cs mm2 bx2 _ ⟨rfl,o,ho1,ho2,rfl,rfl,hno2⟩
  conv=>whnf
  refine n_ ?_
  refine n_ ?_
  refine ⟨_,loadI aggOp hb (j:=2*j+1) (by omega) g2,cw_ ?_⟩
  refine br_ (fun q2=>?_) fun q2=>?_
  ·have ho98:o<98:=by omega
   obtain ⟨l1,l2⟩:=mask_lt o ho98
   conv=>whnf
   refine fixed_x o ho98 (cw_ ?_)
   refine val_by (and32 hw l1) (cw_ ?_)
   by_cases hh:w &&& maskN o=isN o
   ·refine bt_ ?_ (by rw [hh];simp)
    exact hk1 o ⟨ho98,hh⟩ ⟨p,List.mem_of_getElem? hp,by omega,by omega⟩
   ·refine bf_ ?_ (by simpa using fun e=>hh (by exact_mod_cast e))
    refine n_ ?_
    refine ⟨p.2+1 - (o+1),by omega,rfl,o+1,by omega,by omega,rfl,rfl,fun i h1 h2=>?_⟩
    rcases Nat.lt_succ_iff_lt_or_eq.1 h2 with h2 | rfl
    ·exact hno2 i h1 h2
    ·exact fun hx=>hh hx.2
  ·conv=>whnf
   refine n_ ?_
   refine ⟨R.length - (j+1),by omega,rfl,j+1,by omega,rfl,by rw [show ((2*(j+1):Nat):Int)=((2*j:Nat):Int)+2 by omega];rfl,fun i hi=>?_⟩
   rcases hnx i hi with hi | hi
   ·exact hno i hi
   ·exact hno2 i hi.1 (by omega)
 ·have:j=R.length:=by omega
  rw [this,List.take_length] at hno
  conv=>whnf
  exact hk0 hno
theorem opV_of {w:Nat} (hk:K (.int .i64 (opV w)) h):(∀ i,hit w i→K (.int .i64 (i+1:Nat)) h)∧((∀ i,¬ hit w i)→K (.int .i64 0) h):=by
 unfold opV at hk
 refine ⟨fun i hi=>?_,fun hn=>?_⟩
 ·rw [opOf_some hi] at hk;exact hk
 ·rw [opOf_none hn] at hk;exact hk
theorem find_x (w:Nat) (hw:w<2 ^ 32) (hk:K (.int .i64 (opV w)) h):X Tryz.prog 168 #[wx w] h K:=by
 refine X.forget ?_
 obtain ⟨hk1,hk0⟩:=opV_of hk
 have hr:∀ i,hit w i→inR (rangesOf (w &&& 127)) i:=fun i=>hit_range
 have one:∀ i,i<98→w &&& 127=isN i→maskN i=127→hit w i:=fun i hi e1 e2=>⟨hi,by rw [e2,e1]⟩
 refine fnv (args:=_) mixed [] [] [] Tryz.func168 rfl (by kernel_rfl) (cw_ ?_)
 refine val_by (and32 hw (show 127<2 ^ 32 by decide)) (cw_ ?_)
 generalize hc:w &&& 127=c at hr one ⊢
 refine br_ (fun q55=>?_) fun q55=>?_
 ·have e55:c=55:=by omega
  conv=>whnf
  exact ⟨h,Hp.le_refl _,hk1 0 (one 0 (by decide) (by rw [e55];decide) (by decide))⟩
 conv=>whnf
 refine br_ (fun q23=>?_) fun q23=>?_
 ·have e23:c=23:=by omega
  conv=>whnf
  exact ⟨h,Hp.le_refl _,hk1 1 (one 1 (by decide) (by rw [e23];decide) (by decide))⟩
 conv=>whnf
 refine br_ (fun q111=>?_) fun q111=>?_
 ·have e111:c=111:=by omega
  conv=>whnf
  exact ⟨h,Hp.le_refl _,hk1 2 (one 2 (by decide) (by rw [e111];decide) (by decide))⟩
 conv=>whnf
 refine br_ (fun q103=>?_) fun q103=>?_
 ·have e103:c=103:=by omega
  conv=>whnf
  refine new_intro (o:=rowO 76 (([(3,3)]:List (Nat×Nat)).flatMap rangeC)) (fun b h1 n_b le_b at_b ot_b=>cw_ ?_)
  refine seek_x w hw [(3,3)] (by decide) (by decide) b _ at_b 2 rfl (fun i hi _=>?_) (fun hn=>?_)
  ·conv=>whnf
   exact ⟨h,le_b,hk1 i hi⟩
  ·conv=>whnf
   exact ⟨h,le_b,hk0 fun i hi=>hn i (by have:=hr i hi;rw [e103] at this;exact this) hi⟩
 conv=>whnf
 refine br_ (fun q99=>?_) fun q99=>?_
 ·have e99:c=99:=by omega
  conv=>whnf
  refine new_intro (o:=rowO 76 (([(4,9)]:List (Nat×Nat)).flatMap rangeC)) (fun b h1 n_b le_b at_b ot_b=>cw_ ?_)
  refine seek_x w hw [(4,9)] (by decide) (by decide) b _ at_b 2 rfl (fun i hi _=>?_) (fun hn=>?_)
  ·conv=>whnf
   exact ⟨h,le_b,hk1 i hi⟩
  ·conv=>whnf
   exact ⟨h,le_b,hk0 fun i hi=>hn i (by have:=hr i hi;rw [e99] at this;exact this) hi⟩
 conv=>whnf
 refine br_ (fun q3=>?_) fun q3=>?_
 ·have e3:c=3:=by omega
  conv=>whnf
  refine new_intro (o:=rowO 76 (([(10,16)]:List (Nat×Nat)).flatMap rangeC)) (fun b h1 n_b le_b at_b ot_b=>cw_ ?_)
  refine seek_x w hw [(10,16)] (by decide) (by decide) b _ at_b 2 rfl (fun i hi _=>?_) (fun hn=>?_)
  ·conv=>whnf
   exact ⟨h,le_b,hk1 i hi⟩
  ·conv=>whnf
   exact ⟨h,le_b,hk0 fun i hi=>hn i (by have:=hr i hi;rw [e3] at this;exact this) hi⟩
 conv=>whnf
 refine br_ (fun q35=>?_) fun q35=>?_
 ·have e35:c=35:=by omega
  conv=>whnf
  refine new_intro (o:=rowO 76 (([(17,20)]:List (Nat×Nat)).flatMap rangeC)) (fun b h1 n_b le_b at_b ot_b=>cw_ ?_)
  refine seek_x w hw [(17,20)] (by decide) (by decide) b _ at_b 2 rfl (fun i hi _=>?_) (fun hn=>?_)
  ·conv=>whnf
   exact ⟨h,le_b,hk1 i hi⟩
  ·conv=>whnf
   exact ⟨h,le_b,hk0 fun i hi=>hn i (by have:=hr i hi;rw [e35] at this;exact this) hi⟩
 conv=>whnf
 refine br_ (fun q19=>?_) fun q19=>?_
 ·have e19:c=19:=by omega
  conv=>whnf
  refine new_intro (o:=rowO 76 (([(21,29)]:List (Nat×Nat)).flatMap rangeC)) (fun b h1 n_b le_b at_b ot_b=>cw_ ?_)
  refine seek_x w hw [(21,29)] (by decide) (by decide) b _ at_b 2 rfl (fun i hi _=>?_) (fun hn=>?_)
  ·conv=>whnf
   exact ⟨h,le_b,hk1 i hi⟩
  ·conv=>whnf
   exact ⟨h,le_b,hk0 fun i hi=>hn i (by have:=hr i hi;rw [e19] at this;exact this) hi⟩
 conv=>whnf
 refine br_ (fun q15=>?_) fun q15=>?_
 ·have e15:c=15:=by omega
  conv=>whnf
  refine new_intro (o:=rowO 76 (([(49,50)]:List (Nat×Nat)).flatMap rangeC)) (fun b h1 n_b le_b at_b ot_b=>cw_ ?_)
  refine seek_x w hw [(49,50)] (by decide) (by decide) b _ at_b 2 rfl (fun i hi _=>?_) (fun hn=>?_)
  ·conv=>whnf
   exact ⟨h,le_b,hk1 i hi⟩
  ·conv=>whnf
   exact ⟨h,le_b,hk0 fun i hi=>hn i (by have:=hr i hi;rw [e15] at this;exact this) hi⟩
 conv=>whnf
 refine br_ (fun q47=>?_) fun q47=>?_
 ·have e47:c=47:=by omega
  conv=>whnf
  refine new_intro (o:=rowO 76 (([(66,87)]:List (Nat×Nat)).flatMap rangeC)) (fun b h1 n_b le_b at_b ot_b=>cw_ ?_)
  refine seek_x w hw [(66,87)] (by decide) (by decide) b _ at_b 2 rfl (fun i hi _=>?_) (fun hn=>?_)
  ·conv=>whnf
   exact ⟨h,le_b,hk1 i hi⟩
  ·conv=>whnf
   exact ⟨h,le_b,hk0 fun i hi=>hn i (by have:=hr i hi;rw [e47] at this;exact this) hi⟩
 conv=>whnf
 refine br_ (fun q51=>?_) fun q51=>?_
 ·have e51:c=51:=by omega
  conv=>whnf
  refine bt_ ?_ (by rw [e51];rfl)
  refine new_intro (o:=rowO 76 (([(30,65),(88,97)]:List (Nat×Nat)).flatMap rangeC)) (fun b h1 n_b le_b at_b ot_b=>cw_ ?_)
  refine seek_x w hw [(30,65),(88,97)] (by decide) (by decide) b _ at_b 4 rfl (fun i hi _=>?_) (fun hn=>?_)
  ·conv=>whnf
   exact ⟨h,le_b,hk1 i hi⟩
  ·conv=>whnf
   exact ⟨h,le_b,hk0 fun i hi=>hn i (by have:=hr i hi;rw [e51] at this;exact this) hi⟩
 conv=>whnf
 refine br_ (fun q27=>?_) fun q27=>?_
 ·have e27:c=27:=by omega
  conv=>whnf
  refine bt_ ?_ (by rw [e27];rfl)
  refine new_intro (o:=rowO 76 (([(30,65),(88,97)]:List (Nat×Nat)).flatMap rangeC)) (fun b h1 n_b le_b at_b ot_b=>cw_ ?_)
  refine seek_x w hw [(30,65),(88,97)] (by decide) (by decide) b _ at_b 4 rfl (fun i hi _=>?_) (fun hn=>?_)
  ·conv=>whnf
   exact ⟨h,le_b,hk1 i hi⟩
  ·conv=>whnf
   exact ⟨h,le_b,hk0 fun i hi=>hn i (by have:=hr i hi;rw [e27] at this;exact this) hi⟩
 conv=>whnf
 refine br_ (fun q59=>?_) fun q59=>?_
 ·have e59:c=59:=by omega
  conv=>whnf
  refine bt_ ?_ (by rw [e59];rfl)
  refine new_intro (o:=rowO 76 (([(30,65),(88,97)]:List (Nat×Nat)).flatMap rangeC)) (fun b h1 n_b le_b at_b ot_b=>cw_ ?_)
  refine seek_x w hw [(30,65),(88,97)] (by decide) (by decide) b _ at_b 4 rfl (fun i hi _=>?_) (fun hn=>?_)
  ·conv=>whnf
   exact ⟨h,le_b,hk1 i hi⟩
  ·conv=>whnf
   exact ⟨h,le_b,hk0 fun i hi=>hn i (by have:=hr i hi;rw [e59] at this;exact this) hi⟩
 conv=>whnf
 refine br_ (fun q115=>?_) fun q115=>?_
 ·have e115:c=115:=by omega
  conv=>whnf
  refine new_intro (o:=rowO 76 (([(30,65),(88,97)]:List (Nat×Nat)).flatMap rangeC)) (fun b h1 n_b le_b at_b ot_b=>cw_ ?_)
  refine seek_x w hw [(30,65),(88,97)] (by decide) (by decide) b _ at_b 4 rfl (fun i hi _=>?_) (fun hn=>?_)
  ·conv=>whnf
   exact ⟨h,le_b,hk1 i hi⟩
  ·conv=>whnf
   exact ⟨h,le_b,hk0 fun i hi=>hn i (by have:=hr i hi;rw [e115] at this;exact this) hi⟩
 conv=>whnf
 refine ⟨h,Hp.le_refl _,hk0 fun i hi=>?_⟩
 have:=hr i hi
 have hnil:rangesOf c=[]:=by
  unfold rangesOf
  split <;> first | rfl | (exfalso;omega)
 rw [hnil] at this
 obtain ⟨p,hp,_⟩:=this
 simp at hp
theorem opV_none {w:Nat} (h:opOf w=none):opV w=0:=by unfold opV;rw [h]
theorem opV_some {w i:Nat} (h:opOf w=some i):opV w=(i+1:Nat):=by unfold opV;rw [h]
end
end Go.Proofs.YtdhlpighdlnohaaGreat.As
namespace Go.Proofs.YtdhlpighdlnohaaGreat.As
open Go Go.Mid Go.RowKit Go.Bits
abbrev rfXDsD0:Go.Mid.RF:=[(2,2),(5,5),(28,5),(34,5),(41,5),(42,5),(48,5),(49,5),(50,5),(57,5),(58,5),(66,5),(67,5),(68,5),(75,5),(76,5),(77,5),(84,5),(85,5)]
attribute [local irreducible] mid
def decF (f w i:Nat):Ins:=match f with
 | 1=>⟨((i+1:Nat):Int),(w / 2 ^ 7 % 2 ^ 5:Nat),(w / 2 ^ 15 % 2 ^ 5:Nat),(w / 2 ^ 20 % 2 ^ 5:Nat),i64N (immN 1 w),0,false,false⟩
 | 2=>⟨((i+1:Nat):Int),(w / 2 ^ 7 % 2 ^ 5:Nat),(w / 2 ^ 15 % 2 ^ 5:Nat),0,i64N (immN 2 w),0,false,false⟩
 | 3=>⟨((i+1:Nat):Int),0,(w / 2 ^ 15 % 2 ^ 5:Nat),(w / 2 ^ 20 % 2 ^ 5:Nat),i64N (immN 3 w),0,false,false⟩
 | 4=>⟨((i+1:Nat):Int),0,(w / 2 ^ 15 % 2 ^ 5:Nat),(w / 2 ^ 20 % 2 ^ 5:Nat),i64N (immN 4 w),0,false,false⟩
 | 5=>⟨((i+1:Nat):Int),(w / 2 ^ 7 % 2 ^ 5:Nat),0,0,i64N (immN 5 w),0,false,false⟩
 | 6=>⟨((i+1:Nat):Int),(w / 2 ^ 7 % 2 ^ 5:Nat),0,0,i64N (immN 6 w),0,false,false⟩
 | 7=>⟨((i+1:Nat):Int),(w / 2 ^ 7 % 2 ^ 5:Nat),(w / 2 ^ 15 % 2 ^ 5:Nat),0,i64N (immN 7 w),0,false,false⟩
 | 8=>⟨((i+1:Nat):Int),(w / 2 ^ 7 % 2 ^ 5:Nat),(w / 2 ^ 15 % 2 ^ 5:Nat),0,i64N (immN 8 w),0,false,false⟩
 | 9=>⟨((i+1:Nat):Int),(w / 2 ^ 7 % 2 ^ 5:Nat),(w / 2 ^ 15 % 2 ^ 5:Nat),0,i64N (immN 9 w),(w / 2 ^ 20 % 2 ^ 12:Nat),false,false⟩
 | 10=>⟨((i+1:Nat):Int),(w / 2 ^ 7 % 2 ^ 5:Nat),(w / 2 ^ 15 % 2 ^ 5:Nat),0,i64N (immN 10 w),(w / 2 ^ 20 % 2 ^ 12:Nat),false,false⟩
 | 11=>⟨((i+1:Nat):Int),(w / 2 ^ 7 % 2 ^ 5:Nat),(w / 2 ^ 15 % 2 ^ 5:Nat),(w / 2 ^ 20 % 2 ^ 5:Nat),i64N (immN 11 w),0,decide (bitN w 26=1),decide (bitN w 25=1)⟩
 | 12=>⟨((i+1:Nat):Int),(w / 2 ^ 7 % 2 ^ 5:Nat),(w / 2 ^ 15 % 2 ^ 5:Nat),0,i64N (immN 12 w),0,decide (bitN w 26=1),decide (bitN w 25=1)⟩
 | 13=>⟨((i+1:Nat):Int),0,0,0,i64N (immN 13 w),0,false,false⟩
 | 14=>⟨((i+1:Nat):Int),0,(w / 2 ^ 15 % 2 ^ 5:Nat),(w / 2 ^ 20 % 2 ^ 5:Nat),i64N (immN 14 w),0,false,false⟩
 | _=>⟨((i+1:Nat):Int),0,0,0,i64N (immN f w),0,false,false⟩
def decI (w i:Nat):Ins:=decF (fmtN ((i+1:Nat):Int)) w i
def decV (w:Nat):Value:=match opOf w with
 | some i=>.tuple #[.agg (decI w i).cs.toArray,.bool true]
 | none=>.tuple #[.agg insn0.toArray,.bool false]
theorem lr_two {w i:Nat} (h:hit w i) (hf:fmtN ((i+1:Nat):Int)=12):w / 2 ^ 20 % 2 ^ 5=0:=by
 have key:∀ i:Nat,i<98→fmtN ((i+1:Nat):Int)=12→∀ q:Nat,q<5→bitN (maskN i) (20+q)=1∧bitN (isN i) (20+q)=0:=by decide +kernel
 refine eq_bits (n:=5) (Nat.mod_lt _ (by decide)) (by decide) fun q hq=>?_
 obtain ⟨k1,k2⟩:=key i h.1 hf q hq
 rw [bit_mod,if_pos hq,bit_div,hit_bit h k1,k2,bitN_zero]
theorem fmt_ne:∀ i:Nat,i<98→fmtN ((i+1:Nat):Int)≠0:=by decide
section
variable {h:Hp} {K:Value→Hp→Prop}
theorem bitI (w q:Nat):((((w / 2 ^ q % 2 ^ 1:Nat):Int))==1)=decide (bitN w q=1):=by
 rw [Bool.eq_iff_iff]
 simp only [beq_iff_eq,decide_eq_true_eq]
 unfold bitN
 omega
theorem dec1_x (w i:Nat) (hw:w<2 ^ 32) (ho:opOf w=some i) (hf:fmtN ((i+1:Nat):Int)=1) (hk:K (.tuple #[.agg (decF 1 w i).cs.toArray,.bool true]) h):X Tryz.prog 99 #[wx w] h K:=by
 have hlr:=fun hf=>lr_two (opOf_hit ho) hf
 have hk:K (.tuple #[.agg (Ins.cs ⟨((i+1:Nat):Int),(w / 2 ^ 7 % 2 ^ 5:Nat),(w / 2 ^ 15 % 2 ^ 5:Nat),(w / 2 ^ 20 % 2 ^ 5:Nat),i64N (immN 1 w),0,false,false⟩).toArray,.bool true]) h:=hk
 refine fnv (args:=_) mixed rfXDsD0 [] [] Tryz.func99 rfl (by kernel_rfl) (cw_ ?_)
 refine find_x w hw ?_
 rw [opV_some ho]
 conv=>whnf
 refine fmt_x _ ?_
 rw [hf]
 conv=>whnf
 refine field_x w 7 5 hw (by decide) (by decide) (cw_ ?_)
 refine field_x w 15 5 hw (by decide) (by decide) (cw_ ?_)
 refine field_x w 20 5 hw (by decide) (by decide) (cw_ ?_)
 refine imm_x 1 (by decide) w hw (cw_ ?_)
 exact hk
theorem dec2_x (w i:Nat) (hw:w<2 ^ 32) (ho:opOf w=some i) (hf:fmtN ((i+1:Nat):Int)=2) (hk:K (.tuple #[.agg (decF 2 w i).cs.toArray,.bool true]) h):X Tryz.prog 99 #[wx w] h K:=by
 have hlr:=fun hf=>lr_two (opOf_hit ho) hf
 have hk:K (.tuple #[.agg (Ins.cs ⟨((i+1:Nat):Int),(w / 2 ^ 7 % 2 ^ 5:Nat),(w / 2 ^ 15 % 2 ^ 5:Nat),0,i64N (immN 2 w),0,false,false⟩).toArray,.bool true]) h:=hk
 refine fnv (args:=_) mixed rfXDsD0 [] [] Tryz.func99 rfl (by kernel_rfl) (cw_ ?_)
 refine find_x w hw ?_
 rw [opV_some ho]
 conv=>whnf
 refine fmt_x _ ?_
 rw [hf]
 conv=>whnf
 refine field_x w 7 5 hw (by decide) (by decide) (cw_ ?_)
 refine field_x w 15 5 hw (by decide) (by decide) (cw_ ?_)
 refine field_x w 20 5 hw (by decide) (by decide) (cw_ ?_)
 refine imm_x 2 (by decide) w hw (cw_ ?_)
 exact hk
theorem dec3_x (w i:Nat) (hw:w<2 ^ 32) (ho:opOf w=some i) (hf:fmtN ((i+1:Nat):Int)=3) (hk:K (.tuple #[.agg (decF 3 w i).cs.toArray,.bool true]) h):X Tryz.prog 99 #[wx w] h K:=by
 have hlr:=fun hf=>lr_two (opOf_hit ho) hf
 have hk:K (.tuple #[.agg (Ins.cs ⟨((i+1:Nat):Int),0,(w / 2 ^ 15 % 2 ^ 5:Nat),(w / 2 ^ 20 % 2 ^ 5:Nat),i64N (immN 3 w),0,false,false⟩).toArray,.bool true]) h:=hk
 refine fnv (args:=_) mixed rfXDsD0 [] [] Tryz.func99 rfl (by kernel_rfl) (cw_ ?_)
 refine find_x w hw ?_
 rw [opV_some ho]
 conv=>whnf
 refine fmt_x _ ?_
 rw [hf]
 conv=>whnf
 refine field_x w 7 5 hw (by decide) (by decide) (cw_ ?_)
 refine field_x w 15 5 hw (by decide) (by decide) (cw_ ?_)
 refine field_x w 20 5 hw (by decide) (by decide) (cw_ ?_)
 refine imm_x 3 (by decide) w hw (cw_ ?_)
 exact hk
theorem dec4_x (w i:Nat) (hw:w<2 ^ 32) (ho:opOf w=some i) (hf:fmtN ((i+1:Nat):Int)=4) (hk:K (.tuple #[.agg (decF 4 w i).cs.toArray,.bool true]) h):X Tryz.prog 99 #[wx w] h K:=by
 have hlr:=fun hf=>lr_two (opOf_hit ho) hf
 have hk:K (.tuple #[.agg (Ins.cs ⟨((i+1:Nat):Int),0,(w / 2 ^ 15 % 2 ^ 5:Nat),(w / 2 ^ 20 % 2 ^ 5:Nat),i64N (immN 4 w),0,false,false⟩).toArray,.bool true]) h:=hk
 refine fnv (args:=_) mixed rfXDsD0 [] [] Tryz.func99 rfl (by kernel_rfl) (cw_ ?_)
 refine find_x w hw ?_
 rw [opV_some ho]
 conv=>whnf
 refine fmt_x _ ?_
 rw [hf]
 conv=>whnf
 refine field_x w 7 5 hw (by decide) (by decide) (cw_ ?_)
 refine field_x w 15 5 hw (by decide) (by decide) (cw_ ?_)
 refine field_x w 20 5 hw (by decide) (by decide) (cw_ ?_)
 refine imm_x 4 (by decide) w hw (cw_ ?_)
 exact hk
theorem dec5_x (w i:Nat) (hw:w<2 ^ 32) (ho:opOf w=some i) (hf:fmtN ((i+1:Nat):Int)=5) (hk:K (.tuple #[.agg (decF 5 w i).cs.toArray,.bool true]) h):X Tryz.prog 99 #[wx w] h K:=by
 have hlr:=fun hf=>lr_two (opOf_hit ho) hf
 have hk:K (.tuple #[.agg (Ins.cs ⟨((i+1:Nat):Int),(w / 2 ^ 7 % 2 ^ 5:Nat),0,0,i64N (immN 5 w),0,false,false⟩).toArray,.bool true]) h:=hk
 refine fnv (args:=_) mixed rfXDsD0 [] [] Tryz.func99 rfl (by kernel_rfl) (cw_ ?_)
 refine find_x w hw ?_
 rw [opV_some ho]
 conv=>whnf
 refine fmt_x _ ?_
 rw [hf]
 conv=>whnf
 refine field_x w 7 5 hw (by decide) (by decide) (cw_ ?_)
 refine field_x w 15 5 hw (by decide) (by decide) (cw_ ?_)
 refine field_x w 20 5 hw (by decide) (by decide) (cw_ ?_)
 refine imm_x 5 (by decide) w hw (cw_ ?_)
 exact hk
theorem dec6_x (w i:Nat) (hw:w<2 ^ 32) (ho:opOf w=some i) (hf:fmtN ((i+1:Nat):Int)=6) (hk:K (.tuple #[.agg (decF 6 w i).cs.toArray,.bool true]) h):X Tryz.prog 99 #[wx w] h K:=by
 have hlr:=fun hf=>lr_two (opOf_hit ho) hf
 have hk:K (.tuple #[.agg (Ins.cs ⟨((i+1:Nat):Int),(w / 2 ^ 7 % 2 ^ 5:Nat),0,0,i64N (immN 6 w),0,false,false⟩).toArray,.bool true]) h:=hk
 refine fnv (args:=_) mixed rfXDsD0 [] [] Tryz.func99 rfl (by kernel_rfl) (cw_ ?_)
 refine find_x w hw ?_
 rw [opV_some ho]
 conv=>whnf
 refine fmt_x _ ?_
 rw [hf]
 conv=>whnf
 refine field_x w 7 5 hw (by decide) (by decide) (cw_ ?_)
 refine field_x w 15 5 hw (by decide) (by decide) (cw_ ?_)
 refine field_x w 20 5 hw (by decide) (by decide) (cw_ ?_)
 refine imm_x 6 (by decide) w hw (cw_ ?_)
 exact hk
theorem dec7_x (w i:Nat) (hw:w<2 ^ 32) (ho:opOf w=some i) (hf:fmtN ((i+1:Nat):Int)=7) (hk:K (.tuple #[.agg (decF 7 w i).cs.toArray,.bool true]) h):X Tryz.prog 99 #[wx w] h K:=by
 have hlr:=fun hf=>lr_two (opOf_hit ho) hf
 have hk:K (.tuple #[.agg (Ins.cs ⟨((i+1:Nat):Int),(w / 2 ^ 7 % 2 ^ 5:Nat),(w / 2 ^ 15 % 2 ^ 5:Nat),0,i64N (immN 7 w),0,false,false⟩).toArray,.bool true]) h:=hk
 refine fnv (args:=_) mixed rfXDsD0 [] [] Tryz.func99 rfl (by kernel_rfl) (cw_ ?_)
 refine find_x w hw ?_
 rw [opV_some ho]
 conv=>whnf
 refine fmt_x _ ?_
 rw [hf]
 conv=>whnf
 refine field_x w 7 5 hw (by decide) (by decide) (cw_ ?_)
 refine field_x w 15 5 hw (by decide) (by decide) (cw_ ?_)
 refine field_x w 20 5 hw (by decide) (by decide) (cw_ ?_)
 refine imm_x 7 (by decide) w hw (cw_ ?_)
 exact hk
theorem dec8_x (w i:Nat) (hw:w<2 ^ 32) (ho:opOf w=some i) (hf:fmtN ((i+1:Nat):Int)=8) (hk:K (.tuple #[.agg (decF 8 w i).cs.toArray,.bool true]) h):X Tryz.prog 99 #[wx w] h K:=by
 have hlr:=fun hf=>lr_two (opOf_hit ho) hf
 have hk:K (.tuple #[.agg (Ins.cs ⟨((i+1:Nat):Int),(w / 2 ^ 7 % 2 ^ 5:Nat),(w / 2 ^ 15 % 2 ^ 5:Nat),0,i64N (immN 8 w),0,false,false⟩).toArray,.bool true]) h:=hk
 refine fnv (args:=_) mixed rfXDsD0 [] [] Tryz.func99 rfl (by kernel_rfl) (cw_ ?_)
 refine find_x w hw ?_
 rw [opV_some ho]
 conv=>whnf
 refine fmt_x _ ?_
 rw [hf]
 conv=>whnf
 refine field_x w 7 5 hw (by decide) (by decide) (cw_ ?_)
 refine field_x w 15 5 hw (by decide) (by decide) (cw_ ?_)
 refine field_x w 20 5 hw (by decide) (by decide) (cw_ ?_)
 refine imm_x 8 (by decide) w hw (cw_ ?_)
 exact hk
theorem dec9_x (w i:Nat) (hw:w<2 ^ 32) (ho:opOf w=some i) (hf:fmtN ((i+1:Nat):Int)=9) (hk:K (.tuple #[.agg (decF 9 w i).cs.toArray,.bool true]) h):X Tryz.prog 99 #[wx w] h K:=by
 have hlr:=fun hf=>lr_two (opOf_hit ho) hf
 have hk:K (.tuple #[.agg (Ins.cs ⟨((i+1:Nat):Int),(w / 2 ^ 7 % 2 ^ 5:Nat),(w / 2 ^ 15 % 2 ^ 5:Nat),0,i64N (immN 9 w),(w / 2 ^ 20 % 2 ^ 12:Nat),false,false⟩).toArray,.bool true]) h:=hk
 refine fnv (args:=_) mixed rfXDsD0 [] [] Tryz.func99 rfl (by kernel_rfl) (cw_ ?_)
 refine find_x w hw ?_
 rw [opV_some ho]
 conv=>whnf
 refine fmt_x _ ?_
 rw [hf]
 conv=>whnf
 refine field_x w 7 5 hw (by decide) (by decide) (cw_ ?_)
 refine field_x w 15 5 hw (by decide) (by decide) (cw_ ?_)
 refine field_x w 20 5 hw (by decide) (by decide) (cw_ ?_)
 refine imm_x 9 (by decide) w hw (cw_ ?_)
 refine field_x w 20 12 hw (by decide) (by decide) (cw_ ?_)
 exact hk
theorem dec10_x (w i:Nat) (hw:w<2 ^ 32) (ho:opOf w=some i) (hf:fmtN ((i+1:Nat):Int)=10) (hk:K (.tuple #[.agg (decF 10 w i).cs.toArray,.bool true]) h):X Tryz.prog 99 #[wx w] h K:=by
 have hlr:=fun hf=>lr_two (opOf_hit ho) hf
 have hk:K (.tuple #[.agg (Ins.cs ⟨((i+1:Nat):Int),(w / 2 ^ 7 % 2 ^ 5:Nat),(w / 2 ^ 15 % 2 ^ 5:Nat),0,i64N (immN 10 w),(w / 2 ^ 20 % 2 ^ 12:Nat),false,false⟩).toArray,.bool true]) h:=hk
 refine fnv (args:=_) mixed rfXDsD0 [] [] Tryz.func99 rfl (by kernel_rfl) (cw_ ?_)
 refine find_x w hw ?_
 rw [opV_some ho]
 conv=>whnf
 refine fmt_x _ ?_
 rw [hf]
 conv=>whnf
 refine field_x w 7 5 hw (by decide) (by decide) (cw_ ?_)
 refine field_x w 15 5 hw (by decide) (by decide) (cw_ ?_)
 refine field_x w 20 5 hw (by decide) (by decide) (cw_ ?_)
 refine imm_x 10 (by decide) w hw (cw_ ?_)
 refine field_x w 20 12 hw (by decide) (by decide) (cw_ ?_)
 exact hk
theorem dec11_x (w i:Nat) (hw:w<2 ^ 32) (ho:opOf w=some i) (hf:fmtN ((i+1:Nat):Int)=11) (hk:K (.tuple #[.agg (decF 11 w i).cs.toArray,.bool true]) h):X Tryz.prog 99 #[wx w] h K:=by
 have hlr:=fun hf=>lr_two (opOf_hit ho) hf
 have hk:K (.tuple #[.agg (Ins.cs ⟨((i+1:Nat):Int),(w / 2 ^ 7 % 2 ^ 5:Nat),(w / 2 ^ 15 % 2 ^ 5:Nat),(w / 2 ^ 20 % 2 ^ 5:Nat),i64N (immN 11 w),0,decide (bitN w 26=1),decide (bitN w 25=1)⟩).toArray,.bool true]) h:=hk
 refine fnv (args:=_) mixed rfXDsD0 [] [] Tryz.func99 rfl (by kernel_rfl) (cw_ ?_)
 refine find_x w hw ?_
 rw [opV_some ho]
 conv=>whnf
 refine fmt_x _ ?_
 rw [hf]
 conv=>whnf
 refine field_x w 7 5 hw (by decide) (by decide) (cw_ ?_)
 refine field_x w 15 5 hw (by decide) (by decide) (cw_ ?_)
 refine field_x w 20 5 hw (by decide) (by decide) (cw_ ?_)
 refine imm_x 11 (by decide) w hw (cw_ ?_)
 refine field_x w 26 1 hw (by decide) (by decide) (cw_ ?_)
 refine field_x w 25 1 hw (by decide) (by decide) (cw_ ?_)
 exact kq hk (by rw [← bitI w 26,← bitI w 25];rfl)
theorem dec12_x (w i:Nat) (hw:w<2 ^ 32) (ho:opOf w=some i) (hf:fmtN ((i+1:Nat):Int)=12) (hk:K (.tuple #[.agg (decF 12 w i).cs.toArray,.bool true]) h):X Tryz.prog 99 #[wx w] h K:=by
 have hlr:=fun hf=>lr_two (opOf_hit ho) hf
 have hk:K (.tuple #[.agg (Ins.cs ⟨((i+1:Nat):Int),(w / 2 ^ 7 % 2 ^ 5:Nat),(w / 2 ^ 15 % 2 ^ 5:Nat),0,i64N (immN 12 w),0,decide (bitN w 26=1),decide (bitN w 25=1)⟩).toArray,.bool true]) h:=hk
 refine fnv (args:=_) mixed rfXDsD0 [] [] Tryz.func99 rfl (by kernel_rfl) (cw_ ?_)
 refine find_x w hw ?_
 rw [opV_some ho]
 conv=>whnf
 refine fmt_x _ ?_
 rw [hf]
 conv=>whnf
 refine field_x w 7 5 hw (by decide) (by decide) (cw_ ?_)
 refine field_x w 15 5 hw (by decide) (by decide) (cw_ ?_)
 refine field_x w 20 5 hw (by decide) (by decide) (cw_ ?_)
 refine imm_x 12 (by decide) w hw (cw_ ?_)
 refine field_x w 26 1 hw (by decide) (by decide) (cw_ ?_)
 refine field_x w 25 1 hw (by decide) (by decide) (cw_ ?_)
 exact kq hk (by rw [← bitI w 26,← bitI w 25,hlr hf];rfl)
theorem dec13_x (w i:Nat) (hw:w<2 ^ 32) (ho:opOf w=some i) (hf:fmtN ((i+1:Nat):Int)=13) (hk:K (.tuple #[.agg (decF 13 w i).cs.toArray,.bool true]) h):X Tryz.prog 99 #[wx w] h K:=by
 have hlr:=fun hf=>lr_two (opOf_hit ho) hf
 have hk:K (.tuple #[.agg (Ins.cs ⟨((i+1:Nat):Int),0,0,0,i64N (immN 13 w),0,false,false⟩).toArray,.bool true]) h:=hk
 refine fnv (args:=_) mixed rfXDsD0 [] [] Tryz.func99 rfl (by kernel_rfl) (cw_ ?_)
 refine find_x w hw ?_
 rw [opV_some ho]
 conv=>whnf
 refine fmt_x _ ?_
 rw [hf]
 conv=>whnf
 refine field_x w 7 5 hw (by decide) (by decide) (cw_ ?_)
 refine field_x w 15 5 hw (by decide) (by decide) (cw_ ?_)
 refine field_x w 20 5 hw (by decide) (by decide) (cw_ ?_)
 refine imm_x 13 (by decide) w hw (cw_ ?_)
 exact hk
theorem dec14_x (w i:Nat) (hw:w<2 ^ 32) (ho:opOf w=some i) (hf:fmtN ((i+1:Nat):Int)=14) (hk:K (.tuple #[.agg (decF 14 w i).cs.toArray,.bool true]) h):X Tryz.prog 99 #[wx w] h K:=by
 have hlr:=fun hf=>lr_two (opOf_hit ho) hf
 have hk:K (.tuple #[.agg (Ins.cs ⟨((i+1:Nat):Int),0,(w / 2 ^ 15 % 2 ^ 5:Nat),(w / 2 ^ 20 % 2 ^ 5:Nat),i64N (immN 14 w),0,false,false⟩).toArray,.bool true]) h:=hk
 refine fnv (args:=_) mixed rfXDsD0 [] [] Tryz.func99 rfl (by kernel_rfl) (cw_ ?_)
 refine find_x w hw ?_
 rw [opV_some ho]
 conv=>whnf
 refine fmt_x _ ?_
 rw [hf]
 conv=>whnf
 refine field_x w 7 5 hw (by decide) (by decide) (cw_ ?_)
 refine field_x w 15 5 hw (by decide) (by decide) (cw_ ?_)
 refine field_x w 20 5 hw (by decide) (by decide) (cw_ ?_)
 refine imm_x 14 (by decide) w hw (cw_ ?_)
 exact hk
theorem decode_x (w:Nat) (hw:w<2 ^ 32) (hk:K (decV w) h):X Tryz.prog 99 #[wx w] h K:=by
 unfold decV at hk
 cases ho:opOf w with
 | none =>
  rw [ho] at hk
  refine fnv (args:=_) mixed rfXDsD0 [] [] Tryz.func99 rfl (by kernel_rfl) (cw_ ?_)
  refine find_x w hw ?_
  rw [opV_none ho]
  conv=>whnf
  exact hk
 | some i =>
  rw [ho] at hk
  have hi:=(opOf_hit ho).1
  have hl:=fmtN_lt ((i+1:Nat):Int)
  have h0:=fmt_ne i hi
  have hk:K (.tuple #[.agg (decF (fmtN ((i+1:Nat):Int)) w i).cs.toArray,.bool true]) h:=hk
  generalize hf:fmtN ((i+1:Nat):Int)=f at hl h0 hk
  match f,hf,hl,h0,hk with
  | 0,_,_,h0,_=>exact absurd rfl h0
  | 1,hf,_,_,hk=>exact dec1_x w i hw ho hf hk
  | 2,hf,_,_,hk=>exact dec2_x w i hw ho hf hk
  | 3,hf,_,_,hk=>exact dec3_x w i hw ho hf hk
  | 4,hf,_,_,hk=>exact dec4_x w i hw ho hf hk
  | 5,hf,_,_,hk=>exact dec5_x w i hw ho hf hk
  | 6,hf,_,_,hk=>exact dec6_x w i hw ho hf hk
  | 7,hf,_,_,hk=>exact dec7_x w i hw ho hf hk
  | 8,hf,_,_,hk=>exact dec8_x w i hw ho hf hk
  | 9,hf,_,_,hk=>exact dec9_x w i hw ho hf hk
  | 10,hf,_,_,hk=>exact dec10_x w i hw ho hf hk
  | 11,hf,_,_,hk=>exact dec11_x w i hw ho hf hk
  | 12,hf,_,_,hk=>exact dec12_x w i hw ho hf hk
  | 13,hf,_,_,hk=>exact dec13_x w i hw ho hf hk
  | 14,hf,_,_,hk=>exact dec14_x w i hw ho hf hk
  | f+15,_,hl,_,_=>exact absurd hl (by omega)
end
end Go.Proofs.YtdhlpighdlnohaaGreat.As
namespace Go.Proofs.YtdhlpighdlnohaaGreat
open Go Go.Mid Go.RowKit Go.Bits
attribute [local irreducible] mid
def ofAs (x:As.Ins):Ins:=⟨x.op,x.a,x.b,x.c,x.m,x.s,x.aq,x.rl⟩
def decH (w:Nat):Option Ins:=(As.opOf w).map fun i=>ofAs (As.decI w i)
theorem decH_x:DecX decH:=fun w h K hw hk=>As.decode_x w hw (by
 unfold As.decV
 unfold decH at hk
 cases e:As.opOf w with
 | none=>rw [e] at hk;exact hk
 | some i=>rw [e] at hk;exact hk)
end Go.Proofs.YtdhlpighdlnohaaGreat
