/-
  A hart's control registers, as they lie.
-/
import Derived.Test.YtdhlpighdlnohaaGreatLib0
import Derived.Test.YtdhlpighdlnohaaGreatWoCn
import Derived.Test.YtdhlpighdlnohaaGreatBitP
import Derived.Test.YtdhlpighdlnohaaGreatCsB
set_option linter.unusedSimpArgs false
set_option linter.unusedVariables false
set_option maxHeartbeats 8000000
set_option maxRecDepth 10000
set_option linter.unusedSimpArgs false
set_option linter.unusedVariables false
namespace Go.Proofs.YtdhlpighdlnohaaGreat
open Go Go.Mid Go.RowKit Go.Bits
attribute [local irreducible] mid
def csrNames:List Str:=[[115,115,116,97,116,117,115],[115,105,101],[115,116,118,101,99],[115,99,111,117,110,116,101,114,101,110],[115,115,99,114,97,116,99,104],[115,101,112,99],[115,99,97,117,115,101],[115,116,118,97,108],[115,105,112],[115,97,116,112],[109,115,116,97,116,117,115],[109,105,115,97],[109,101,100,101,108,101,103],[109,105,100,101,108,101,103],[109,105,101],[109,116,118,101,99],[109,99,111,117,110,116,101,114,101,110],[109,115,99,114,97,116,99,104],[109,101,112,99],[109,99,97,117,115,101],[109,116,118,97,108],[109,105,112],[115,104,111,111,116,118,97],[115,104,111,111,116,97,115,105,100],[115,104,111,111,116],[109,99,121,99,108,101],[109,105,110,115,116,114,101,116],[99,121,99,108,101],[116,105,109,101],[105,110,115,116,114,101,116],[109,118,101,110,100,111,114,105,100],[109,97,114,99,104,105,100],[109,105,109,112,105,100],[109,104,97,114,116,105,100]]
def csrAll:List ((Nat×Nat)×Str):=csrRows.zip csrNames
abbrev rwC (r:(Nat×Nat)×Str):List Value:=[.int .i64 r.1.1,.string (bs r.2),.int .u64 r.1.2]
theorem csrAll_fst:csrAll.map (·.1)=csrRows:=by decide +kernel
def rowV (n:Int):Value:=match csrAll.find? (fun r=>decide ((r.1.1:Int)=n)) with
 | some r=>.tuple #[.agg (rwC r).toArray,.bool true]
 | none=>.tuple #[.agg #[.int .i64 0,.string (bs []),.int .u64 0],.bool false]
theorem find_fst {α β:Type} (p:α→Bool):∀ l:List (α×β),(l.find? fun x=>p x.1).map (·.1)=(l.map (·.1)).find? p
 | []=>rfl
 | x :: l=>by
  rw [List.map_cons,List.find?_cons,List.find?_cons]
  cases p x.1
  ·exact find_fst p l
  ·rfl
theorem rowOf_all (n:Int):rowOf n=(csrAll.find? (fun r=>decide ((r.1.1:Int)=n))).map (·.1):=by
 unfold rowOf
 rw [← csrAll_fst]
 exact (find_fst (fun r:Nat×Nat=>decide ((r.1:Int)=n)) csrAll).symm
theorem row_known {n:Int} {r:(Nat×Nat)×Str} (h:csrAll.find? (fun r=>decide ((r.1.1:Int)=n))=some r):knownB n=true∧maskN n=r.1.2:=by
 unfold knownB maskN
 rw [rowOf_all,h]
 exact ⟨rfl,rfl⟩
theorem row_none {n:Int} (h:csrAll.find? (fun r=>decide ((r.1.1:Int)=n))=none):knownB n=false∧maskN n=0:=by
 unfold knownB maskN
 rw [rowOf_all,h]
 exact ⟨rfl,rfl⟩
theorem mask_lt (n:Int):maskN n<2 ^ 64:=by
 have:∀ r ∈ csrRows,r.2<2 ^ 64:=by decide +kernel
 unfold maskN rowOf
 cases h:csrRows.find? (fun r=>decide ((r.1:Int)=n)) with
 | none=>decide
 | some r=>exact this r (List.mem_of_find?_eq_some h)
section
variable {h:Hp} {K:Value→Hp→Prop}
theorem csrows_x (hk:∀ b h',h b=none→h.le h'→h' b=some (rowO 430 (csrAll.flatMap rwC++[]))→K (.slice (some ⟨b,0,none⟩) 34 34) h'):X Tryz.prog 408 #[] h K:=by
 refine fnv (args:=_) mixed [] [] [] Tryz.func408 rfl (by kernel_rfl) (cw_ ?_)
 refine new_intro (o:=_) (fun b h1 n_b le_b at_b ot_b=>?_)
 exact hk b h1 n_b le_b (at_b.trans (by kernel_rfl))
theorem aggRw:isAggT Tryz.prog 430 = some true:=by kernel_rfl
theorem sizRw:sizeT Tryz.prog 430 = some 3:=by kernel_rfl
theorem at1_x {c:Nat} {n:Int} (r:(Nat×Nat)×Str) (hc:h c=some (rowO 3 [.int .i64 n])) (hk:K (.bool (decide ((r.1.1:Int)=n))) h):X Tryz.prog 397 #[.agg (rwC r).toArray,.pointer (some ⟨c,0,none⟩)] h K:=by
 refine fnv (args:=_) mixed [(2,2),(4,2)] [] [] Tryz.func397 rfl (by kernel_rfl) (cw_ ?_)
 refine ⟨_,loadC0 aggIn hc rfl,cw_ ?_⟩
 exact kq hk (bI (by rw [Bool.eq_iff_iff];simp))
theorem rw_at {b:Nat} {j:Nat} {r:(Nat×Nat)×Str} (hb:h b=some (rowO 430 (csrAll.flatMap rwC++[]))) (hj:csrAll[j]? = some r):loadH Tryz.prog 430 h ((⟨b,0,none⟩:Addr).add (((j:Int)).toNat*3))=some (.agg (rwC r).toArray):=by
 rw [Int.toNat_natCast]
 exact loadH_agg aggRw sizRw (fun _=>rfl) hb hj
theorem find_first {α:Type} {p:α→Bool} {l:List α} {j:Nat} {x:α} (hx:l[j]? = some x) (hp:p x=true) (hno:∀ i y,i<j→l[i]? = some y→p y=false):l.find? p=some x:=by
 induction l generalizing j with
 | nil=>simp at hx
 | cons a l ih =>
  rw [List.find?_cons]
  cases j with
  | zero=>simp at hx;subst hx;rw [hp]
  | succ j =>
   rw [hno 0 a (by omega) rfl]
   exact ih (j:=j) (by simpa using hx) (fun i y hi hy=>hno (i+1) y (by omega) (by simpa using hy))
theorem find_never {α:Type} {p:α→Bool} {l:List α} (hno:∀ (i:Nat) (y:α),l[i]? = some y→p y=false):l.find? p=none:=by
 rw [List.find?_eq_none]
 intro x hx
 obtain ⟨i,hi,e⟩:=List.getElem_of_mem hx
 rw [hno i x (by rw [List.getElem?_eq_getElem hi,e])]
 decide
theorem csrAll_len:csrAll.length=34:=by decide +kernel
theorem csrfind_x {c:Nat} {n:Int} (hc:h c=some (rowO 3 [.int .i64 n])) (hk:K (rowV n) h):X Tryz.prog 396 #[.func (.func 397) #[] #[.pointer (some ⟨c,0,none⟩)]] h K:=by
 refine X.forget ?_
 refine fnv (args:=_) mixed [(2,2),(5,5)] [] [] Tryz.func396 rfl (by kernel_rfl) (cw_ ?_)
 refine csrows_x fun b h1 n_b le_b at_b=>?_
 have c1:=le_b _ _ hc
 conv=>whnf
 refine loop_at [8] [2] (fun r vs cs h'=>cs=[some [.int .i64 0,.string (bs []),.int .u64 0]]∧h1=h'∧∃ j:Nat,j≤34∧r=34 - j∧vs=[.v (.int .i64 j)]∧∀ i y,i<j→csrAll[i]? = some y→decide ((y.1.1:Int)=n)=false) 34 ⟨rfl,rfl,0,by omega,by omega,rfl,fun i y hi=>by omega⟩ ?_
 rintro r vs cs mm bx _ ⟨rfl,rfl,j,hj,rfl,rfl,hno⟩
 conv=>whnf
 refine br_ (fun q1=>?_) fun q1=>?_
 ·obtain ⟨r,hr⟩:∃ r,csrAll[j]? = some r:=⟨_,List.getElem?_eq_getElem (by rw [csrAll_len];omega)⟩
  have hl:=rw_at at_b hr
  conv=>whnf
  refine n_ ?_
  refine ⟨_,hl,cw_ ?_⟩
  refine at1_x r c1 (cw_ ?_)
  refine bsel_intro (fun q2=>?_) (fun q2=>?_)
  ·have hV:rowV n=.tuple #[.agg (rwC r).toArray,.bool true]:=by unfold rowV;rw [find_first hr q2 hno]
   rw [hV] at hk
   conv=>whnf
   exact ⟨h,le_b,hk⟩
  ·conv=>whnf
   refine n_ ?_
   exact ⟨34 - (j+1),by omega,rfl,rfl,j+1,by omega,rfl,rfl,fun i y hi hy=>by
    by_cases e:i=j
    ·subst e;rw [hr] at hy;cases hy;exact q2
    ·exact hno i y (by omega) hy⟩
 ·obtain rfl:j=34:=by omega
  have hV:rowV n=.tuple #[.agg #[.int .i64 0,.string (bs []),.int .u64 0],.bool false]:=by
   unfold rowV
   rw [find_never fun i y hy=>hno i y (by have:=(List.getElem?_eq_some_iff.1 hy).1;rw [csrAll_len] at this;exact this) hy]
  rw [hV] at hk
  conv=>whnf
  exact ⟨h,le_b,hk⟩
theorem csrat_x (n:Int) (hk:K (rowV n) h):X Tryz.prog 375 #[.int .i64 n] h K:=by
 refine X.forget ?_
 refine fnv (args:=_) mixed [(2,2)] [] [] Tryz.func375 rfl (by kernel_rfl) (cw_ ?_)
 refine new_intro (o:=rowO 3 [.int .i64 n]) (fun c h1 n_c le_c at_c ot_c=>cw_ ?_)
 refine csrfind_x at_c ?_
 have hk':∀ v,rowV n=v→K v h:=fun v e=>e ▸ hk
 have e:rowV n=rowV n:=rfl
 revert e
 conv in rowV n=_=>lhs;unfold rowV
 cases hf:csrAll.find? (fun r=>decide ((r.1.1:Int)=n)) with
 | some r =>
  intro e
  rw [← e]
  conv=>whnf
  exact ⟨h,le_c,hk' _ e.symm⟩
 | none =>
  intro e
  rw [← e]
  conv=>whnf
  exact ⟨h,le_c,hk' _ e.symm⟩
theorem csrknown_x (n:Int) (hk:K (.bool (knownB n)) h):X Tryz.prog 383 #[.int .i64 n] h K:=by
 refine fnv (args:=_) mixed [(3,3)] [] [] Tryz.func383 rfl (by kernel_rfl) (cw_ ?_)
 refine csrat_x n ?_
 unfold rowV
 cases hf:csrAll.find? (fun r=>decide ((r.1.1:Int)=n)) with
 | some r =>
  rw [(row_known hf).1] at hk
  conv=>whnf
  exact hk
 | none =>
  rw [(row_none hf).1] at hk
  conv=>whnf
  exact hk
theorem csrmask_x (n:Int) (hk:K (.int .u64 (maskN n:Nat)) h):X Tryz.prog 331 #[.int .i64 n] h K:=by
 refine fnv (args:=_) mixed [(3,3),(10,3)] [] [] Tryz.func331 rfl (by kernel_rfl) (cw_ ?_)
 refine csrat_x n ?_
 unfold rowV
 cases hf:csrAll.find? (fun r=>decide ((r.1.1:Int)=n)) with
 | some r =>
  rw [(row_known hf).2] at hk
  conv=>whnf
  exact hk
 | none =>
  rw [(row_none hf).2] at hk
  conv=>whnf
  exact hk
end
end Go.Proofs.YtdhlpighdlnohaaGreat
namespace Go.Proofs.YtdhlpighdlnohaaGreat
open Go Go.Mid Go.RowKit Go.Bits
attribute [local irreducible] mid
theorem andI3 (n:Int):IntKind.i64.wrap ((BitVec.ofInt IntKind.i64.bits n &&& BitVec.ofInt IntKind.i64.bits 3).toNat:Int)=n % 4:=by
 have e:(BitVec.ofInt IntKind.i64.bits n &&& BitVec.ofInt IntKind.i64.bits 3).toNat=(n % 18446744073709551616).toNat % 4:=by
  show (BitVec.ofInt 64 n &&& BitVec.ofInt 64 3).toNat=_
  rw [BitVec.toNat_and,BitVec.toNat_ofInt,BitVec.toNat_ofInt]
  exact Nat.and_two_pow_sub_one_eq_mod (n % 18446744073709551616).toNat 2
 rw [e]
 have:IntKind.i64.wrap ((((n % 18446744073709551616).toNat % 4:Nat)):Int)=(((n % 18446744073709551616).toNat % 4:Nat):Int):=by
  rw [wrapI64N _ (by omega)]
  unfold i64N
  rw [if_pos (by omega)]
 rw [this]
 omega
theorem shrI (n:Int) (k:Nat) (hk:k≤63):n.fdiv (2 ^ (min ((k:Int)).toNat IntKind.i64.bits))=n / 2 ^ k:=by
 rw [show min ((k:Int)).toNat IntKind.i64.bits=k by rw [Int.toNat_natCast];exact Nat.min_eq_left (by show k≤64;omega)]
 exact Int.fdiv_eq_ediv_of_nonneg _ (Int.le_of_lt (Int.pow_pos (by decide)))
section
variable {h:Hp} {K:Value→Hp→Prop}
theorem csrleast_x (n:Int) (hk:K (.int .i64 (leastN n)) h):X Tryz.prog 384 #[.int .i64 n] h K:=by
 unfold leastN at hk
 refine fnv (args:=_) mixed [] [] [] Tryz.func384 rfl (by kernel_rfl) (cw_ ?_)
 refine csrknown_x n ?_
 cases hn:knownB n with
 | false =>
  rw [hn,if_neg (by decide)] at hk
  conv=>whnf
  exact hk
 | true =>
  rw [hn,if_pos rfl] at hk
  conv=>whnf
  refine val_by (shrI n 8 (by decide)) (cw_ ?_)
  refine val_by (andI3 _) (cw_ ?_)
  exact hk
theorem csrro_x (n:Int) (hk:K (.bool (rdonlyB n)) h):X Tryz.prog 385 #[.int .i64 n] h K:=by
 unfold rdonlyB at hk
 refine fnv (args:=_) mixed [] [] [] Tryz.func385 rfl (by kernel_rfl) (cw_ ?_)
 refine csrknown_x n ?_
 cases hn:knownB n with
 | false =>
  rw [hn] at hk
  conv=>whnf
  exact hk
 | true =>
  rw [hn] at hk
  conv=>whnf
  refine val_by (shrI n 10 (by decide)) (cw_ ?_)
  refine val_by (andI3 _) (cw_ ?_)
  exact kq hk (bI (by rw [Bool.eq_iff_iff];simp))
theorem csrmay_x (n priv:Int) (wr:Bool) (hk:K (.bool (csrMayB n priv wr)) h):X Tryz.prog 361 #[.int .i64 n,.int .i64 priv,.bool wr] h K:=by
 have hk':∀ b,b=csrMayB n priv wr→K (.bool b) h:=fun b e=>e ▸ hk
 unfold csrMayB at hk'
 clear hk
 by_cases hp:priv=0∨priv=1∨priv=3
 ·simp only [hp,decide_true,Bool.true_and] at hk'
  rcases hp with rfl | rfl | rfl
  all_goals
   refine fnv (args:=_) mixed [] [] [] Tryz.func361 rfl (by kernel_rfl) (cw_ ?_)
   refine csrknown_x n ?_
   cases hn:knownB n with
   | false =>
    have hk2:=hk' false (by rw [hn];rfl)
    conv=>whnf
    exact hk2
   | true =>
    rw [hn] at hk'
    conv=>whnf
    refine csrleast_x n ?_
    generalize leastN n=l at *
    generalize hro:rdonlyB n=ro at *
    conv=>whnf
    refine br_ (fun q2=>?_) fun q2=>?_
    ·rw [decide_eq_true q2] at hk'
     cases wr with
     | false =>
      have hk2:=hk' true rfl
      conv=>whnf
      exact hk2
     | true =>
      conv=>whnf
      refine csrro_x n ?_
      rw [hro]
      cases ro with
      | false =>
       have hk2:=hk' true rfl
       conv=>whnf
       exact hk2
      | true =>
       have hk2:=hk' false rfl
       conv=>whnf
       exact hk2
    ·have hk2:=hk' false (by rw [decide_eq_false q2];simp)
     conv=>whnf
     exact hk2
 ·have hk2:=hk' false (by simp [hp])
  refine fnv (args:=_) mixed [] [] [] Tryz.func361 rfl (by kernel_rfl) (cw_ ?_)
  refine bf_ ?_
  refine bf_ ?_
  refine bf_ ?_
  exact hk2
theorem csrlegal_x (n:Int) (old v:Nat) (ho:old<2 ^ 64) (hv:v<2 ^ 64) (hk:K (ux (legalN n old v)) h):X Tryz.prog 252 #[.int .i64 n,ux old,ux v] h K:=by
 have hm:=mask_lt n
 have hl:legal0 n old v<2 ^ 64:=legal0_lt hv
 have ha:=andN_lt old (maskN n)
 have hvm:v &&& maskN n<2 ^ 64:=Nat.lt_of_le_of_lt Nat.and_le_left hv
 unfold legalN at hk
 refine fnv (args:=_) mixed [] [] [] Tryz.func252 rfl (by kernel_rfl) (cw_ ?_)
 refine csrmask_x n (cw_ ?_)
 refine val_by (andNot64 ho hm) (cw_ ?_)
 refine val_by (and64 hv hm) (cw_ ?_)
 refine val_by ((or64 ha hvm).trans (show ((andN old (maskN n) ||| (v &&& maskN n):Nat):Int)=((legal0 n old v:Nat):Int) from rfl)) (cw_ ?_)
 generalize legal0 n old v=w at hk hl ⊢
 have h11:w / 2 ^ 11<2 ^ 64:=Nat.lt_of_le_of_lt (Nat.div_le_self _ _) hl
 refine br_ (fun q0=>?_) fun q0=>?_
 ·rw [if_pos q0] at hk
  conv=>whnf
  refine val_by (shr64 w 11 (by decide)) (cw_ ?_)
  refine val_by ((and64 h11 (show 3<2 ^ 64 by decide)).trans (congrArg (fun x:Nat=>(x:Int)) (Nat.and_two_pow_sub_one_eq_mod (w / 2 ^ 11) 2))) (cw_ ?_)
  refine br_ (fun q1=>?_) fun q1=>?_
  ·rw [if_pos (by omega)] at hk
   conv=>whnf
   refine val_by (andNot64 hl (show 6144<2 ^ 64 by decide)) (cw_ ?_)
   refine val_by (and64 ho (show 6144<2 ^ 64 by decide)) (cw_ ?_)
   refine val_by (or64 (andN_lt w 6144) (show old &&& 6144<2 ^ 64 from Nat.lt_of_le_of_lt Nat.and_le_left ho)) (cw_ ?_)
   exact hk
  ·rw [if_neg (by omega)] at hk
   conv=>whnf
   exact hk
 ·rw [if_neg q0] at hk
  conv=>whnf
  refine br_ (fun q2=>?_) fun q2=>?_
  ·rw [if_pos q2] at hk
   conv=>whnf
   refine val_by (shr64 w 60 (by decide)) (cw_ ?_)
   generalize w / 2 ^ 60=m at hk ⊢
   refine br_ (fun q3=>?_) fun q3=>?_
   ·conv=>whnf
    refine br_ (fun q4=>?_) fun q4=>?_
    ·rw [if_pos ⟨by omega,by omega⟩] at hk
     conv=>whnf
     exact hk
    ·rw [if_neg (by omega)] at hk
     conv=>whnf
     exact hk
   ·rw [if_neg (by omega)] at hk
    conv=>whnf
    exact hk
  ·rw [if_neg q2] at hk
   conv=>whnf
   exact hk
end
end Go.Proofs.YtdhlpighdlnohaaGreat
namespace Go.Proofs.YtdhlpighdlnohaaGreat
open Go Go.Mid Go.RowKit Go.Bits
attribute [local irreducible] mid
section
variable {h:Hp} {K:Value→Hp→Prop}
theorem and_lt {a b:Nat} (h:a<2 ^ 64):a &&& b<2 ^ 64:=Nat.lt_of_le_of_lt Nat.and_le_left h
theorem sview_x (w:Nat) (hw:w<2 ^ 64) (hk:K (ux (viewN w)) h):X Tryz.prog 248 #[ux w] h K:=by
 refine fnv (args:=_) mixed [] [] [] Tryz.func248 rfl (by kernel_rfl) (cw_ ?_)
 refine csrmask_x 256 ?_
 rw [show maskN 256=786722 by decide +kernel]
 conv=>whnf
 refine val_by (or64 (show 786722<2 ^ 64 by decide) (show 8589934592<2 ^ 64 by decide)) (cw_ ?_)
 refine val_by (and64 hw (show (786722 ||| 8589934592:Nat)<2 ^ 64 by decide)) (cw_ ?_)
 exact hk
theorem slay_x (w v:Nat) (hw:w<2 ^ 64) (hv:v<2 ^ 64) (hk:K (ux (layS w v)) h):X Tryz.prog 251 #[ux w,ux v] h K:=by
 refine fnv (args:=_) mixed [] [] [] Tryz.func251 rfl (by kernel_rfl) (cw_ ?_)
 refine csrlegal_x 256 w v hw hv ?_
 exact hk
theorem and3 (n:Nat):n &&& 3=n % 4:=Nat.and_two_pow_sub_one_eq_mod n 2
theorem sprior_x (w:Nat) (hw:w<2 ^ 64) (hk:K (.int .i64 (priorN w)) h):X Tryz.prog 360 #[ux w] h K:=by
 have h11:w / 2 ^ 11<2 ^ 64:=Nat.lt_of_le_of_lt (Nat.div_le_self _ _) hw
 unfold priorN at hk
 refine fnv (args:=_) mixed [] [] [] Tryz.func360 rfl (by kernel_rfl) (cw_ ?_)
 refine val_by (shr64 w 11 (by decide)) (cw_ ?_)
 refine val_by ((and64 h11 (show 3<2 ^ 64 by decide)).trans (congrArg (fun x:Nat=>(x:Int)) (and3 _))) (cw_ ?_)
 generalize hm:w / 2 ^ 11 % 4=m at hk ⊢
 have hm4:m<4:=by omega
 refine ov_by (show IntKind.i64.wrap (m:Int)=(m:Int) by rw [wrapI64N _ (by omega)];unfold i64N;rw [if_pos (by omega)]) (cw_ ?_)
 refine br_ (fun q=>?_) fun q=>?_
 ·rw [if_pos (by omega)] at hk
  conv=>whnf
  exact hk
 ·rw [if_neg (by omega)] at hk
  conv=>whnf
  exact hk
theorem sprivilege_x (p:Int) (hk:K (.bool (decide (p=0∨p=1∨p=3))) h):X Tryz.prog 333 #[.int .i64 p] h K:=by
 refine fnv (args:=_) mixed [] [] [] Tryz.func333 rfl (by kernel_rfl) (cw_ ?_)
 repeat' (refine br_ (fun hq=>cw_ ?_) fun hq=>cw_ ?_)
 all_goals exact kq hk (bI (by rw [Bool.eq_iff_iff];simp;omega))
theorem senter_x (w:Nat) (fr to:Int) (hw:w<2 ^ 64) (hk:K (ux (enterN w fr to)) h):X Tryz.prog 266 #[ux w,.int .i64 fr,.int .i64 to] h K:=by
 unfold enterN at hk
 refine fnv (args:=_) mixed [] [] [] Tryz.func266 rfl (by kernel_rfl) (cw_ ?_)
 refine sprivilege_x fr ?_
 by_cases hp:fr=0∨fr=1∨fr=3
 ·rw [decide_eq_true hp]
  rw [if_neg (fun hh=>hh hp)] at hk
  conv=>whnf
  refine br_ (fun q1=>?_) fun q1=>?_
  ·rw [if_pos q1] at hk
   conv=>whnf
   refine sbit_x w 3 hw (by decide) (cw_ ?_)
   refine swith_x w 7 _ hw (by decide) (cw_ ?_)
   have w1:=with_lt (i:=7) (on:=bitB w 3) hw (by decide)
   refine swith_x _ 3 _ w1 (by decide) ?_
   have w2:=with_lt (i:=3) (on:=false) w1 (by decide)
   generalize withN (withN w 7 (bitB w 3)) 3 false=u at hk w2 ⊢
   conv=>whnf
   refine val_by (andNot64 w2 (show 6144<2 ^ 64 by decide)) (cw_ ?_)
   obtain ⟨m,rfl⟩:∃ m:Nat,fr=m:=⟨fr.toNat,by omega⟩
   have hm:m*2 ^ 11<2 ^ 64:=by omega
   refine ov_by (show IntKind.u64.wrap (m:Int)=(m:Int) from w64 (by omega)) (cw_ ?_)
   refine ov_by ((shl64 m 11 (by decide)).trans (by rw [Nat.mod_eq_of_lt (by omega)])) (cw_ ?_)
   refine val_by (or64 (andN_lt u 6144) hm) (cw_ ?_)
   rw [Int.toNat_natCast] at hk
   exact hk
  ·rw [if_neg q1] at hk
   conv=>whnf
   refine br_ (fun q2=>?_) fun q2=>?_
   ·rw [if_pos q2] at hk
    conv=>whnf
    refine sbit_x w 1 hw (by decide) (cw_ ?_)
    refine swith_x w 5 _ hw (by decide) (cw_ ?_)
    have w1:=with_lt (i:=5) (on:=bitB w 1) hw (by decide)
    refine swith_x _ 1 _ w1 (by decide) ?_
    have w2:=with_lt (i:=1) (on:=false) w1 (by decide)
    generalize withN (withN w 5 (bitB w 1)) 1 false=u at hk w2 ⊢
    conv=>whnf
    refine swith_x u 8 _ w2 (by decide) (cw_ ?_)
    exact kq hk (by show ux (withN u 8 _)=ux (withN u 8 _);congr 3)
   ·rw [if_neg q2] at hk
    conv=>whnf
    exact hk
 ·rw [decide_eq_false hp]
  rw [if_pos hp] at hk
  conv=>whnf
  exact hk
theorem sleave_x (w:Nat) (a:Int) (hw:w<2 ^ 64) (hk:K (.tuple #[ux (leaveW w a),.int .i64 (leaveP w a)]) h):X Tryz.prog 363 #[ux w,.int .i64 a] h K:=by
 unfold leaveW leaveP at hk
 refine fnv (args:=_) mixed [] [] [] Tryz.func363 rfl (by kernel_rfl) (cw_ ?_)
 refine br_ (fun q1=>?_) fun q1=>?_
 ·rw [if_pos q1,if_pos q1] at hk
  conv=>whnf
  refine sprior_x w hw ?_
  generalize priorN w=p at hk ⊢
  conv=>whnf
  refine sbit_x w 7 hw (by decide) (cw_ ?_)
  refine swith_x w 3 _ hw (by decide) (cw_ ?_)
  have w1:=with_lt (i:=3) (on:=bitB w 7) hw (by decide)
  refine swith_x _ 7 _ w1 (by decide) ?_
  have w2:=with_lt (i:=7) (on:=true) w1 (by decide)
  generalize withN (withN w 3 (bitB w 7)) 7 true=u at hk w2 ⊢
  conv=>whnf
  refine val_by (andNot64 w2 (show 6144<2 ^ 64 by decide)) (cw_ ?_)
  refine br_ (fun q2=>?_) fun q2=>?_
  ·rw [if_pos (fun e=>by omega)] at hk
   conv=>whnf
   refine swith_x _ 17 _ (andN_lt u 6144) (by decide) (cw_ ?_)
   exact hk
  ·rw [if_neg (fun e=>e (by omega))] at hk
   conv=>whnf
   exact hk
 ·rw [if_neg q1,if_neg q1] at hk
  conv=>whnf
  refine br_ (fun q3=>?_) fun q3=>?_
  ·rw [if_pos q3,if_pos q3] at hk
   conv=>whnf
   refine sbit_x w 8 hw (by decide) ?_
   generalize hb8:bitB w 8=b8 at hk ⊢
   have w1:=with_lt (i:=1) (on:=bitB w 5) hw (by decide)
   have w2:=with_lt (i:=5) (on:=true) w1 (by decide)
   have w3:=with_lt (i:=8) (on:=false) w2 (by decide)
   cases b8
   all_goals
    conv=>whnf
    refine sbit_x w 5 hw (by decide) (cw_ ?_)
    refine swith_x w 1 _ hw (by decide) (cw_ ?_)
    refine swith_x _ 5 _ w1 (by decide) (cw_ ?_)
    refine swith_x _ 8 _ w2 (by decide) (cw_ ?_)
    refine swith_x _ 17 _ w3 (by decide) (cw_ ?_)
    exact hk
  ·rw [if_neg q3,if_neg q3] at hk
   conv=>whnf
   exact hk
theorem sdata_x (w:Nat) (p:Int) (hw:w<2 ^ 64) (hk:K (.int .i64 (dataP w p)) h):X Tryz.prog 291 #[ux w,.int .i64 p] h K:=by
 unfold dataP at hk
 refine fnv (args:=_) mixed [] [] [] Tryz.func291 rfl (by kernel_rfl) (cw_ ?_)
 refine br_ (fun q1=>?_) fun q1=>?_
 ·conv=>whnf
  refine sbit_x w 17 hw (by decide) ?_
  generalize bitB w 17=b at hk ⊢
  cases b with
  | true =>
   rw [if_pos ⟨q1,rfl⟩] at hk
   conv=>whnf
   refine sprior_x w hw ?_
   exact hk
  | false =>
   rw [if_neg (fun hh=>by cases hh.2)] at hk
   conv=>whnf
   exact hk
 ·rw [if_neg (fun hh=>q1 hh.1)] at hk
  conv=>whnf
  exact hk
theorem slets_x (w:Nat) (p to:Int) (hw:w<2 ^ 64) (hk:K (.bool (letsB w p to)) h):X Tryz.prog 154 #[ux w,.int .i64 p,.int .i64 to] h K:=by
 have hfin:∀ b,b=letsB w p to→K (.bool b) h:=fun b e=>e ▸ hk
 unfold letsB at hfin
 clear hk
 refine fnv (args:=_) mixed [] [] [] Tryz.func154 rfl (by kernel_rfl) (cw_ ?_)
 refine br_ (fun q1=>?_) fun q1=>?_
 ·rw [if_pos q1] at hfin
  subst q1
  conv=>whnf
  refine br_ (fun q2=>?_) fun q2=>?_
  ·conv=>whnf
   exact hfin _ (by rw [decide_eq_true q2];rfl)
  ·rw [decide_eq_false q2] at hfin
   conv=>whnf
   refine br_ (fun q3=>?_) fun q3=>?_
   ·rw [decide_eq_true q3] at hfin
    conv=>whnf
    refine sbit_x w 3 hw (by decide) ?_
    generalize bitB w 3=b at hfin ⊢
    conv=>whnf
    exact hfin b (by cases b <;> rfl)
   ·rw [decide_eq_false q3] at hfin
    conv=>whnf
    exact hfin _ rfl
 ·rw [if_neg q1] at hfin
  conv=>whnf
  refine br_ (fun q4=>?_) fun q4=>?_
  ·rw [if_pos q4] at hfin
   subst q4
   conv=>whnf
   refine br_ (fun q2=>?_) fun q2=>?_
   ·conv=>whnf
    exact hfin _ (by rw [decide_eq_true q2];rfl)
   ·rw [decide_eq_false q2] at hfin
    conv=>whnf
    refine br_ (fun q3=>?_) fun q3=>?_
    ·rw [decide_eq_true q3] at hfin
     conv=>whnf
     refine sbit_x w 1 hw (by decide) ?_
     generalize bitB w 1=b at hfin ⊢
     conv=>whnf
     exact hfin b (by cases b <;> rfl)
    ·rw [decide_eq_false q3] at hfin
     conv=>whnf
     exact hfin _ rfl
  ·rw [if_neg q4] at hfin
   conv=>whnf
   exact hfin _ rfl
end
end Go.Proofs.YtdhlpighdlnohaaGreat
namespace Go.Proofs.YtdhlpighdlnohaaGreat
open Go Go.Mid Go.RowKit Go.Bits
attribute [local irreducible] mid
def Csf.cs (f:Csf):List Value:=[.int .i64 f.hart]++(f.w.map (fun n:Nat=>Value.int .u64 n)++[.bool f.cl,.bool f.il])
abbrev fvP (b o:Nat) (n:Int):Value:=.pointer ((idxN n).map fun i=>⟨b,o+1+i,none⟩)
theorem idx_lt {n:Int} {i:Nat} (h:idxN n=some i):i<22:=(List.findIdx?_eq_some_iff_getElem.1 h).1
theorem cs_w {f:Csf} (i:Nat) {v:Nat} (hv:f.w[i]? = some v):f.cs[1+i]? = some (.int .u64 v):=by
 unfold Csf.cs
 rw [List.getElem?_append_right (by show 1≤1+i;omega),show 1+i - [Value.int .i64 f.hart].length=i by show 1+i - 1=i;omega,List.getElem?_append_left (by rw [List.length_map];exact (List.getElem?_eq_some_iff.1 hv).1),List.getElem?_map,hv]
 rfl
theorem cs_len {f:Csf} (h:f.w.length=22):f.cs.length=25:=by simp [Csf.cs,h]
section
variable {h:Hp} {K:Value→Hp→Prop}
theorem aggOw:isAggT Tryz.prog 248 = some true:=by kernel_rfl
theorem sizOw:sizeT Tryz.prog 248 = some 22:=by kernel_rfl
abbrev ownV:Value:=.agg (ownL.map fun n:Nat=>Value.int .i64 n).toArray
theorem own_x (hk:K ownV h):X Tryz.prog 140 #[] h K:=by
 refine X.forget ?_
 refine fnv (args:=_) mixed [] [] [] Tryz.func140 rfl (by kernel_rfl) (cw_ ?_)
 refine new_intro (o:=_) (fun z h1 n_z le_z at_z ot_z=>cw_ ?_)
 refine big_by (v:=ownV) (by kernel_rfl) (cw_ ?_)
 refine wr_intro (by exact storeA0 (z:=ownV) sizOw at_z rfl rfl rfl) (fun h2 at_h2 ot_h2=>cw_ ?_)
 refine ⟨_,loadA0 aggOw sizOw at_h2 rfl,cw_ ?_⟩
 exact ⟨h,Hp.le_st n_z le_z ot_h2,hk⟩
theorem fword_x (b o:Nat) (n:Int) (hk:K (fvP b o n) h):X Tryz.prog 77 #[.pointer (some ⟨b,o,none⟩),.int .i64 n] h K:=by
 refine fnv (args:=_) mixed [] [] [] Tryz.func77 rfl (by kernel_rfl) (cw_ ?_)
 refine own_x (cw_ ?_)
 refine loop_at [8] [] (fun r vs _ h'=>h=h'∧∃ j:Nat,j≤22∧r=22 - j∧vs=[.v (.int .i64 j)]∧∀ (i:Nat) (y:Nat),i<j→ownL[i]? = some y→decide ((y:Int)=n)=false) 22 ⟨rfl,0,by omega,by omega,rfl,fun i y hi=>by omega⟩ ?_
 rintro r vs cs mm bx _ ⟨rfl,j,hj,rfl,rfl,hno⟩
 conv=>whnf
 refine br_ (fun q1=>?_) fun q1=>?_
 ·obtain ⟨y,hy⟩:∃ y,ownL[j]? = some y:=⟨_,List.getElem?_eq_getElem (by show j<22;omega)⟩
  conv=>whnf
  refine need_intro ⟨by omega,by show _<((22:Nat):Int);omega⟩ ?_
  refine part_cell (k:=j) (v:=.int .i64 y) aggIn (by rw [Int.toNat_natCast];exact Nat.mul_one _) (by rw [List.getElem?_map,hy];rfl) ?_
  conv=>whnf
  refine br_ (fun q2=>?_) fun q2=>?_
  ·have hix:idxN n=some j:=by
    unfold idxN
    rw [List.findIdx?_eq_some_iff_getElem]
    refine ⟨by show j<22;omega,?_,fun i hi=>?_⟩
    ·rw [(List.getElem?_eq_some_iff.1 hy).2];exact decide_eq_true q2
    ·have:=hno i _ hi (List.getElem?_eq_getElem (by show i<22;omega))
     simp [this]
   unfold fvP at hk
   rw [hix] at hk
   conv=>whnf
   refine need_intro ⟨by omega,by show _<((22:Nat):Int);omega⟩ ?_
   conv=>whnf
   exact kq hk (by
    rw [show Tryz.prog.types[25].size=1 by kernel_rfl]
    simp [addr_add]
    rfl)
  ·conv=>whnf
   refine n_ ?_
   exact ⟨22 - (j+1),by omega,rfl,j+1,by omega,rfl,rfl,fun i z hi hz=>by
    by_cases e:i=j
    ·subst e;rw [hy] at hz;cases hz;exact decide_eq_false q2
    ·exact hno i z (by omega) hz⟩
 ·obtain rfl:j=22:=by omega
  have hix:idxN n=none:=by
   unfold idxN
   rw [List.findIdx?_eq_none_iff]
   intro x hx
   obtain ⟨i,hi,e⟩:=List.getElem_of_mem hx
   exact hno i x hi (by rw [List.getElem?_eq_getElem hi,e])
  unfold fvP at hk
  rw [hix] at hk
  conv=>whnf
  exact hk
theorem aggU6:isAggT Tryz.prog 25 = some false:=by kernel_rfl
theorem sizU6:sizeT Tryz.prog 25 = some 1:=by kernel_rfl
theorem aggFp:isAggT Tryz.prog 170 = some false:=by kernel_rfl
theorem Csf.ok.at_ {f:Csf} (ok:f.ok) {n:Int} {i:Nat} (h:idxN n=some i):f.w[i]? = some (f.at n):=by
 have hi:i<f.w.length:=by rw [ok.len];exact idx_lt h
 unfold Csf.at
 rw [h]
 show _=some (f.w.getD i 0)
 rw [List.getD_eq_getElem?_getD,List.getElem?_eq_getElem hi]
 rfl
theorem Csf.ok.at_lt {f:Csf} (ok:f.ok) (n:Int):f.at n<2 ^ 64:=by
 cases h:idxN n with
 | some i=>exact ok.lt _ (List.mem_of_getElem? (ok.at_ h))
 | none =>
  unfold Csf.at
  rw [h]
  show (0:Nat)<_
  decide
theorem Pa.ldW {b o:Nat} {el:TypeId} {A B:List Value} {f:Csf} (p:Pa h b o el A f.cs B) (ok:f.ok) {n:Int} {i:Nat} (hi:idxN n=some i):loadH Tryz.prog 25 h ⟨b,o+1+i,none⟩=some (ux (f.at n)) :=
 p.ld (1+i) aggU6 (cs_w i (ok.at_ hi)) (by rw [Nat.add_assoc])
theorem get1_x {b o c:Nat} {el:TypeId} {A B:List Value} {f:Csf} (p:Pa h b o el A f.cs B) (ok:f.ok) (hc:h c=some (rowO 170 [.pointer (some ⟨b,o,none⟩)])) (n:Int) (i:Nat) (hi:idxN n=some i) (hk:K (ux (f.at n)) h):X Tryz.prog 247 #[.int .i64 n,.pointer (some ⟨c,0,none⟩)] h K:=by
 refine fnv (args:=_) mixed [] [] [] Tryz.func247 rfl (by kernel_rfl) (cw_ ?_)
 refine ⟨_,loadC0 aggFp hc rfl,cw_ ?_⟩
 refine fword_x b o n ?_
 unfold fvP
 rw [hi]
 conv=>whnf
 refine ⟨_,p.ldW ok hi,cw_ ?_⟩
 exact hk
theorem fget_x {b o:Nat} {el:TypeId} {A B:List Value} {f:Csf} (p:Pa h b o el A f.cs B) (ok:f.ok) (n:Int) (lines:Nat) (hl:lines<2 ^ 64) (hk:K (ux (f.get n lines)) h):X Tryz.prog 134 #[.pointer (some ⟨b,o,none⟩),.int .i64 n,ux lines] h K:=by
 refine X.forget ?_
 have hfin:∀ v h',v=ux (f.get n lines)→h.le h'→∃ g:Hp,g.le h'∧K v g:=fun v h' e hle=>⟨h,hle,e ▸ hk⟩
 clear hk
 refine fnv (args:=_) mixed [] [] [] Tryz.func134 rfl (by kernel_rfl) (cw_ ?_)
 refine new_intro (o:=rowO 170 [.pointer (some ⟨b,o,none⟩)]) (fun c h1 n_c le_c at_c ot_c=>cw_ ?_)
 have p1:=p.le le_c
 refine ⟨_,loadC0 aggFp at_c rfl,cw_ ?_⟩
 unfold Csf.get at hfin
 have hA:∀ m,f.at m<2 ^ 64:=ok.at_lt
 generalize hF:f.at=F at hA hfin
 have ld:∀ (m:Int) (i:Nat) (K':Value→Hp→Prop),idxN m=some i→K' (ux (F m)) h1→X Tryz.prog 247 #[.int .i64 m,.pointer (some ⟨c,0,none⟩)] h1 K':=fun m i K' hi hk'=>get1_x p1 ok at_c m i hi (by rw [hF];exact hk')
 have told:F 836 ||| (lines &&& 2696)<2 ^ 64:=Nat.or_lt_two_pow (hA _) (and_lt hl)
 refine br_ (fun q1=>?_) fun q1=>?_
 ·rw [if_pos q1] at hfin
  conv=>whnf
  refine ld 768 7 _ rfl (cw_ ?_)
  refine sview_x _ (hA _) ?_
  exact hfin _ h1 rfl le_c
 rw [if_neg q1] at hfin
 conv=>whnf
 refine br_ (fun q2=>?_) fun q2=>?_
 ·rw [if_pos q2] at hfin
  conv=>whnf
  refine ld 772 10 _ rfl (cw_ ?_)
  refine ld 771 9 _ rfl (cw_ ?_)
  refine val_by (and64 (hA _) (hA _)) (cw_ ?_)
  exact hfin _ h1 rfl le_c
 rw [if_neg q2] at hfin
 conv=>whnf
 refine br_ (fun q3=>?_) fun q3=>?_
 ·rw [if_pos q3] at hfin
  conv=>whnf
  refine ld 836 17 _ rfl (cw_ ?_)
  refine val_by (and64 hl (show 2696<2 ^ 64 by decide)) (cw_ ?_)
  refine val_by (or64 (hA _) (show lines &&& 2696<2 ^ 64 from and_lt hl)) (cw_ ?_)
  refine ld 771 9 _ rfl (cw_ ?_)
  refine val_by (and64 told (hA _)) (cw_ ?_)
  exact hfin _ h1 (by unfold toldN;rw [hF];rfl) le_c
 rw [if_neg q3] at hfin
 conv=>whnf
 refine br_ (fun q4=>?_) fun q4=>?_
 ·rw [if_pos q4] at hfin
  conv=>whnf
  refine ld 836 17 _ rfl (cw_ ?_)
  refine val_by (and64 hl (show 2696<2 ^ 64 by decide)) (cw_ ?_)
  refine val_by (or64 (hA _) (show lines &&& 2696<2 ^ 64 from and_lt hl)) (cw_ ?_)
  exact hfin _ h1 (by unfold toldN;rw [hF];rfl) le_c
 rw [if_neg q4] at hfin
 conv=>whnf
 refine br_ (fun q5=>?_) fun q5=>?_
 ·rw [if_pos q5] at hfin
  conv=>whnf
  exact hfin _ h1 rfl le_c
 rw [if_neg q5] at hfin
 conv=>whnf
 refine br_ (fun q6=>?_) fun q6=>?_
 ·rw [if_pos q6] at hfin
  conv=>whnf
  refine ld 2816 20 _ rfl ?_
  exact hfin _ h1 rfl le_c
 rw [if_neg q6] at hfin
 conv=>whnf
 refine br_ (fun q7=>?_) fun q7=>?_
 ·rw [if_pos q7] at hfin
  conv=>whnf
  refine ld 2818 21 _ rfl ?_
  exact hfin _ h1 rfl le_c
 rw [if_neg q7] at hfin
 conv=>whnf
 refine br_ (fun q8=>?_) fun q8=>?_
 ·rw [if_pos q8] at hfin
  conv=>whnf
  refine ⟨_,loadC0 aggFp at_c rfl,cw_ ?_⟩
  refine ⟨_,p1.ld 0 aggIn (v:=.int .i64 f.hart) rfl,cw_ ?_⟩
  refine ov_by (toU64 f.hart) (cw_ ?_)
  exact hfin _ h1 rfl le_c
 rw [if_neg q8] at hfin
 conv=>whnf
 refine ⟨_,loadC0 aggFp at_c rfl,cw_ ?_⟩
 refine fword_x b o n ?_
 unfold fvP
 cases hi:idxN n with
 | some i =>
  conv=>whnf
  refine ⟨_,p1.ldW ok hi,cw_ ?_⟩
  exact hfin _ h1 (by rw [← hF];rfl) le_c
 | none =>
  have h0:F n=0:=by rw [← hF];unfold Csf.at;rw [hi]
  conv=>whnf
  exact hfin _ h1 (by rw [h0];rfl) le_c
end
end Go.Proofs.YtdhlpighdlnohaaGreat
