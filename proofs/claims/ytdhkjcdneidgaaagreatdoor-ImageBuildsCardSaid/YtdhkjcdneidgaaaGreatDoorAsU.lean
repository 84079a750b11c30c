/-
  Instructions as text: the document's op of a first word (printed by a program).
-/
import Derived.Test.YtdhkjcdneidgaaaGreatDoorAsSp
import Derived.Test.YtdhkjcdneidgaaaGreatDoorInsP
import Derived.Test.YtdhkjcdneidgaaaGreatDoorAsQ
import Derived.Test.YtdhkjcdneidgaaaGreatDoorAsO
import Derived.Test.YtdhkjcdneidgaaaGreatDoorAsT
set_option linter.unusedSimpArgs false
set_option linter.unusedVariables false
set_option maxHeartbeats 8000000
set_option maxRecDepth 10000
set_option linter.unusedSimpArgs false
set_option linter.unusedVariables false
namespace Go.Proofs.YtdhkjcdneidgaaaGreatDoor
open Go Go.Mid Go.RowKit
attribute [local irreducible] mid
def endsB (s t:Str):Bool:=decide (t.length≤s.length) && decide (s.drop (s.length - t.length)=t)
def classR (n:Int) (s:Str):Int:=if s=[108,117,105]∨s=[97,117,105,112,99] then 2 else if s=[106,97,108]∨s=[106,97,108,114] then 3 else if n<11 then 4 else if s=[102,101,110,99,101]∨s=[102,101,110,99,101,46,105] then 9 else if s=[101,99,97,108,108]∨s=[101,98,114,101,97,107]∨s=[109,114,101,116]∨s=[115,114,101,116]∨s=[119,102,105]∨s=[115,102,101,110,99,101,46,118,109,97] then 10 else if endsB s [46,119]=true∨endsB s [46,100]=true then 7 else if 3<s.length∧s.take 3=[99,115,114] then 8 else if s.length≤3∧s[0]? = some 108 then 5 else if s=[115,98]∨s=[115,104]∨s=[115,119]∨s=[115,100] then 6 else 1
theorem class_eq {n:Int} (h:1≤n∧n≤98):classR n (opName n)=classN n:=by
 have key:∀ k:Nat,k<98→classR ((k+1:Nat):Int) (opName ((k+1:Nat):Int))=classN ((k+1:Nat):Int):=by decide +kernel
 have:=key (n.toNat - 1) (by omega)
 rwa [show ((n.toNat - 1+1:Nat):Int)=n by omega] at this
section
variable {h:Hp} {K:Value→Hp→Prop}
theorem ends_x (s t:Str) (hs:s.length≤2 ^ 40) (hk:K (.bool (endsB s t)) h):X Tryz.prog 192 #[.string (bs s),.string (bs t)] h K:=by
 have l1:(bs s).size=s.length:=bs_size s
 have l2:(bs t).size=t.length:=bs_size t
 unfold endsB at hk
 refine fnv (args:=_) mixed [] [] [] Tryz.func192 rfl (by kernel_rfl) (cw_ ?_)
 refine br_ (fun q1=>?_) fun q1=>?_
 ·rw [decide_eq_true (by omega)] at hk
  conv=>whnf
  refine n_ ?_
  refine n_ ?_
  refine sub_from (m:=s.drop (s.length - t.length)) (by congr 1;omega) (cw_ ?_)
  by_cases e:s.drop (s.length - t.length)=t
  ·rw [decide_eq_true e] at hk
   refine seq_true (e) (cw_ ?_)
   exact hk
  ·rw [decide_eq_false e] at hk
   refine seq_false (e) (cw_ ?_)
   exact hk
 ·rw [decide_eq_false (by omega)] at hk
  conv=>whnf
  exact hk
theorem rclass_x (n:Int) (h1:1≤n∧n≤98) (hk:K (.int .i64 (classN n)) h):X Tryz.prog 158 #[.int .i64 n] h K:=by
 refine X.forget ?_
 rw [← class_eq h1] at hk
 obtain ⟨n1,n2⟩:=opName_ne h1
 have hg:=names0_get h1
 generalize opName n=s at hk n1 n2 hg
 have hsz:(bs s).size=s.length:=bs_size s
 unfold classR at hk
 refine fnv (args:=_) mixed [] [] [] Tryz.func158 rfl (by kernel_rfl) (cw_ ?_)
 refine bf_ ?_
 refine bf_ ?_
 refine rnames_x fun b1 h1 le1 hb1=>(cw_ ?_)
 refine n_ ?_
 refine ⟨_,loadI aggStr hb1 (j:=n.toNat) (by omega) hg,cw_ ?_⟩
 by_cases e0_0:s=[108,117,105]
 ·rw [if_pos (by simp [e0_0])] at hk
  refine seq_true (e0_0) (cw_ ?_)
  exact ⟨h,le1,hk⟩
 refine seq_false (e0_0) (cw_ ?_)
 by_cases e0_1:s=[97,117,105,112,99]
 ·rw [if_pos (by simp [e0_1])] at hk
  refine seq_true (e0_1) (cw_ ?_)
  exact ⟨h,le1,hk⟩
 refine seq_false (e0_1) (cw_ ?_)
 rw [if_neg (by simp [e0_0,e0_1])] at hk
 by_cases e1_0:s=[106,97,108]
 ·rw [if_pos (by simp [e1_0])] at hk
  refine seq_true (e1_0) (cw_ ?_)
  exact ⟨h,le1,hk⟩
 refine seq_false (e1_0) (cw_ ?_)
 by_cases e1_1:s=[106,97,108,114]
 ·rw [if_pos (by simp [e1_1])] at hk
  refine seq_true (e1_1) (cw_ ?_)
  exact ⟨h,le1,hk⟩
 refine seq_false (e1_1) (cw_ ?_)
 rw [if_neg (by simp [e1_0,e1_1])] at hk
 refine br_ (fun e2=>?_) fun e2=>?_
 ·rw [if_pos (by omega)] at hk
  conv=>whnf
  exact ⟨h,le1,hk⟩
 rw [if_neg (by omega)] at hk
 conv=>whnf
 by_cases e3_0:s=[102,101,110,99,101]
 ·rw [if_pos (by simp [e3_0])] at hk
  refine seq_true (e3_0) (cw_ ?_)
  exact ⟨h,le1,hk⟩
 refine seq_false (e3_0) (cw_ ?_)
 by_cases e3_1:s=[102,101,110,99,101,46,105]
 ·rw [if_pos (by simp [e3_1])] at hk
  refine seq_true (e3_1) (cw_ ?_)
  exact ⟨h,le1,hk⟩
 refine seq_false (e3_1) (cw_ ?_)
 rw [if_neg (by simp [e3_0,e3_1])] at hk
 by_cases e4_0:s=[101,99,97,108,108]
 ·rw [if_pos (by simp [e4_0])] at hk
  refine seq_true (e4_0) (cw_ ?_)
  exact ⟨h,le1,hk⟩
 refine seq_false (e4_0) (cw_ ?_)
 by_cases e4_1:s=[101,98,114,101,97,107]
 ·rw [if_pos (by simp [e4_1])] at hk
  refine seq_true (e4_1) (cw_ ?_)
  exact ⟨h,le1,hk⟩
 refine seq_false (e4_1) (cw_ ?_)
 by_cases e4_2:s=[109,114,101,116]
 ·rw [if_pos (by simp [e4_2])] at hk
  refine seq_true (e4_2) (cw_ ?_)
  exact ⟨h,le1,hk⟩
 refine seq_false (e4_2) (cw_ ?_)
 by_cases e4_3:s=[115,114,101,116]
 ·rw [if_pos (by simp [e4_3])] at hk
  refine seq_true (e4_3) (cw_ ?_)
  exact ⟨h,le1,hk⟩
 refine seq_false (e4_3) (cw_ ?_)
 by_cases e4_4:s=[119,102,105]
 ·rw [if_pos (by simp [e4_4])] at hk
  refine seq_true (e4_4) (cw_ ?_)
  exact ⟨h,le1,hk⟩
 refine seq_false (e4_4) (cw_ ?_)
 by_cases e4_5:s=[115,102,101,110,99,101,46,118,109,97]
 ·rw [if_pos (by simp [e4_5])] at hk
  refine seq_true (e4_5) (cw_ ?_)
  exact ⟨h,le1,hk⟩
 refine seq_false (e4_5) (cw_ ?_)
 rw [if_neg (by simp [e4_0,e4_1,e4_2,e4_3,e4_4,e4_5])] at hk
 refine ends_x s [46,119] (by omega) ?_
 cases e5:endsB s [46,119] with
 | true =>
  rw [if_pos (.inl e5)] at hk
  conv=>whnf
  exact ⟨h,le1,hk⟩
 | false =>
  conv=>whnf
  refine ends_x s [46,100] (by omega) ?_
  cases f5:endsB s [46,100] with
  | true =>
   rw [if_pos (.inr f5)] at hk
   conv=>whnf
   exact ⟨h,le1,hk⟩
  | false =>
   rw [if_neg (by simp [e5,f5])] at hk
   conv=>whnf
   by_cases e6:3<s.length∧s.take 3=[99,115,114]
   ·rw [if_pos e6] at hk
    refine bt_ ?_ (by rw [bs_size];simp;omega)
    refine n_ ?_
    refine sub_by (m:=s.take 3) rfl (cw_ ?_)
    refine seq_true (e6.2) (cw_ ?_)
    exact ⟨h,le1,hk⟩
   rw [if_neg e6] at hk
   refine br_ (fun q7=>?_) fun q7=>?_
   ·have e7b:s.take 3≠[99,115,114]:=fun e=>e6 ⟨by omega,e⟩
    conv=>whnf
    refine n_ ?_
    refine sub_by (m:=s.take 3) rfl (cw_ ?_)
    refine seq_false (e7b) (cw_ ?_)
    by_cases e7:s.length≤3∧s[0]? = some 108
    ·rw [if_pos e7] at hk
     refine bt_ ?_ (by rw [bs_size];simp;omega)
     refine ch_intro ((108:UInt8)) (by omega) (e7.2) (cw_ ?_)
     exact ⟨h,le1,hk⟩
    rw [if_neg e7] at hk
    refine br_ (fun f7=>?_) fun f7=>?_
    ·obtain ⟨c,hc⟩:∃ c,s[0]? = some c:=⟨_,List.getElem?_eq_getElem (List.length_pos_iff.2 n1)⟩
     have hcn:c≠108:=fun e=>e7 ⟨by omega,by rw [hc,e]⟩
     conv=>whnf
     refine ch_intro (c) (by omega) (hc) (cw_ ?_)
     refine bf_ ?_ (by simpa using fun e=>hcn (UInt8.toNat_inj.1 (by have:(108:UInt8).toNat=108:=rfl;omega)))
     by_cases e9_0:s=[115,98]
     ·rw [if_pos (by simp [e9_0])] at hk
      refine seq_true (e9_0) (cw_ ?_)
      exact ⟨h,le1,hk⟩
     refine seq_false (e9_0) (cw_ ?_)
     by_cases e9_1:s=[115,104]
     ·rw [if_pos (by simp [e9_1])] at hk
      refine seq_true (e9_1) (cw_ ?_)
      exact ⟨h,le1,hk⟩
     refine seq_false (e9_1) (cw_ ?_)
     by_cases e9_2:s=[115,119]
     ·rw [if_pos (by simp [e9_2])] at hk
      refine seq_true (e9_2) (cw_ ?_)
      exact ⟨h,le1,hk⟩
     refine seq_false (e9_2) (cw_ ?_)
     by_cases e9_3:s=[115,100]
     ·rw [if_pos (by simp [e9_3])] at hk
      refine seq_true (e9_3) (cw_ ?_)
      exact ⟨h,le1,hk⟩
     refine seq_false (e9_3) (cw_ ?_)
     rw [if_neg (by simp [e9_0,e9_1,e9_2,e9_3])] at hk
     exact ⟨h,le1,hk⟩
    ·conv=>whnf
     by_cases e9_0:s=[115,98]
     ·rw [if_pos (by simp [e9_0])] at hk
      refine seq_true (e9_0) (cw_ ?_)
      exact ⟨h,le1,hk⟩
     refine seq_false (e9_0) (cw_ ?_)
     by_cases e9_1:s=[115,104]
     ·rw [if_pos (by simp [e9_1])] at hk
      refine seq_true (e9_1) (cw_ ?_)
      exact ⟨h,le1,hk⟩
     refine seq_false (e9_1) (cw_ ?_)
     by_cases e9_2:s=[115,119]
     ·rw [if_pos (by simp [e9_2])] at hk
      refine seq_true (e9_2) (cw_ ?_)
      exact ⟨h,le1,hk⟩
     refine seq_false (e9_2) (cw_ ?_)
     by_cases e9_3:s=[115,100]
     ·rw [if_pos (by simp [e9_3])] at hk
      refine seq_true (e9_3) (cw_ ?_)
      exact ⟨h,le1,hk⟩
     refine seq_false (e9_3) (cw_ ?_)
     rw [if_neg (by simp [e9_0,e9_1,e9_2,e9_3])] at hk
     exact ⟨h,le1,hk⟩
   ·conv=>whnf
    by_cases e7:s.length≤3∧s[0]? = some 108
    ·rw [if_pos e7] at hk
     refine bt_ ?_ (by rw [bs_size];simp;omega)
     refine ch_intro ((108:UInt8)) (by omega) (e7.2) (cw_ ?_)
     exact ⟨h,le1,hk⟩
    rw [if_neg e7] at hk
    refine br_ (fun f7=>?_) fun f7=>?_
    ·obtain ⟨c,hc⟩:∃ c,s[0]? = some c:=⟨_,List.getElem?_eq_getElem (List.length_pos_iff.2 n1)⟩
     have hcn:c≠108:=fun e=>e7 ⟨by omega,by rw [hc,e]⟩
     conv=>whnf
     refine ch_intro (c) (by omega) (hc) (cw_ ?_)
     refine bf_ ?_ (by simpa using fun e=>hcn (UInt8.toNat_inj.1 (by have:(108:UInt8).toNat=108:=rfl;omega)))
     by_cases e9_0:s=[115,98]
     ·rw [if_pos (by simp [e9_0])] at hk
      refine seq_true (e9_0) (cw_ ?_)
      exact ⟨h,le1,hk⟩
     refine seq_false (e9_0) (cw_ ?_)
     by_cases e9_1:s=[115,104]
     ·rw [if_pos (by simp [e9_1])] at hk
      refine seq_true (e9_1) (cw_ ?_)
      exact ⟨h,le1,hk⟩
     refine seq_false (e9_1) (cw_ ?_)
     by_cases e9_2:s=[115,119]
     ·rw [if_pos (by simp [e9_2])] at hk
      refine seq_true (e9_2) (cw_ ?_)
      exact ⟨h,le1,hk⟩
     refine seq_false (e9_2) (cw_ ?_)
     by_cases e9_3:s=[115,100]
     ·rw [if_pos (by simp [e9_3])] at hk
      refine seq_true (e9_3) (cw_ ?_)
      exact ⟨h,le1,hk⟩
     refine seq_false (e9_3) (cw_ ?_)
     rw [if_neg (by simp [e9_0,e9_1,e9_2,e9_3])] at hk
     exact ⟨h,le1,hk⟩
    ·conv=>whnf
     by_cases e9_0:s=[115,98]
     ·rw [if_pos (by simp [e9_0])] at hk
      refine seq_true (e9_0) (cw_ ?_)
      exact ⟨h,le1,hk⟩
     refine seq_false (e9_0) (cw_ ?_)
     by_cases e9_1:s=[115,104]
     ·rw [if_pos (by simp [e9_1])] at hk
      refine seq_true (e9_1) (cw_ ?_)
      exact ⟨h,le1,hk⟩
     refine seq_false (e9_1) (cw_ ?_)
     by_cases e9_2:s=[115,119]
     ·rw [if_pos (by simp [e9_2])] at hk
      refine seq_true (e9_2) (cw_ ?_)
      exact ⟨h,le1,hk⟩
     refine seq_false (e9_2) (cw_ ?_)
     by_cases e9_3:s=[115,100]
     ·rw [if_pos (by simp [e9_3])] at hk
      refine seq_true (e9_3) (cw_ ?_)
      exact ⟨h,le1,hk⟩
     refine seq_false (e9_3) (cw_ ?_)
     rw [if_neg (by simp [e9_0,e9_1,e9_2,e9_3])] at hk
     exact ⟨h,le1,hk⟩
def tailsL:List Str:=[[],[46,97,113],[46,114,108],[46,97,113,114,108]]
def wordK (i k:Nat):Str:=opNames.getD i []++tailsL.getD k []
def okK (i k:Nat):Prop:=k=0∨classN (i+1:Nat)=7
instance (i k:Nat):Decidable (okK i k):=by unfold okK;infer_instance
theorem opA_word:∀ i:Nat,i<98→∀ k:Nat,k<4→okK i k→opA (wordK i k)=some (i,decide (k=1∨k=3),decide (1<k)):=by
 have key:((List.range 98).all fun i=>(List.range 4).all fun k=>!(decide (okK i k)) || decide (opA (wordK i k)=some (i,decide (k=1∨k=3),decide (1<k))))=true:=by decide +kernel
 intro i hi k hk hok
 have:=List.all_eq_true.1 (List.all_eq_true.1 key i (List.mem_range.2 hi)) k (List.mem_range.2 hk)
 rw [decide_eq_true hok] at this
 exact of_decide_eq_true this
theorem opA_inv {w:Str} {i:Nat} {aq rl:Bool} (h:opA w=some (i,aq,rl)):i<98∧∃ k,k<4∧okK i k∧wordK i k=w:=by
 have hget:∀ {l:Str} {j:Nat},opIx l=some j→opNames.getD j []=l:=fun {l j} e=>by
  unfold opIx at e
  rw [List.findIdx?_eq_some_iff_getElem] at e
  obtain ⟨hj,e1,_⟩:=e
  rw [List.getD_eq_getElem?_getD,List.getElem?_eq_getElem hj]
  simpa using e1
 unfold opA at h
 cases h1:opIx w with
 | some j =>
  rw [h1] at h
  simp only [Option.some.injEq,Prod.mk.injEq] at h
  obtain ⟨rfl,rfl,rfl⟩:=h
  exact ⟨opIx_lt h1,0,by decide,.inl rfl,by unfold wordK;rw [hget h1];simp [tailsL]⟩
 | none =>
  rw [h1] at h
  simp only at h
  split at h
  ·cases h
  ·cases h2:opIx (w.take (Lib.lastIndexByte (bs w) 46).toNat) with
   | none=>rw [h2] at h;cases h
   | some j =>
    rw [h2] at h
    simp only at h
    split at h
    ·cases h
    ·rename_i hc
     have hc:classN (j+1:Nat)=7:=by simpa using hc
     have hw:=List.take_append_drop (Lib.lastIndexByte (bs w) 46).toNat w
     have hlt:=opIx_lt h2
     have hj:=hget h2
     generalize w.take (Lib.lastIndexByte (bs w) 46).toNat=a at hw hj
     generalize w.drop (Lib.lastIndexByte (bs w) 46).toNat=d at hw h
     split at h
     ·rename_i hd
      simp only [Option.some.injEq,Prod.mk.injEq] at h
      obtain ⟨rfl,rfl,rfl⟩:=h
      exact ⟨hlt,1,by decide,.inr hc,by unfold wordK;rw [hj,← hw,hd];rfl⟩
     ·split at h
      ·rename_i hd
       simp only [Option.some.injEq,Prod.mk.injEq] at h
       obtain ⟨rfl,rfl,rfl⟩:=h
       exact ⟨hlt,2,by decide,.inr hc,by unfold wordK;rw [hj,← hw,hd];rfl⟩
      ·split at h
       ·rename_i hd
        simp only [Option.some.injEq,Prod.mk.injEq] at h
        obtain ⟨rfl,rfl,rfl⟩:=h
        exact ⟨hlt,3,by decide,.inr hc,by unfold wordK;rw [hj,← hw,hd];rfl⟩
       ·cases h
def firstV (w:Str):Value:=match opA w with
 | some (i,aq,rl)=>.tuple #[insnO i aq rl,.bool true]
 | none=>.tuple #[.agg insn0.toArray,.bool false]
theorem names0_nat {i:Nat} (h:i<98):(opNames0.map sv)[i+1]? = some (sv (opNames.getD i [])):=by
 unfold opNames0
 rw [List.map_cons,List.getElem?_cons_succ,List.getElem?_map,List.getD_eq_getElem?_getD,List.getElem?_eq_getElem (by rw [opNames_len];omega)]
 rfl
theorem nm_len {i:Nat} (h:i<98):(opNames.getD i []).length≤20:=by
 rw [List.getD_eq_getElem?_getD,List.getElem?_eq_getElem (by rw [opNames_len];omega)]
 exact (opNames_ne _ (List.getElem_mem _)).2
theorem tails_len:∀ k:Nat,k<4→(tailsL.getD k []).length≤5∧(tailsL.map sv)[k]? = some (sv (tailsL.getD k [])):=by
 intro k hk
 match k,hk with
 | 0,_=>exact ⟨by decide,rfl⟩
 | 1,_=>exact ⟨by decide,rfl⟩
 | 2,_=>exact ⟨by decide,rfl⟩
 | 3,_=>exact ⟨by decide,rfl⟩
theorem rfirst_x (w:Str) (hk:K (firstV w) h):X Tryz.prog 117 #[.string (bs w)] h K:=by
 refine X.forget ?_
 refine fnv (args:=_) mixed [(2,2)] [] [] Tryz.func117 rfl (by kernel_rfl) (cw_ ?_)
 refine rnames_x fun b1 h1 le1 hb1=>(cw_ ?_)
 refine new_intro (o:=rowO 9 (tailsL.map sv)) (fun b2 h2 n_b2 le_b2 at_b2 ot_b2=>cw_ ?_)
 have hle:h.le h2:=Hp.le_trans le1 le_b2
 have hb1':=le_b2 _ _ hb1
 clear le1 le_b2 n_b2 ot_b2
 refine loop_at [6] [2] (fun r vs cs h'=>h2=h'∧cs=[some insn0]∧∃ i:Nat,i≤98∧r=98 - i∧vs=[.v (.int .i64 ((i:Int)+1))]∧∀ j k,j<i→k<4→okK j k→wordK j k≠w) 98 ⟨rfl,rfl,0,by omega,rfl,rfl,fun j k hj=>absurd hj (Nat.not_lt_zero _)⟩ ?_
 rintro r vs cs mm bx _ ⟨rfl,rfl,i,hi,rfl,rfl,hno⟩
 conv=>whnf
 refine br_ (fun q1=>?_) fun q1=>?_
 ·have hi98:i<98:=by omega
  have g1:=names0_nat hi98
  have l1:=nm_len hi98
  conv=>whnf
  refine loop_at [7] [2] (fun r vs cs h'=>h2=h'∧cs=[some insn0]∧∃ k:Nat,k≤4∧r=4 - k∧vs=[.v (.int .i64 k)]∧∀ k',k'<k→okK i k'→wordK i k'≠w) 4 ⟨rfl,rfl,0,by omega,rfl,rfl,fun k hk=>absurd hk (Nat.not_lt_zero _)⟩ ?_
  rintro r vs cs mm2 bx2 _ ⟨rfl,rfl,k,hk4,rfl,rfl,hno2⟩
  conv=>whnf
  refine br_ (fun q2=>?_) fun q2=>?_
  ·have hk4':k<4:=by omega
   obtain ⟨l2,g2⟩:=tails_len k hk4'
   have hw1:opNames.getD i []++tailsL.getD k []=wordK i k:=rfl
   generalize opNames.getD i []=nm at hw1 g1 l1
   generalize tailsL.getD k []=tl at hw1 g2 l2
   conv=>whnf
   refine n_ ?_
   refine ⟨_,loadI aggStr hb1' (j:=i+1) (by omega) g1,cw_ ?_⟩
   refine n_ ?_
   refine ⟨_,loadI aggStr at_b2 (j:=k) (by omega) g2,cw_ ?_⟩
   refine cat_by (m:=wordK i k) (by omega) hw1 (cw_ ?_)
   by_cases hm:wordK i k=w
   ·refine seq_true (hm) (cw_ ?_)
    have hk3:k=0∨k=1∨k=2∨k=3:=by omega
    rcases hk3 with rfl | rfl | rfl | rfl
    ·have OKK:okK i 0:=.inl rfl
     have hA:=opA_word i hi98 _ hk4' OKK
     rw [hm] at hA
     unfold firstV at hk
     rw [hA] at hk
     simp only at hk
     conv=>whnf
     exact ⟨h,hle,hk⟩
    ·conv=>whnf
     refine rclass_x _ (by omega) ?_
     refine ⟨trivial,cw_ ?_⟩
     by_cases hc:classN (i+1:Nat)=7
     ·have OKK:okK i 1:=.inr hc
      have hA:=opA_word i hi98 _ hk4' OKK
      rw [hm] at hA
      unfold firstV at hk
      rw [hA] at hk
      simp only at hk
      refine bt_ ?_ (by rw [show ((i:Int)+1)=((i+1:Nat):Int) by omega,hc];rfl)
      exact ⟨h,hle,hk⟩
     ·refine bf_ ?_ (by simpa using hc)
      refine n_ ?_
      refine ⟨4 - (1+1),by omega,rfl,rfl,1+1,by omega,rfl,rfl,fun k' hk' ok'=>?_⟩
      rcases Nat.lt_succ_iff_lt_or_eq.1 hk' with hk' | rfl
      ·exact hno2 k' hk' ok'
      ·exact fun _=>(ok'.resolve_left (by decide) |> hc)
    ·conv=>whnf
     refine rclass_x _ (by omega) ?_
     refine ⟨trivial,cw_ ?_⟩
     by_cases hc:classN (i+1:Nat)=7
     ·have OKK:okK i 2:=.inr hc
      have hA:=opA_word i hi98 _ hk4' OKK
      rw [hm] at hA
      unfold firstV at hk
      rw [hA] at hk
      simp only at hk
      refine bt_ ?_ (by rw [show ((i:Int)+1)=((i+1:Nat):Int) by omega,hc];rfl)
      exact ⟨h,hle,hk⟩
     ·refine bf_ ?_ (by simpa using hc)
      refine n_ ?_
      refine ⟨4 - (2+1),by omega,rfl,rfl,2+1,by omega,rfl,rfl,fun k' hk' ok'=>?_⟩
      rcases Nat.lt_succ_iff_lt_or_eq.1 hk' with hk' | rfl
      ·exact hno2 k' hk' ok'
      ·exact fun _=>(ok'.resolve_left (by decide) |> hc)
    ·conv=>whnf
     refine rclass_x _ (by omega) ?_
     refine ⟨trivial,cw_ ?_⟩
     by_cases hc:classN (i+1:Nat)=7
     ·have OKK:okK i 3:=.inr hc
      have hA:=opA_word i hi98 _ hk4' OKK
      rw [hm] at hA
      unfold firstV at hk
      rw [hA] at hk
      simp only at hk
      refine bt_ ?_ (by rw [show ((i:Int)+1)=((i+1:Nat):Int) by omega,hc];rfl)
      exact ⟨h,hle,hk⟩
     ·refine bf_ ?_ (by simpa using hc)
      refine n_ ?_
      refine ⟨4 - (3+1),by omega,rfl,rfl,3+1,by omega,rfl,rfl,fun k' hk' ok'=>?_⟩
      rcases Nat.lt_succ_iff_lt_or_eq.1 hk' with hk' | rfl
      ·exact hno2 k' hk' ok'
      ·exact fun _=>(ok'.resolve_left (by decide) |> hc)
   ·refine seq_false (hm) (cw_ ?_)
    refine n_ ?_
    refine ⟨4 - (k+1),by omega,rfl,rfl,k+1,by omega,rfl,rfl,fun k' hk' ok'=>?_⟩
    rcases Nat.lt_succ_iff_lt_or_eq.1 hk' with hk' | rfl
    ·exact hno2 k' hk' ok'
    ·exact hm
  ·obtain rfl:k=4:=by omega
   conv=>whnf
   refine n_ ?_
   refine ⟨98 - (i+1),by omega,rfl,rfl,i+1,by omega,rfl,by rw [show (((i+1:Nat):Int)+1)=(i:Int)+1+1 by omega];rfl,fun j k hj hk4 hok=>?_⟩
   rcases Nat.lt_succ_iff_lt_or_eq.1 hj with hj | rfl
   ·exact hno j k hj hk4 hok
   ·exact hno2 k hk4 hok
 ·have hn:opA w=none:=by
   cases hA:opA w with
   | none=>rfl
   | some t =>
    obtain ⟨i',aq,rl⟩:=t
    obtain ⟨h1,k,h2,h3,h4⟩:=opA_inv hA
    exact absurd h4 (hno i' k (by omega) h2 h3)
  unfold firstV at hk
  rw [hn] at hk
  conv=>whnf
  exact ⟨h,hle,hk⟩
end
end Go.Proofs.YtdhkjcdneidgaaaGreatDoor
