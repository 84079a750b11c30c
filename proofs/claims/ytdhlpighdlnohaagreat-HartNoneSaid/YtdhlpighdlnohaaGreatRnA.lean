/-
  Ops: the document's names and classes (printed by a program).
-/
import Derived.Test.YtdhlpighdlnohaaGreatBitXg
import Derived.Test.YtdhlpighdlnohaaGreatCsF
import Derived.Test.YtdhlpighdlnohaaGreatBitP
import Derived.Test.YtdhlpighdlnohaaGreatEvD
set_option linter.unusedSimpArgs false
set_option linter.unusedVariables false
set_option maxHeartbeats 8000000
set_option maxRecDepth 10000
set_option linter.unusedSimpArgs false
set_option linter.unusedVariables false
namespace Go.Proofs.YtdhlpighdlnohaaGreat.Rn
open Go Go.Mid Go.RowKit
attribute [local irreducible] mid
abbrev sv (l:Str):Value:=.string (bs l)
def opNames0:List Str:=[] :: opNames
theorem names0_get {n:Int} (h:1≤n∧n≤98):(opNames0.map sv)[n.toNat]? = some (sv (opName n)):=by
 obtain ⟨k,rfl⟩:∃ k:Nat,n=((k+1:Nat):Int):=⟨n.toNat - 1,by omega⟩
 unfold opName opNames0
 rw [if_pos h,List.map_cons,show ((k+1:Nat):Int).toNat=k+1 by omega,List.getElem?_cons_succ,List.getElem?_map,Nat.add_sub_cancel,List.getD_eq_getElem?_getD,List.getElem?_eq_getElem (by rw [opNames_len];omega)]
 rfl
theorem opNames_ne:∀ n ∈ opNames,n≠[]∧n.length≤20:=by decide +kernel
theorem opName_ne {n:Int} (h:1≤n∧n≤98):opName n≠[]∧(opName n).length≤20:=by
 unfold opName
 rw [if_pos h]
 have hi:n.toNat - 1<opNames.length:=by rw [opNames_len];omega
 rw [List.getD_eq_getElem?_getD,List.getElem?_eq_getElem hi]
 exact opNames_ne _ (List.getElem_mem hi)
def endsB (s t:Str):Bool:=decide (t.length≤s.length) && decide (s.drop (s.length - t.length)=t)
def classR (n:Int) (s:Str):Int:=if s=[108,117,105]∨s=[97,117,105,112,99] then 2 else if s=[106,97,108]∨s=[106,97,108,114] then 3 else if n<11 then 4 else if s=[102,101,110,99,101]∨s=[102,101,110,99,101,46,105] then 9 else if s=[101,99,97,108,108]∨s=[101,98,114,101,97,107]∨s=[109,114,101,116]∨s=[115,114,101,116]∨s=[119,102,105]∨s=[115,102,101,110,99,101,46,118,109,97] then 10 else if endsB s [46,119]=true∨endsB s [46,100]=true then 7 else if 3<s.length∧s.take 3=[99,115,114] then 8 else if s.length≤3∧s[0]? = some 108 then 5 else if s=[115,98]∨s=[115,104]∨s=[115,119]∨s=[115,100] then 6 else 1
theorem class_eq {n:Int} (h:1≤n∧n≤98):classR n (opName n)=classN n:=by
 have key:∀ k:Nat,k<98→classR ((k+1:Nat):Int) (opName ((k+1:Nat):Int))=classN ((k+1:Nat):Int):=by decide +kernel
 have:=key (n.toNat - 1) (by omega)
 rwa [show ((n.toNat - 1+1:Nat):Int)=n by omega] at this
section
variable {h:Hp} {K:Value→Hp→Prop}
theorem aggStr:isAggT Tryz.prog 9 = some false:=by kernel_rfl
attribute [local semireducible] opNames in
theorem rnames_x (hk:∀ b H,h.le H→H b=some (rowO 9 (opNames0.map sv))→K (.slice (some ⟨b,0,none⟩) 99 99) H):X Tryz.prog 233 #[] h K:=by
 refine fnv (args:=_) mixed [] [] [] Tryz.func233 rfl (by kernel_rfl) (cw_ ?_)
 refine new_intro (o:=rowO 9 (opNames0.map sv)) (fun b H n_b le_b at_b ot_b=>cw_ ?_)
 exact hk b H le_b at_b
theorem ends_x (s t:Str) (hs:s.length≤2 ^ 40) (hk:K (.bool (endsB s t)) h):X Tryz.prog 259 #[.string (bs s),.string (bs t)] h K:=by
 have l1:(bs s).size=s.length:=bs_size s
 have l2:(bs t).size=t.length:=bs_size t
 unfold endsB at hk
 refine fnv (args:=_) mixed [] [] [] Tryz.func259 rfl (by kernel_rfl) (cw_ ?_)
 refine br_ (fun q1=>?_) fun q1=>?_
 ·rw [decide_eq_true (by omega)] at hk
  conv=>whnf
  refine n_ ?_
  refine n_ ?_
  refine sub_from (m:=s.drop (s.length - t.length)) (by congr 1;omega) (cw_ ?_)
  by_cases e:s.drop (s.length - t.length)=t
  ·rw [decide_eq_true e] at hk
   refine seq_true (e) (cw_ ?_)
   exact hk
  ·rw [decide_eq_false e] at hk
   refine seq_false (e) (cw_ ?_)
   exact hk
 ·rw [decide_eq_false (by omega)] at hk
  conv=>whnf
  exact hk
theorem rclass_x (n:Int) (h1:1≤n∧n≤98) (hk:K (.int .i64 (classN n)) h):X Tryz.prog 225 #[.int .i64 n] h K:=by
 refine X.forget ?_
 rw [← class_eq h1] at hk
 obtain ⟨n1,n2⟩:=opName_ne h1
 have hg:=names0_get h1
 generalize opName n=s at hk n1 n2 hg
 have hsz:(bs s).size=s.length:=bs_size s
 unfold classR at hk
 refine fnv (args:=_) mixed [] [] [] Tryz.func225 rfl (by kernel_rfl) (cw_ ?_)
 refine bf_ ?_
 refine bf_ ?_
 refine rnames_x fun b1 h1 le1 hb1=>(cw_ ?_)
 refine n_ ?_
 refine ⟨_,loadI aggStr hb1 (j:=n.toNat) (by omega) hg,cw_ ?_⟩
 by_cases e0_0:s=[108,117,105]
 ·rw [if_pos (by simp [e0_0])] at hk
  refine seq_true (e0_0) (cw_ ?_)
  exact ⟨h,le1,hk⟩
 refine seq_false (e0_0) (cw_ ?_)
 by_cases e0_1:s=[97,117,105,112,99]
 ·rw [if_pos (by simp [e0_1])] at hk
  refine seq_true (e0_1) (cw_ ?_)
  exact ⟨h,le1,hk⟩
 refine seq_false (e0_1) (cw_ ?_)
 rw [if_neg (by simp [e0_0,e0_1])] at hk
 by_cases e1_0:s=[106,97,108]
 ·rw [if_pos (by simp [e1_0])] at hk
  refine seq_true (e1_0) (cw_ ?_)
  exact ⟨h,le1,hk⟩
 refine seq_false (e1_0) (cw_ ?_)
 by_cases e1_1:s=[106,97,108,114]
 ·rw [if_pos (by simp [e1_1])] at hk
  refine seq_true (e1_1) (cw_ ?_)
  exact ⟨h,le1,hk⟩
 refine seq_false (e1_1) (cw_ ?_)
 rw [if_neg (by simp [e1_0,e1_1])] at hk
 refine br_ (fun e2=>?_) fun e2=>?_
 ·rw [if_pos (by omega)] at hk
  conv=>whnf
  exact ⟨h,le1,hk⟩
 rw [if_neg (by omega)] at hk
 conv=>whnf
 by_cases e3_0:s=[102,101,110,99,101]
 ·rw [if_pos (by simp [e3_0])] at hk
  refine seq_true (e3_0) (cw_ ?_)
  exact ⟨h,le1,hk⟩
 refine seq_false (e3_0) (cw_ ?_)
 by_cases e3_1:s=[102,101,110,99,101,46,105]
 ·rw [if_pos (by simp [e3_1])] at hk
  refine seq_true (e3_1) (cw_ ?_)
  exact ⟨h,le1,hk⟩
 refine seq_false (e3_1) (cw_ ?_)
 rw [if_neg (by simp [e3_0,e3_1])] at hk
 by_cases e4_0:s=[101,99,97,108,108]
 ·rw [if_pos (by simp [e4_0])] at hk
  refine seq_true (e4_0) (cw_ ?_)
  exact ⟨h,le1,hk⟩
 refine seq_false (e4_0) (cw_ ?_)
 by_cases e4_1:s=[101,98,114,101,97,107]
 ·rw [if_pos (by simp [e4_1])] at hk
  refine seq_true (e4_1) (cw_ ?_)
  exact ⟨h,le1,hk⟩
 refine seq_false (e4_1) (cw_ ?_)
 by_cases e4_2:s=[109,114,101,116]
 ·rw [if_pos (by simp [e4_2])] at hk
  refine seq_true (e4_2) (cw_ ?_)
  exact ⟨h,le1,hk⟩
 refine seq_false (e4_2) (cw_ ?_)
 by_cases e4_3:s=[115,114,101,116]
 ·rw [if_pos (by simp [e4_3])] at hk
  refine seq_true (e4_3) (cw_ ?_)
  exact ⟨h,le1,hk⟩
 refine seq_false (e4_3) (cw_ ?_)
 by_cases e4_4:s=[119,102,105]
 ·rw [if_pos (by simp [e4_4])] at hk
  refine seq_true (e4_4) (cw_ ?_)
  exact ⟨h,le1,hk⟩
 refine seq_false (e4_4) (cw_ ?_)
 by_cases e4_5:s=[115,102,101,110,99,101,46,118,109,97]
 ·rw [if_pos (by simp [e4_5])] at hk
  refine seq_true (e4_5) (cw_ ?_)
  exact ⟨h,le1,hk⟩
 refine seq_false (e4_5) (cw_ ?_)
 rw [if_neg (by simp [e4_0,e4_1,e4_2,e4_3,e4_4,e4_5])] at hk
 refine ends_x s [46,119] (by omega) ?_
 cases e5:endsB s [46,119] with
 | true =>
  rw [if_pos (.inl e5)] at hk
  conv=>whnf
  exact ⟨h,le1,hk⟩
 | false =>
  conv=>whnf
  refine ends_x s [46,100] (by omega) ?_
  cases f5:endsB s [46,100] with
  | true =>
   rw [if_pos (.inr f5)] at hk
   conv=>whnf
   exact ⟨h,le1,hk⟩
  | false =>
   rw [if_neg (by simp [e5,f5])] at hk
   conv=>whnf
   by_cases e6:3<s.length∧s.take 3=[99,115,114]
   ·rw [if_pos e6] at hk
    refine bt_ ?_ (by rw [bs_size];simp;omega)
    refine n_ ?_
    refine sub_by (m:=s.take 3) rfl (cw_ ?_)
    refine seq_true (e6.2) (cw_ ?_)
    exact ⟨h,le1,hk⟩
   rw [if_neg e6] at hk
   refine br_ (fun q7=>?_) fun q7=>?_
   ·have e7b:s.take 3≠[99,115,114]:=fun e=>e6 ⟨by omega,e⟩
    conv=>whnf
    refine n_ ?_
    refine sub_by (m:=s.take 3) rfl (cw_ ?_)
    refine seq_false (e7b) (cw_ ?_)
    by_cases e7:s.length≤3∧s[0]? = some 108
    ·rw [if_pos e7] at hk
     refine bt_ ?_ (by rw [bs_size];simp;omega)
     refine ch_intro ((108:UInt8)) (by omega) (e7.2) (cw_ ?_)
     exact ⟨h,le1,hk⟩
    rw [if_neg e7] at hk
    refine br_ (fun f7=>?_) fun f7=>?_
    ·obtain ⟨c,hc⟩:∃ c,s[0]? = some c:=⟨_,List.getElem?_eq_getElem (List.length_pos_iff.2 n1)⟩
     have hcn:c≠108:=fun e=>e7 ⟨by omega,by rw [hc,e]⟩
     conv=>whnf
     refine ch_intro (c) (by omega) (hc) (cw_ ?_)
     refine bf_ ?_ (by simpa using fun e=>hcn (UInt8.toNat_inj.1 (by have:(108:UInt8).toNat=108:=rfl;omega)))
     by_cases e9_0:s=[115,98]
     ·rw [if_pos (by simp [e9_0])] at hk
      refine seq_true (e9_0) (cw_ ?_)
      exact ⟨h,le1,hk⟩
     refine seq_false (e9_0) (cw_ ?_)
     by_cases e9_1:s=[115,104]
     ·rw [if_pos (by simp [e9_1])] at hk
      refine seq_true (e9_1) (cw_ ?_)
      exact ⟨h,le1,hk⟩
     refine seq_false (e9_1) (cw_ ?_)
     by_cases e9_2:s=[115,119]
     ·rw [if_pos (by simp [e9_2])] at hk
      refine seq_true (e9_2) (cw_ ?_)
      exact ⟨h,le1,hk⟩
     refine seq_false (e9_2) (cw_ ?_)
     by_cases e9_3:s=[115,100]
     ·rw [if_pos (by simp [e9_3])] at hk
      refine seq_true (e9_3) (cw_ ?_)
      exact ⟨h,le1,hk⟩
     refine seq_false (e9_3) (cw_ ?_)
     rw [if_neg (by simp [e9_0,e9_1,e9_2,e9_3])] at hk
     exact ⟨h,le1,hk⟩
    ·conv=>whnf
     by_cases e9_0:s=[115,98]
     ·rw [if_pos (by simp [e9_0])] at hk
      refine seq_true (e9_0) (cw_ ?_)
      exact ⟨h,le1,hk⟩
     refine seq_false (e9_0) (cw_ ?_)
     by_cases e9_1:s=[115,104]
     ·rw [if_pos (by simp [e9_1])] at hk
      refine seq_true (e9_1) (cw_ ?_)
      exact ⟨h,le1,hk⟩
     refine seq_false (e9_1) (cw_ ?_)
     by_cases e9_2:s=[115,119]
     ·rw [if_pos (by simp [e9_2])] at hk
      refine seq_true (e9_2) (cw_ ?_)
      exact ⟨h,le1,hk⟩
     refine seq_false (e9_2) (cw_ ?_)
     by_cases e9_3:s=[115,100]
     ·rw [if_pos (by simp [e9_3])] at hk
      refine seq_true (e9_3) (cw_ ?_)
      exact ⟨h,le1,hk⟩
     refine seq_false (e9_3) (cw_ ?_)
     rw [if_neg (by simp [e9_0,e9_1,e9_2,e9_3])] at hk
     exact ⟨h,le1,hk⟩
   ·conv=>whnf
    by_cases e7:s.length≤3∧s[0]? = some 108
    ·rw [if_pos e7] at hk
     refine bt_ ?_ (by rw [bs_size];simp;omega)
     refine ch_intro ((108:UInt8)) (by omega) (e7.2) (cw_ ?_)
     exact ⟨h,le1,hk⟩
    rw [if_neg e7] at hk
    refine br_ (fun f7=>?_) fun f7=>?_
    ·obtain ⟨c,hc⟩:∃ c,s[0]? = some c:=⟨_,List.getElem?_eq_getElem (List.length_pos_iff.2 n1)⟩
     have hcn:c≠108:=fun e=>e7 ⟨by omega,by rw [hc,e]⟩
     conv=>whnf
     refine ch_intro (c) (by omega) (hc) (cw_ ?_)
     refine bf_ ?_ (by simpa using fun e=>hcn (UInt8.toNat_inj.1 (by have:(108:UInt8).toNat=108:=rfl;omega)))
     by_cases e9_0:s=[115,98]
     ·rw [if_pos (by simp [e9_0])] at hk
      refine seq_true (e9_0) (cw_ ?_)
      exact ⟨h,le1,hk⟩
     refine seq_false (e9_0) (cw_ ?_)
     by_cases e9_1:s=[115,104]
     ·rw [if_pos (by simp [e9_1])] at hk
      refine seq_true (e9_1) (cw_ ?_)
      exact ⟨h,le1,hk⟩
     refine seq_false (e9_1) (cw_ ?_)
     by_cases e9_2:s=[115,119]
     ·rw [if_pos (by simp [e9_2])] at hk
      refine seq_true (e9_2) (cw_ ?_)
      exact ⟨h,le1,hk⟩
     refine seq_false (e9_2) (cw_ ?_)
     by_cases e9_3:s=[115,100]
     ·rw [if_pos (by simp [e9_3])] at hk
      refine seq_true (e9_3) (cw_ ?_)
      exact ⟨h,le1,hk⟩
     refine seq_false (e9_3) (cw_ ?_)
     rw [if_neg (by simp [e9_0,e9_1,e9_2,e9_3])] at hk
     exact ⟨h,le1,hk⟩
    ·conv=>whnf
     by_cases e9_0:s=[115,98]
     ·rw [if_pos (by simp [e9_0])] at hk
      refine seq_true (e9_0) (cw_ ?_)
      exact ⟨h,le1,hk⟩
     refine seq_false (e9_0) (cw_ ?_)
     by_cases e9_1:s=[115,104]
     ·rw [if_pos (by simp [e9_1])] at hk
      refine seq_true (e9_1) (cw_ ?_)
      exact ⟨h,le1,hk⟩
     refine seq_false (e9_1) (cw_ ?_)
     by_cases e9_2:s=[115,119]
     ·rw [if_pos (by simp [e9_2])] at hk
      refine seq_true (e9_2) (cw_ ?_)
      exact ⟨h,le1,hk⟩
     refine seq_false (e9_2) (cw_ ?_)
     by_cases e9_3:s=[115,100]
     ·rw [if_pos (by simp [e9_3])] at hk
      refine seq_true (e9_3) (cw_ ?_)
      exact ⟨h,le1,hk⟩
     refine seq_false (e9_3) (cw_ ?_)
     rw [if_neg (by simp [e9_0,e9_1,e9_2,e9_3])] at hk
     exact ⟨h,le1,hk⟩
end
end Go.Proofs.YtdhlpighdlnohaaGreat.Rn
