/-
  Pages and bits: of the program and as the document tells them.
-/
import Derived.Test.YtdhlpighdlnohaaGreatFmt
import Derived.Test.YtdhlpighdlnohaaGreatCaA
import Derived.Test.YtdhlpighdlnohaaGreatCsC
import Derived.Test.YtdhlpighdlnohaaGreatWdD
import Derived.Test.YtdhlpighdlnohaaGreatMidV
import Derived.ScopeJumps
import Derived.Test.YtdhlpighdlnohaaGreatMidQ
import Derived.Test.YtdhlpighdlnohaaGreatProg
import Derived.KernelRfl
import Derived.IntWalk
set_option linter.unusedSimpArgs false
set_option linter.unusedVariables false
set_option maxHeartbeats 8000000
set_option maxRecDepth 10000
set_option linter.unusedSimpArgs false
set_option linter.unusedVariables false
namespace Go.Proofs.YtdhlpighdlnohaaGreat
open Go Go.Mid Go.RowKit Go.Bits
attribute [local irreducible] mid
abbrev Ef.cs (e:Ef):List Value:=[.int .i64 e.kind,.int .i64 e.rd,ux e.value,ux e.next,.bool e.cause.i,.int .i64 e.cause.code,ux e.tval,.int .i64 e.access,.int .i64 e.ask,ux e.va,.int .i64 e.size,ux e.data]
theorem imm_fmt:∀ i:Fin 99,immB (i.val:Int)=decide (fmtL.getD i.val 0=2∨fmtL.getD i.val 0=7∨fmtL.getD i.val 0=8)∨¬ aluB (i.val:Int)=true:=by decide +kernel
theorem eximm_eq {n:Int} (h:aluB n=true):immB n=decide (fmtN n=2∨fmtN n=7∨fmtN n=8):=by
 have hr:(22≤n∧n≤49)∨(54≤n∧n≤66):=by simpa [aluB] using h
 have e:=imm_fmt ⟨n.toNat,by omega⟩
 have en:((n.toNat:Nat):Int)=n:=by omega
 simp only [en] at e
 rcases e with e | e
 ·rw [e];unfold fmtN;rw [if_pos (by omega)]
 ·exact absurd h e
theorem sign64 {w:Nat} (hw:w<2 ^ 64):signN w 64=w:=by
 refine eq_bits (sign_lt _ _) hw fun i hi=>?_
 unfold signN
 rw [bitsOf_bit (fun i=>by split <;> exact bitN_lt _ _) i,if_pos hi]
 rw [if_pos hi]
theorem opSize_or (n:Int):opSize n=0∨opSize n=1∨opSize n=2∨opSize n=4∨opSize n=8:=by
 unfold opSize
 repeat' split
 all_goals simp
theorem opSize_in (n:Int) (hn:(11≤n∧n≤21)∨(67≤n∧n≤88)):1≤opSize n∧opSize n≤8:=by
 unfold opSize
 repeat' split
 all_goals omega
section
variable {h:Hp} {K:Value→Hp→Prop}
theorem bsign64_x (w:Nat) (hw:w<2 ^ 64) (hk:K (ux w) h):X Tryz.prog 192 #[ux w,.int .i64 64] h K:=by
 refine fnv (args:=_) mixed [] [] [] Tryz.func192 rfl (by kernel_rfl) (cw_ ?_)
 exact hk
theorem bsignB_x (w s:Nat) (hw:w<2 ^ 64) (hs:1≤s∧s≤64) (hk:K (ux (signN (w % 2 ^ s) s)) h):X Tryz.prog 192 #[ux w,.int .i64 s] h K:=by
 by_cases e:s=64
 ·subst e
  rw [Nat.mod_eq_of_lt hw,sign64 hw] at hk
  exact bsign64_x w hw hk
 ·exact bsign_x w s hw ⟨hs.1,by omega⟩ hk
theorem alink_x (n:Int) (hk:K (.bool (linkB n)) h):X Tryz.prog 289 #[.int .i64 n] h K:=by
 unfold linkB at hk
 refine fnv (args:=_) mixed [] [] [] Tryz.func289 rfl (by kernel_rfl) (cw_ ?_)
 refine br_ (fun q1=>?_) fun q1=>?_
 ·exact kq hk (bI (by rw [Bool.eq_iff_iff];simp;omega))
 ·conv=>whnf
  exact kq hk (bI (by rw [Bool.eq_iff_iff];simp;omega))
theorem acond_x (n:Int) (hk:K (.bool (condB n)) h):X Tryz.prog 193 #[.int .i64 n] h K:=by
 unfold condB at hk
 refine fnv (args:=_) mixed [] [] [] Tryz.func193 rfl (by kernel_rfl) (cw_ ?_)
 refine br_ (fun q1=>?_) fun q1=>?_
 ·exact kq hk (bI (by rw [Bool.eq_iff_iff];simp;omega))
 ·conv=>whnf
  exact kq hk (bI (by rw [Bool.eq_iff_iff];simp;omega))
theorem aload_x (n:Int) (w:Nat) (hn:67≤n∧n≤88) (hw:w<2 ^ 64) (hk:K (ux (signN (w % 2 ^ (8*opSize n)) (8*opSize n))) h):X Tryz.prog 194 #[.int .i64 n,ux w] h K:=by
 have hc:=class7.2 hn
 have wide:∀ K':Value→Hp→Prop,(∀ v,K' (.tuple #[v,.int .i64 (8*opSize n:Nat)]) h)→X Tryz.prog 298 #[.int .i64 n] h K':=by
  intro K' hk'
  refine fnv (args:=_) mixed [] [] [] Tryz.func298 rfl (by kernel_rfl) (cw_ ?_)
  refine br_ (fun q1=>?_) fun q1=>?_
  ·have e:opSize n=4:=by unfold opSize;repeat (first | rw [if_pos (by omega)] | rw [if_neg (by omega)])
   rw [e] at hk'
   conv=>whnf
   refine n_ ?_
   exact hk' _
  ·have e:opSize n=8:=by unfold opSize;repeat (first | rw [if_pos (by omega)] | rw [if_neg (by omega)])
   rw [e] at hk'
   conv=>whnf
   exact hk' _
 have hs:1≤8*opSize n∧8*opSize n≤64:=by have:=opSize_in n (Or.inr hn);omega
 refine fnv (args:=_) mixed [] [] [] Tryz.func194 rfl (by kernel_rfl) (cw_ ?_)
 refine class_x n ?_
 rw [hc]
 conv=>whnf
 refine wide _ fun v=>(cw_ ?_)
 refine bsignB_x w _ hw hs (cw_ ?_)
 exact hk
theorem ksigned_x (n:Int) (hk:K (.bool (decide ((11≤n∧n≤14)∨(67≤n∧n≤88)))) h):X Tryz.prog 191 #[.int .i64 n] h K:=by
 refine fnv (args:=_) mixed [] [] [] Tryz.func191 rfl (by kernel_rfl) (cw_ ?_)
 refine within_x n 11 14 ?_
 by_cases q:11≤n∧n≤14
 ·rw [decide_eq_true (Or.inl q)] at hk
  rw [decide_eq_true q]
  conv=>whnf
  exact hk
 ·rw [decide_eq_false q]
  conv=>whnf
  refine class_x n ?_
  have h7:=@class7 n
  generalize classN n=c at *
  conv=>whnf
  exact kq hk (bI (by rw [Bool.eq_iff_iff];simp;omega))
theorem xnum_x (n:Int) (hk:K (.bool (decide (fmtN n=2∨fmtN n=7∨fmtN n=8))) h):X Tryz.prog 174 #[.int .i64 n] h K:=by
 refine fnv (args:=_) mixed [] [] [] Tryz.func174 rfl (by kernel_rfl) (cw_ ?_)
 refine fmt_x n ?_
 generalize fmtN n=f at *
 by_cases h2:f=2
 ·subst h2
  conv=>whnf
  exact hk
 by_cases h7:f=7
 ·subst h7
  conv=>whnf
  exact hk
 by_cases h8:f=8
 ·subst h8
  conv=>whnf
  exact hk
 rw [decide_eq_false (by omega)] at hk
 conv=>whnf
 refine bf_ ?_
 refine bf_ ?_
 refine bf_ ?_
 exact hk
theorem xtrap_x (c:Cau) (v:Nat) (hk:K (.agg (Ef.cs { Ef.zero with kind:=2,cause:=c,tval:=v }).toArray) h):X Tryz.prog 180 #[.agg c.cs.toArray,ux v] h K:=by
 obtain ⟨ci,cc⟩:=c
 refine fnv (args:=_) mixed [(2,2),(4,4)] [] [] Tryz.func180 rfl (by kernel_rfl) (cw_ ?_)
 exact hk
end
end Go.Proofs.YtdhlpighdlnohaaGreat
namespace Go.Proofs.YtdhlpighdlnohaaGreat
open Go Go.Mid Go.RowKit Go.Bits
attribute [local irreducible] mid
section
variable {h:Hp} {K:Value→Hp→Prop}
theorem pgkind_x (p l:Nat) (hp:p<2 ^ 64) (hl:l≤2) (hk:K (.int .i64 (kindN p l)) h):X Tryz.prog 17 #[ux p,.int .i64 l] h K:=by
 refine X.forget ?_
 have hk':∀ h':Hp,h.le h'→(∃ g:Hp,g.le h'∧K (.int .i64 (kindN p l)) g):=fun h' hle=>⟨h,hle,hk⟩
 clear hk
 have hpp:ppnN p<2 ^ 64:=Nat.lt_of_lt_of_le (Nat.mod_lt _ (by decide)) (by decide)
 refine fnv (args:=_) mixed [] [] [] Tryz.func17 rfl (by kernel_rfl) (cw_ ?_)
 refine bf_ ?_
 have b2:∀ i,¬ bitN p i=1→bitN p i=0:=fun i hn=>by have:=bitN_lt p i;omega
 refine pghas_x p 0 hp (by decide) ?_
 by_cases c0:bitN p 0=1
 rotate_left
 ·rw [decide_eq_false c0]
  conv=>whnf
  have Z:bitN p 0=0∨(bitN p 2=1∧bitN p 1=0)∨p / 2 ^ 54≠0:=.inl (b2 _ c0)
  have e:kindN p l=0:=by unfold kindN;rw [if_pos Z]
  rw [e] at hk'
  exact hk' h (Hp.le_refl _)
 rw [decide_eq_true c0]
 conv=>whnf
 refine pghas_x p 2 hp (by decide) ?_
 by_cases c2:bitN p 2=1
 ·rw [decide_eq_true c2]
  conv=>whnf
  refine pghas_x p 1 hp (by decide) ?_
  by_cases c1:bitN p 1=1
  ·rw [decide_eq_true c1]
   have NW:¬ (bitN p 2=1∧bitN p 1=0):=fun hh=>by omega
   conv=>whnf
   refine val_by (shr64 p 54 (by decide)) (cw_ ?_)
   refine br_ (fun q1=>?_) fun q1=>?_
   ·have Z:bitN p 0=0∨(bitN p 2=1∧bitN p 1=0)∨p / 2 ^ 54≠0:=.inr (.inr (by omega))
    conv=>whnf
    have e:kindN p l=0:=by unfold kindN;rw [if_pos Z]
    rw [e] at hk'
    exact hk' h (Hp.le_refl _)
   have NZ:¬ (bitN p 0=0∨(bitN p 2=1∧bitN p 1=0)∨p / 2 ^ 54≠0):=by
    rintro (e | e | e)
    ·omega
    ·exact NW e
    ·omega
   conv=>whnf
   refine new_intro (o:=rowO 3 [.int .i64 1,.int .i64 3]) (fun y h1 n_y le_y at_y ot_y=>cw_ ?_)
   refine pgsome_x (L:=[1,3]) p hp at_y rfl (by decide) (by decide) ?_
   simp only [List.any_cons,List.any_nil,Bool.or_false]
   by_cases c13:bitN p 1=1∨bitN p 3=1
   ·rw [show (decide (bitN p 1=1) || decide (bitN p 3=1))=true by simpa using c13]
    conv=>whnf
    refine pgppn_x p hp (cw_ ?_)
    refine n_ ?_
    rw [show (9:Int)*(l:Int)=((9*l:Nat):Int) by omega]
    refine blow_x (ppnN p) (9*l) hpp (by omega) (cw_ ?_)
    refine br_ (fun q2=>?_) fun q2=>?_
    ·have e:kindN p l=0:=by unfold kindN;rw [if_neg NZ,if_pos c13,if_pos (by omega)]
     rw [e] at hk'
     exact hk' _ le_y
    ·have e:kindN p l=2:=by unfold kindN;rw [if_neg NZ,if_pos c13,if_neg (by omega)]
     rw [e] at hk'
     exact hk' _ le_y
   ·rw [show (decide (bitN p 1=1) || decide (bitN p 3=1))=false by simpa using c13]
    conv=>whnf
    refine br_ (fun q2=>?_) fun q2=>?_
    ·have e:kindN p l=0:=by unfold kindN;rw [if_neg NZ,if_neg c13,if_pos (.inl (by omega))]
     rw [e] at hk'
     exact hk' _ le_y
    ·conv=>whnf
     refine new_intro (o:=rowO 3 [.int .i64 4,.int .i64 6,.int .i64 7]) (fun z h2 n_z le_z at_z ot_z=>cw_ ?_)
     refine pgsome_x (L:=[4,6,7]) p hp at_z rfl (by decide) (by decide) ?_
     simp only [List.any_cons,List.any_nil,Bool.or_false]
     have le2:=Hp.le_trans le_y le_z
     by_cases c467:bitN p 4=1∨bitN p 6=1∨bitN p 7=1
     ·rw [show (decide (bitN p 4=1) || (decide (bitN p 6=1) || decide (bitN p 7=1)))=true by simpa using c467]
      have e:kindN p l=0:=by unfold kindN;rw [if_neg NZ,if_neg c13,if_pos (.inr c467)]
      rw [e] at hk'
      conv=>whnf
      exact hk' _ le2
     ·rw [show (decide (bitN p 4=1) || (decide (bitN p 6=1) || decide (bitN p 7=1)))=false by simpa using c467]
      have e:kindN p l=1:=by unfold kindN;rw [if_neg NZ,if_neg c13,if_neg (fun hh=>hh.elim (fun h1=>by omega) c467)]
      rw [e] at hk'
      conv=>whnf
      exact hk' _ le2
  ·rw [decide_eq_false c1]
   conv=>whnf
   have Z:bitN p 0=0∨(bitN p 2=1∧bitN p 1=0)∨p / 2 ^ 54≠0:=.inr (.inl ⟨c2,b2 _ c1⟩)
   have e:kindN p l=0:=by unfold kindN;rw [if_pos Z]
   rw [e] at hk'
   exact hk' h (Hp.le_refl _)
 ·rw [decide_eq_false c2]
  have NW:¬ (bitN p 2=1∧bitN p 1=0):=fun hh=>c2 hh.1
  conv=>whnf
  refine val_by (shr64 p 54 (by decide)) (cw_ ?_)
  refine br_ (fun q1=>?_) fun q1=>?_
  ·have Z:bitN p 0=0∨(bitN p 2=1∧bitN p 1=0)∨p / 2 ^ 54≠0:=.inr (.inr (by omega))
   conv=>whnf
   have e:kindN p l=0:=by unfold kindN;rw [if_pos Z]
   rw [e] at hk'
   exact hk' h (Hp.le_refl _)
  have NZ:¬ (bitN p 0=0∨(bitN p 2=1∧bitN p 1=0)∨p / 2 ^ 54≠0):=by
   rintro (e | e | e)
   ·omega
   ·exact NW e
   ·omega
  conv=>whnf
  refine new_intro (o:=rowO 3 [.int .i64 1,.int .i64 3]) (fun y h1 n_y le_y at_y ot_y=>cw_ ?_)
  refine pgsome_x (L:=[1,3]) p hp at_y rfl (by decide) (by decide) ?_
  simp only [List.any_cons,List.any_nil,Bool.or_false]
  by_cases c13:bitN p 1=1∨bitN p 3=1
  ·rw [show (decide (bitN p 1=1) || decide (bitN p 3=1))=true by simpa using c13]
   conv=>whnf
   refine pgppn_x p hp (cw_ ?_)
   refine n_ ?_
   rw [show (9:Int)*(l:Int)=((9*l:Nat):Int) by omega]
   refine blow_x (ppnN p) (9*l) hpp (by omega) (cw_ ?_)
   refine br_ (fun q2=>?_) fun q2=>?_
   ·have e:kindN p l=0:=by unfold kindN;rw [if_neg NZ,if_pos c13,if_pos (by omega)]
    rw [e] at hk'
    exact hk' _ le_y
   ·have e:kindN p l=2:=by unfold kindN;rw [if_neg NZ,if_pos c13,if_neg (by omega)]
    rw [e] at hk'
    exact hk' _ le_y
  ·rw [show (decide (bitN p 1=1) || decide (bitN p 3=1))=false by simpa using c13]
   conv=>whnf
   refine br_ (fun q2=>?_) fun q2=>?_
   ·have e:kindN p l=0:=by unfold kindN;rw [if_neg NZ,if_neg c13,if_pos (.inl (by omega))]
    rw [e] at hk'
    exact hk' _ le_y
   ·conv=>whnf
    refine new_intro (o:=rowO 3 [.int .i64 4,.int .i64 6,.int .i64 7]) (fun z h2 n_z le_z at_z ot_z=>cw_ ?_)
    refine pgsome_x (L:=[4,6,7]) p hp at_z rfl (by decide) (by decide) ?_
    simp only [List.any_cons,List.any_nil,Bool.or_false]
    have le2:=Hp.le_trans le_y le_z
    by_cases c467:bitN p 4=1∨bitN p 6=1∨bitN p 7=1
    ·rw [show (decide (bitN p 4=1) || (decide (bitN p 6=1) || decide (bitN p 7=1)))=true by simpa using c467]
     have e:kindN p l=0:=by unfold kindN;rw [if_neg NZ,if_neg c13,if_pos (.inr c467)]
     rw [e] at hk'
     conv=>whnf
     exact hk' _ le2
    ·rw [show (decide (bitN p 4=1) || (decide (bitN p 6=1) || decide (bitN p 7=1)))=false by simpa using c467]
     have e:kindN p l=1:=by unfold kindN;rw [if_neg NZ,if_neg c13,if_neg (fun hh=>hh.elim (fun h1=>by omega) c467)]
     rw [e] at hk'
     conv=>whnf
     exact hk' _ le2
theorem pgthere_x (l:Int) (hk:K (.bool (decide (0≤l∧l≤2))) h):X Tryz.prog 195 #[.int .i64 l] h K:=by
 refine fnv (args:=_) mixed [] [] [] Tryz.func195 rfl (by kernel_rfl) (cw_ ?_)
 refine br_ (fun q1=>?_) fun q1=>?_
 ·conv=>whnf
  exact kq hk (bI (by rw [Bool.eq_iff_iff];simp;omega))
 ·exact kq hk (bI (by rw [Bool.eq_iff_iff];simp;omega))
theorem pgvlow_x (l:Nat) (hl:l≤2) (hk:K (.int .i64 (12+9*l:Nat)) h):X Tryz.prog 299 #[.int .i64 l] h K:=by
 refine fnv (args:=_) mixed [] [] [] Tryz.func299 rfl (by kernel_rfl) (cw_ ?_)
 refine n_ ?_
 refine n_ ?_
 exact kq hk (iI (by omega))
theorem pgplace_x (va l:Nat) (hv:va<2 ^ 64) (hl:l≤2) (hk:K (.int .i64 (placeN va l)) h):X Tryz.prog 273 #[ux va,.int .i64 l] h K:=by
 have hp:=place_lt va l
 refine fnv (args:=_) mixed [] [] [] Tryz.func273 rfl (by kernel_rfl) (cw_ ?_)
 refine pgthere_x l ?_
 rw [decide_eq_true (show 0≤(l:Int)∧(l:Int)≤2 by omega)]
 conv=>whnf
 refine pgvlow_x l hl (cw_ ?_)
 refine bcut_x va (12+9*l) 9 hv (by omega) (by decide) (cw_ ?_)
 have e:va / 2 ^ (12+9*l) % 2 ^ 9=placeN va l:=rfl
 rw [e]
 refine n_ ?_
 exact hk
theorem pgmay_x (va:Nat) (hv:va<2 ^ 64) (hk:K (.bool (decide (mayN va))) h):X Tryz.prog 338 #[ux va] h K:=by
 refine fnv (args:=_) mixed [] [] [] Tryz.func338 rfl (by kernel_rfl) (cw_ ?_)
 refine bsign_x va 39 hv (by decide) (cw_ ?_)
 have e:=mayI va
 generalize signN (va % 2 ^ 39) 39=s at e ⊢
 rw [← e] at hk
 exact kq hk (bI (by rw [Bool.eq_iff_iff];simp only [beq_iff_eq,decide_eq_true_eq]))
end
end Go.Proofs.YtdhlpighdlnohaaGreat
namespace Go.Mid
open Go Go.RowKit
def jmpK (A:ME→Hp→(Exit→ME→Hp→Prop)→Prop) (l:Nat) (K:Exit→ME→Hp→Prop) (ex:Exit) (e:ME) (h:Hp):Prop:=match ex with
 | .goto l'=>l'=l∧A e h fun ex e h=>match ex with
  | .goto _=>False
  | ex=>K ex e h
 | ex=>K ex e h
theorem X_ofW {P:Program} {rf:RF} {f:FuncId} {fn:Func} {c:Code} {args:List Value} {h:Hp} {K:Value→Hp→Prop} (hf:P.funcs[f]? = some fn) (hb:fn.body=some c)
  (hw:∀ (w0 we:World) (a:Go.Act) (w:World),At rf (args.length+(fn.ntmps - args.length)) ⟨[],false⟩ w0 h we ⟨env0 args,fun _=>none⟩ h a w→c.wpIn (FW none) 0 P (GoesX rf (args.length+(fn.ntmps - args.length)) ⟨[],false⟩ w0 h we (ends P rf fn K)) a w):X P f args.toArray h K:=by
 refine ⟨fun w0 w hs=>?_⟩
 refine (callsIn_wide (n:=0)).1 (callsIn_of_wp_marks (F:=FW none) hf hb trivial ?_)
 have hat:At rf (args.length+(fn.ntmps - args.length)) ⟨[],false⟩ w0 h w ⟨env0 args,fun _=>none⟩ h { tmps:=args.toArray++Array.replicate (fn.ntmps - args.toArray.size) undef,defers:=[] } w:=by
  refine ⟨by simp,Marks.nil,Ext.refl hs,fun _=>0,fun s=>?_,fun t cs hb=>(by cases hb),fun t u cs ds hb=>(by cases hb),fun s off b he=>(by cases he)⟩
  show (args.toArray++Array.replicate (fn.ntmps - args.toArray.size) undef).getD s undef=args.getD s undef
  simp only [Array.getD_eq_getD_getElem?,List.getD_eq_getElem?_getD,Array.getElem?_append]
  split
  ·simp
  ·rename_i hge
   simp at hge
   rw [List.getElem?_eq_none hge]
   cases hx:(Array.replicate (fn.ntmps - args.toArray.size) undef)[s - args.toArray.size]? with
   | none=>rfl
   | some x =>
    obtain ⟨hlt,hx⟩:=Array.getElem?_eq_some_iff.1 hx
    simp at hx;simp [← hx]
 refine wpIn_mono (hw _ _ _ _ hat) ?_
 rintro ex a1 w1 ⟨e1,h1,s1,hk⟩
 unfold ends at hk
 cases ex with
 | normal =>
  simp only at hk
  split at hk
  ·rename_i vs hvs
   exact leaves_marks s1 fun w' s'=>⟨shut vs,results_run s' hvs,shut vs,h1,rfl,s'.ext,hk⟩
  ·exact hk.elim
 | ret =>
  simp only at hk
  split at hk
  ·rename_i vs hvs
   exact leaves_marks s1 fun w' s'=>⟨shut vs,results_run s' hvs,shut vs,h1,rfl,s'.ext,hk⟩
  ·exact hk.elim
 | exit id=>exact hk.elim
 | goto l=>exact hk.elim
 | panic ch=>exact hk.elim
 | outgrown=>exact hk.elim
theorem fnj {P:Program} {f:FuncId} {F:Func} {x b:Code} {args:List Value} {h:Hp} {K:Value→Hp→Prop} (hmix:P.follows .mixedOrders=true) (rf:RF) (pf dr:List Nat) (l:Nat) (hf:P.funcs[f]? = some F) (hb:F.body=some (.seq x (.scope b)))
  (hl:(findLabel b l).isSome=true)
  (hx:okC (args.length+(F.ntmps - args.length)) rf (clOf P rf pf dr) [] x=true) (hs:okC (args.length+(F.ntmps - args.length)) rf (clOf P rf pf dr) [] b=true) (hr:okC (args.length+(F.ntmps - args.length)) rf (clOf P rf pf dr) [] ((findLabel b l).getD .skip)=true)
  (hm:vcode P rf (clOf P rf pf dr) [] x ⟨env0 args,fun _=>none⟩ h fun ex e1 h1=>match ex with
   | .normal=>vcode P rf (clOf P rf pf dr) [] b e1 h1 (jmpK (fun e h K=>vcode P rf (clOf P rf pf dr) [] ((findLabel b l).getD .skip) e h K) l (endsK P rf F K))
   | ex=>endsK P rf F K ex e1 h1):X P f args.toArray h K:=by
 refine X_ofW (rf:=rf) hf hb fun w0 we a w hat=>?_
 obtain ⟨rest,hrest⟩:=Option.isSome_iff_exists.1 hl
 rw [hrest] at hr hm
 simp only [Option.getD_some] at hr hm
 refine wpIn_seq (wpIn_mono (mcode_sound hmix x (.inl rfl) (fun hh=>by cases hh) (vcode_elim x hx hm) hat) ?_)
 rintro ex a1 w1 ⟨e1,h1,s1,hk⟩
 cases ex with
 | normal =>
  simp only at hk
  have hb2:=mcode_sound hmix b (rd:=none) (nn:=0) (.inl rfl) (fun hh=>by cases hh) (vcode_elim b hs hk) s1
  refine wpIn_wide.2 (wp_scope_jumps l (fun a w=>∃ e h',At rf (args.length+(F.ntmps - args.length)) ⟨[],false⟩ w0 h we e h' a w∧vcode P rf (clOf P rf pf dr) [] rest e h' fun ex e h=>match ex with
   | .goto _=>False
   | ex=>endsK P rf F K ex e h) (fun _ _=>0) hrest (wp_mono (wpIn_wide.1 hb2) ?_) ?_)
  ·rintro ex a2 w2 ⟨e2,h2,s2,hk2⟩
   cases ex with
   | goto l'=>exact ⟨hk2.1,e2,h2,s2,hk2.2⟩
   | _=>exact ⟨e2,h2,s2,endsK_elim hk2⟩
  ·rintro a2 w2 ⟨e2,h2,s2,hk2⟩
   refine wp_mono (wpIn_wide.1 (mcode_sound hmix rest (rd:=none) (nn:=0) (.inl rfl) (fun hh=>by cases hh) (vcode_elim rest hr hk2) s2)) ?_
   rintro ex a3 w3 ⟨e3,h3,s3,hk3⟩
   cases ex with
   | goto l'=>exact hk3.elim
   | _=>exact ⟨e3,h3,s3,endsK_elim hk3⟩
 | _=>exact ⟨e1,h1,s1,endsK_elim hk⟩
end Go.Mid
namespace Go.Proofs.YtdhlpighdlnohaaGreat.Tb
open Go Go.Mid Go.RowKit
attribute [local irreducible] mid structOk
theorem mixed:Tryz.prog.follows .mixedOrders=true:=by kernel_rfl
theorem kq {K:Value→Hp→Prop} {v v':Value} {h:Hp} (hk:K v h) (e:v'=v):K v' h:=e ▸ hk
theorem bI {a b:Bool} (h:a=b):Value.bool a=Value.bool b:=by rw [h]
theorem iI {k:IntKind} {a b:Int} (h:a=b):Value.int k a=Value.int k b:=by rw [h]
def thereI (l:Int):Bool:=decide (0≤l∧l≤2)
def sizeI (l:Int):Int:=if l=0 then 4096 else if l=1 then 2097152 else if l=2 then 1073741824 else 0
def pageI (va l:Int):Int:=if 0≤l∧l≤2 then va / sizeI l*sizeI l else va
def globI (p:Int):Bool:=decide (p / 32 % 2=1)
theorem andNot_low (k:Nat) (hk:k≤63) (va:Int) (hva:0≤va∧va<2 ^ 64):IntKind.u64.wrap (BitVec.ofInt IntKind.u64.bits va &&& ~~~BitVec.ofInt IntKind.u64.bits (2 ^ k - 1)).toNat=va / 2 ^ k*2 ^ k:=by
 obtain ⟨n,rfl⟩:∃ n:Nat,va=n:=⟨va.toNat,by omega⟩
 have hn:n<2 ^ 64:=by omega
 have e1:(BitVec.ofInt IntKind.u64.bits (n:Int) &&& ~~~BitVec.ofInt IntKind.u64.bits (2 ^ k - 1)).toNat=n / 2 ^ k*2 ^ k:=by
  show (BitVec.ofInt 64 (n:Int) &&& ~~~BitVec.ofInt 64 (2 ^ k - 1)).toNat=_
  have h1:BitVec.ofInt 64 (n:Int)=BitVec.ofNat 64 n:=by apply BitVec.eq_of_toNat_eq;simp
  have hp:1≤2 ^ k:=Nat.one_le_two_pow
  have h2:BitVec.ofInt 64 (2 ^ k - 1)=BitVec.ofNat 64 (2 ^ k - 1):=by
   have:((2:Int) ^ k - 1)=((2 ^ k - 1:Nat):Int):=by rw [Int.natCast_sub hp];simp
   rw [this]
   apply BitVec.eq_of_toNat_eq;simp
  rw [h1,h2]
  have h3:n / 2 ^ k*2 ^ k=(BitVec.ofNat 64 n >>> k <<< k).toNat:=by
   simp only [BitVec.toNat_shiftLeft,BitVec.toNat_ushiftRight,BitVec.toNat_ofNat,Nat.shiftRight_eq_div_pow,Nat.shiftLeft_eq]
   rw [Nat.mod_eq_of_lt hn,Nat.mod_eq_of_lt]
   exact Nat.lt_of_le_of_lt (Nat.div_mul_le_self _ _) hn
  rw [h3]
  congr 1
  apply BitVec.eq_of_getLsbD_eq
  intro i hi
  simp only [BitVec.getLsbD_and,BitVec.getLsbD_not,BitVec.getLsbD_shiftLeft,BitVec.getLsbD_ushiftRight,BitVec.getLsbD_ofNat,Nat.testBit_two_pow_sub_one,hi,decide_true,Bool.true_and]
  by_cases hik:i<k
  ·simp [hik]
  ·simp [hik]
   rw [show k+(i - k)=i by omega];simp [hi]
 rw [e1]
 have h2:n / 2 ^ k*2 ^ k<2 ^ 64:=Nat.lt_of_le_of_lt (Nat.div_mul_le_self _ _) hn
 rw [IntWalk.u64_in _ (by omega)]
 simp
theorem pageI_u {va l:Int} (hva:0≤va∧va<2 ^ 64):0≤pageI va l∧pageI va l<2 ^ 64:=by
 unfold pageI sizeI
 split
 ·repeat' split
  all_goals omega
 ·exact hva
theorem pageI_page (va l:Int):pageI (pageI va l) l=pageI va l:=by
 unfold pageI sizeI
 split
 ·repeat' split
  all_goals omega
 ·rfl
section
variable {h:Hp} {K:Value→Hp→Prop}
theorem there_x (l:Int) (hk:K (.bool (thereI l)) h):X Tryz.prog 195 #[.int .i64 l] h K:=by
 refine fnv (args:=_) mixed [] [] [] Tryz.func195 rfl (by kernel_rfl) (cw_ ?_)
 refine br_ (fun h1=>?_) fun h1=>?_
 ·conv=>whnf
  exact kq hk (bI (by unfold thereI;simp [h1]))
 ·conv=>whnf
  exact kq hk (bI (by unfold thereI;simp;omega))
theorem vsize_x (l:Int) (hl:0≤l∧l≤2) (hk:K (.int .u64 (sizeI l)) h):X Tryz.prog 196 #[.int .i64 l] h K:=by
 have hc:l=0∨l=1∨l=2:=by omega
 rcases hc with rfl | rfl | rfl
 all_goals
  refine fnv (args:=_) mixed [] [] [] Tryz.func196 rfl (by kernel_rfl) (cw_ ?_)
  refine there_x _ (cw_ ?_)
  refine fnv (args:=_) mixed [] [] [] Tryz.func299 rfl (by kernel_rfl) (cw_ ?_)
  refine n_ ?_
  refine n_ ?_
  refine n_ ?_
  refine n_ ?_
  exact hk
theorem page_x (va l:Int) (hva:0≤va∧va<2 ^ 64) (hk:K (.int .u64 (pageI va l)) h):X Tryz.prog 109 #[.int .u64 va,.int .i64 l] h K:=by
 refine fnv (args:=_) mixed [] [] [] Tryz.func109 rfl (by kernel_rfl) (cw_ ?_)
 refine there_x _ (cw_ ?_)
 unfold pageI at hk
 unfold thereI
 refine br_ (fun h1=>?_) fun h1=>?_
 ·rw [if_neg h1] at hk
  conv=>whnf
  exact hk
 ·rw [if_pos h1] at hk
  conv=>whnf
  refine vsize_x _ h1 (cw_ ?_)
  have hc:l=0∨l=1∨l=2:=by omega
  rcases hc with rfl | rfl | rfl
  ·refine n_ ?_
   refine val_by (andNot_low 12 (by decide) va hva) (cw_ ?_)
   exact hk
  ·refine n_ ?_
   refine val_by (andNot_low 21 (by decide) va hva) (cw_ ?_)
   exact hk
  ·refine n_ ?_
   refine val_by (andNot_low 30 (by decide) va hva) (cw_ ?_)
   exact hk
end
end Go.Proofs.YtdhlpighdlnohaaGreat.Tb
