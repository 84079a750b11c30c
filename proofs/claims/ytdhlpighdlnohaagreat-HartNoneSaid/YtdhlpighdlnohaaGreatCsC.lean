/-
  Control registers: who may read and write them, and what they become.
-/
import Derived.Test.YtdhlpighdlnohaaGreatEvD
import Derived.Test.YtdhlpighdlnohaaGreatBitP
import Derived.Test.YtdhlpighdlnohaaGreatImmP
set_option linter.unusedSimpArgs false
set_option linter.unusedVariables false
set_option maxHeartbeats 8000000
set_option maxRecDepth 10000
set_option linter.unusedSimpArgs false
set_option linter.unusedVariables false
namespace Go.Proofs.YtdhlpighdlnohaaGreat
open Go Go.Mid Go.RowKit Go.Bits
attribute [local irreducible] mid
abbrev ux (n:Nat):Value:=.int .u64 n
abbrev wx (n:Nat):Value:=.int .u32 n
theorem ov_is {x y:Int} {K:Int→Prop} (e:x=y) (h : -9223372036854775808≤y∧y≤9223372036854775807) (hk:K y):ovK .i64 x K:=by
 subst e;exact ov_i64 h hk
theorem wrapI64N (w:Nat) (hw:w<2 ^ 64):IntKind.i64.wrap (w:Int)=i64N w:=by
 unfold i64N
 rw [IntKind.wrap_i64]
 split <;> omega
section
variable {h:Hp} {K:Value→Hp→Prop}
theorem bspan_x (a s:Nat) (ha:a≤63) (hs:1≤s∧a+s≤64) (hk:K (.tuple #[.int .i64 a,.int .i64 (a+s:Nat)]) h):X Tryz.prog 197 #[.int .i64 a,.int .i64 s] h K:=by
 refine fnv (args:=_) mixed [] [] [] Tryz.func197 rfl (by kernel_rfl) (cw_ ?_)
 refine bf_ ?_
 refine bf_ ?_
 refine n_ ?_
 have e:(a:Int)+(if (64 - (a:Int))<(s:Int) then (64 - (a:Int)) else (s:Int))=((a+s:Nat):Int):=by split <;> omega
 refine ov_is e (by omega) (cw_ ?_)
 exact hk
theorem ones_eq (s:Nat) (hs:1≤s∧s≤64):18446744073709551615 / 2 ^ (64 - s)=2 ^ s - 1:=by
 have e:2 ^ s*2 ^ (64 - s)=18446744073709551616:=by rw [← Nat.pow_add,show s+(64 - s)=64 by omega]
 have hp:0<2 ^ (64 - s):=Nat.pow_pos (by decide)
 have h1:1≤2 ^ s:=Nat.pow_pos (by decide)
 rw [Nat.div_eq_iff hp]
 have e2:(2 ^ s - 1)*2 ^ (64 - s)=18446744073709551616 - 2 ^ (64 - s):=by rw [Nat.sub_mul,e,Nat.one_mul]
 omega
theorem bones_x (a s:Nat) (ha:a≤63) (hs:1≤s∧a+s≤64) (hk:K (ux ((2 ^ s - 1)*2 ^ a)) h):X Tryz.prog 110 #[.int .i64 a,.int .i64 s] h K:=by
 have hlt:(2 ^ s - 1)*2 ^ a<18446744073709551616:=by
  have e:2 ^ s*2 ^ a≤2 ^ 64:=by rw [← Nat.pow_add];exact Nat.pow_le_pow_right (by decide) (by omega)
  have h1:1≤2 ^ s:=Nat.pow_pos (by decide)
  have h2:1≤2 ^ a:=Nat.pow_pos (by decide)
  rw [Nat.sub_mul]
  omega
 refine fnv (args:=_) mixed [] [] [] Tryz.func110 rfl (by kernel_rfl) (cw_ ?_)
 refine bspan_x a s ha hs (cw_ ?_)
 refine bf_ ?_
 refine ov_is (y:=s) (by omega) (by omega) (cw_ ?_)
 refine ov_is (y:=(64 - s:Nat)) (by omega) (by omega) (cw_ ?_)
 refine ov_u64 (by omega) (cw_ ?_)
 refine val_by (shr64 18446744073709551615 (64 - s) (by omega)) (cw_ ?_)
 rw [ones_eq s (by omega)]
 refine ov_u64 (by omega) (cw_ ?_)
 refine ov_by (shl64 (2 ^ s - 1) a (by omega)) ?_
 rw [Nat.mod_eq_of_lt hlt]
 conv=>whnf
 exact hk
theorem bdown_x (w k:Nat) (hw:w<2 ^ 64) (hkk:k≤63) (hk:K (ux (w / 2 ^ k)) h):X Tryz.prog 198 #[ux w,.int .i64 (-(k:Int))] h K:=by
 rcases Nat.eq_zero_or_pos k with rfl | h0
 ·refine fnv (args:=_) mixed [] [] [] Tryz.func198 rfl (by kernel_rfl) (cw_ ?_)
  refine ov_by (y:=((0:Nat):Int)) (by decide) (cw_ ?_)
  refine ov_by (shl64 w 0 (by decide)) ?_
  rw [Nat.pow_zero,Nat.mul_one,Nat.mod_eq_of_lt hw]
  rw [Nat.pow_zero,Nat.div_one] at hk
  conv=>whnf
  exact hk
 ·refine fnv (args:=_) mixed [] [] [] Tryz.func198 rfl (by kernel_rfl) (cw_ ?_)
  refine bf_ ?_
  refine bf_ ?_
  refine bt_ ?_
  rw [show IntKind.i64.wrap (0 - -(k:Int))=(k:Int) by rw [IntWalk.i64_in _ (by omega)];omega]
  refine ov_u64 (by omega) (cw_ ?_)
  refine val_by (shr64 w k (by omega)) (cw_ ?_)
  exact hk
theorem bup_x (w k:Nat) (hkk:k≤63) (hk:K (ux (w*2 ^ k % 18446744073709551616)) h):X Tryz.prog 198 #[ux w,.int .i64 k] h K:=by
 refine fnv (args:=_) mixed [] [] [] Tryz.func198 rfl (by kernel_rfl) (cw_ ?_)
 refine bf_ ?_
 refine bf_ ?_
 refine ov_u64 (by omega) (cw_ ?_)
 refine ov_by (shl64 w k (by omega)) (cw_ ?_)
 exact hk
theorem bcut_x (w a s:Nat) (hw:w<2 ^ 64) (ha:a≤63) (hs:1≤s∧s≤64) (hk:K (ux (w / 2 ^ a % 2 ^ s)) h):X Tryz.prog 111 #[ux w,.int .i64 a,.int .i64 s] h K:=by
 have h1:w / 2 ^ a<2 ^ 64:=Nat.lt_of_le_of_lt (Nat.div_le_self _ _) hw
 have h2:(2 ^ s - 1)*2 ^ 0<2 ^ 64:=by
  have e:2 ^ s≤2 ^ 64:=Nat.pow_le_pow_right (by decide) hs.2
  have h1:1≤2 ^ s:=Nat.pow_pos (by decide)
  omega
 refine fnv (args:=_) mixed [] [] [] Tryz.func111 rfl (by kernel_rfl) (cw_ ?_)
 refine bf_ ?_
 refine bf_ ?_
 refine bf_ ?_
 rw [show IntKind.i64.wrap (0 - (a:Int)) = -(a:Int) by rw [IntWalk.i64_in _ (by omega)];omega]
 refine bdown_x w a hw ha (cw_ ?_)
 refine bones_x 0 s (by decide) (by omega) (cw_ ?_)
 refine val_by (and64 h1 h2) (cw_ ?_)
 rw [Nat.pow_zero,Nat.mul_one,Nat.and_two_pow_sub_one_eq_mod]
 exact hk
theorem sign_shift (w s:Nat) (hs:1≤s∧s≤63):IntKind.u64.wrap ((i64N (w*2 ^ (64 - s) % 18446744073709551616)).fdiv (2 ^ (64 - s)))=((signN (w % 2 ^ s) s:Nat):Int):=by
 have hm:w % 2 ^ s<2 ^ s:=Nat.mod_lt _ (Nat.pow_pos (by decide))
 rw [sign_eq hm hs.1 (by omega)]
 have e:2 ^ s*2 ^ (64 - s)=18446744073709551616:=by rw [← Nat.pow_add,show s+(64 - s)=64 by omega]
 have e2:2 ^ (s - 1)*2 ^ (64 - s)=9223372036854775808:=by rw [← Nat.pow_add,show s - 1+(64 - s)=63 by omega]
 have es:2 ^ s=2 ^ (s - 1)*2:=by rw [← Nat.pow_succ];congr 1;omega
 have hle:2 ^ s≤2 ^ 63:=Nat.pow_le_pow_right (by decide) hs.2
 have hp:0<2 ^ (64 - s):=Nat.pow_pos (by decide)
 have hmm:w*2 ^ (64 - s) % 18446744073709551616=w % 2 ^ s*2 ^ (64 - s):=by
  rw [← e,Nat.mul_mod_mul_right]
 rw [hmm]
 generalize w % 2 ^ s=m at hm ⊢
 have hc:((2:Int) ^ (64 - s))=((2 ^ (64 - s):Nat):Int):=by push_cast;rfl
 rw [hc,Int.fdiv_eq_ediv_of_nonneg _ (Int.natCast_nonneg _)]
 generalize 2 ^ (64 - s)=q at *
 generalize 2 ^ (s - 1)=r at *
 unfold i64N
 by_cases hlt:m<r
 ·have h1:m*q<9223372036854775808:=by rw [← e2];exact Nat.mul_lt_mul_of_pos_right hlt hp
  rw [if_pos h1,if_pos hlt]
  have:((m*q:Nat):Int) / (q:Int)=m:=by
   rw [Int.natCast_mul];exact Int.mul_ediv_cancel _ (by omega)
  rw [this,toU64]
  omega
 ·have h1:9223372036854775808≤m*q:=by rw [← e2];exact Nat.mul_le_mul_right _ (by omega)
  rw [if_neg (by omega),if_neg hlt]
  have:(((m*q:Nat):Int) - 18446744073709551616) / (q:Int)=(m:Int) - (2 ^ s:Nat):=by
   have e3:((m*q:Nat):Int) - 18446744073709551616=((m:Int) - ((2 ^ s:Nat):Int))*(q:Int):=by
    rw [Int.sub_mul,← Int.natCast_mul,← Int.natCast_mul,e];rfl
   rw [e3];exact Int.mul_ediv_cancel _ (by omega)
  rw [this,toU64]
  omega
theorem bsign_x (w s:Nat) (hw:w<2 ^ 64) (hs:1≤s∧s≤63) (hk:K (ux (signN (w % 2 ^ s) s)) h):X Tryz.prog 192 #[ux w,.int .i64 s] h K:=by
 have hlt:w*2 ^ (64 - s) % 18446744073709551616<2 ^ 64:=Nat.mod_lt _ (by decide)
 refine fnv (args:=_) mixed [] [] [] Tryz.func192 rfl (by kernel_rfl) (cw_ ?_)
 refine bf_ ?_
 refine bf_ ?_
 refine ov_is (y:=(64 - s:Nat)) (by omega) (by omega) (cw_ ?_)
 refine ov_u64 (by omega) (cw_ ?_)
 refine ov_by (shl64 w (64 - s) (by omega)) (cw_ ?_)
 refine ov_by (wrapI64N _ hlt) (cw_ ?_)
 refine val_by (y:=(i64N (w*2 ^ (64 - s) % 18446744073709551616)).fdiv (2 ^ (64 - s))) (by rw [Int.toNat_natCast,show min (64 - s) IntKind.i64.bits=64 - s from Nat.min_eq_left (by show 64 - s≤64;omega)]) (cw_ ?_)
 refine ov_by (sign_shift w s hs) (cw_ ?_)
 exact hk
end
end Go.Proofs.YtdhlpighdlnohaaGreat
namespace Go.Proofs.YtdhlpighdlnohaaGreat
open Go Go.Mid Go.RowKit Go.Bits
attribute [local irreducible] mid
abbrev wcs (x:List Nat):List Value:=x.map fun n:Nat=>Value.int .u64 n
theorem wcs_at {x:List Nat} {i:Nat} (hi:i<x.length):(wcs x)[i]? = some (ux (x.getD i 0)):=by
 rw [List.getElem?_map,List.getElem?_eq_getElem hi,List.getD_eq_getElem?_getD,List.getElem?_eq_getElem hi];rfl
theorem regN_lt {x:List Nat} (hx:∀ n ∈ x,n<2 ^ 64) (i:Int):regN x i<2 ^ 64:=by
 unfold regN
 split
 ·rw [List.getD_eq_getElem?_getD]
  cases e:x[i.toNat]? with
  | none=>decide
  | some n=>exact hx n (List.mem_of_getElem? e)
 ·decide
def setN (x:List Nat) (i:Int) (w:Nat):List Nat:=if i≠0∧0≤i∧i<32 then x.set i.toNat w else x
section
variable {h:Hp} {K:Value→Hp→Prop}
theorem rgin_x (i:Int) (hk:K (.bool (decide (0≤i∧i<32))) h):X Tryz.prog 78 #[.int .i64 i] h K:=by
 refine fnv (args:=_) mixed [] [] [] Tryz.func78 rfl (by kernel_rfl) (cw_ ?_)
 refine br_ (fun q1=>?_) fun q1=>?_
 ·conv=>whnf
  exact kq hk (bI (by rw [Bool.eq_iff_iff];simp;omega))
 ·conv=>whnf
  exact kq hk (bI (by rw [Bool.eq_iff_iff];simp;omega))
theorem rgget_x {b o:Nat} {el:TypeId} {A B:List Value} {x:List Nat} (p:Pa h b o el A (wcs x) B) (hx:x.length=32) (i:Int) (hk:K (ux (regN x i)) h):X Tryz.prog 172 #[.pointer (some ⟨b,o,none⟩),.int .i64 i] h K:=by
 unfold regN at hk
 refine fnv (args:=_) mixed [] [] [] Tryz.func172 rfl (by kernel_rfl) (cw_ ?_)
 refine rgin_x i ?_
 by_cases q:0≤i∧i<32
 ·rw [if_pos q] at hk
  rw [decide_eq_true q]
  obtain ⟨j,rfl⟩:∃ j:Nat,i=j:=⟨i.toNat,by omega⟩
  rw [Int.toNat_natCast] at hk
  have hj:j<x.length:=by omega
  conv=>whnf
  refine n_ ?_ (hc:=by exact ⟨by omega,by show _<((32:Nat):Int);omega⟩)
  rw [show Tryz.prog.types[25].size=1 by kernel_rfl]
  refine ⟨_,p.ld j aggU (wcs_at hj),cw_ ?_⟩
  exact hk
 ·rw [if_neg q] at hk
  rw [decide_eq_false q]
  conv=>whnf
  exact hk
theorem rgset_x {b o:Nat} {el:TypeId} {A B:List Value} {x:List Nat} (p:Pa h b o el A (wcs x) B) (hx:x.length=32) (i:Int) (w:Nat) (hk:∀ h':Hp,(∀ c,c≠b→h' c=h c)→Pa h' b o el A (wcs (setN x i w)) B→K (.tuple #[]) h'):X Tryz.prog 36 #[.pointer (some ⟨b,o,none⟩),.int .i64 i,ux w] h K:=by
 unfold setN at hk
 refine fnv (args:=_) mixed [] [] [] Tryz.func36 rfl (by kernel_rfl) (cw_ ?_)
 refine br_ (fun q0=>?_) fun q0=>?_
 ·conv=>whnf
  refine rgin_x i ?_
  by_cases q:0≤i∧i<32
  ·rw [if_pos ⟨by omega,q⟩] at hk
   rw [decide_eq_true q]
   obtain ⟨j,rfl⟩:∃ j:Nat,i=j:=⟨i.toNat,by omega⟩
   rw [Int.toNat_natCast] at hk
   have hj:j<(wcs x).length:=by rw [List.length_map];omega
   conv=>whnf
   refine n_ ?_ (hc:=by exact ⟨by omega,by show _<((32:Nat):Int);omega⟩)
   rw [show Tryz.prog.types[25].size=1 by kernel_rfl]
   refine wr_intro (by exact p.st j sizU hj rfl rfl) (fun h1 at_h1 ot_h1=>cw_ ?_)
   exact hk _ ot_h1 ⟨at_h1.trans (by rw [show wcs (x.set j w)=(wcs x).set j (ux w) from List.map_set];rfl),p.len⟩
  ·rw [if_neg (fun e=>q e.2)] at hk
   rw [decide_eq_false q]
   conv=>whnf
   exact hk _ (fun _ _=>rfl) p
 ·rw [if_neg (by omega)] at hk
  conv=>whnf
  exact hk _ (fun _ _=>rfl) p
end
end Go.Proofs.YtdhlpighdlnohaaGreat
namespace Go.Proofs.YtdhlpighdlnohaaGreat
open Go Go.Mid Go.RowKit Go.Bits
attribute [local irreducible] mid
theorem bit_is (w i:Nat):decide (((w / 2 ^ i % 2:Nat):Int)=1)=bitB w i:=by
 unfold bitB bitN
 rw [decide_eq_decide]
 omega
theorem with_lt {w i:Nat} {on:Bool} (hw:w<2 ^ 64) (hi:i≤63):withN w i on<2 ^ 64:=by
 unfold withN
 split
 ·exact Nat.or_lt_two_pow hw (Nat.pow_lt_pow_right (by decide) (by omega))
 ·exact andN_lt _ _
section
variable {h:Hp} {K:Value→Hp→Prop}
theorem sbit_x (w i:Nat) (hw:w<2 ^ 64) (hi:i≤63) (hk:K (.bool (bitB w i)) h):X Tryz.prog 261 #[ux w,.int .u64 i] h K:=by
 have h1:w / 2 ^ i<2 ^ 64:=Nat.lt_of_le_of_lt (Nat.div_le_self _ _) hw
 refine fnv (args:=_) mixed [] [] [] Tryz.func261 rfl (by kernel_rfl) (cw_ ?_)
 refine val_by (shr64 w i (by omega)) (cw_ ?_)
 refine val_by (and64 h1 (show 1<2 ^ 64 by decide)) (cw_ ?_)
 rw [Nat.and_one_is_mod]
 exact kq hk (bI (by rw [← bit_is,Bool.eq_iff_iff];simp))
theorem swith_x (w i:Nat) (on:Bool) (hw:w<2 ^ 64) (hi:i≤63) (hk:K (ux (withN w i on)) h):X Tryz.prog 334 #[ux w,.int .u64 i,.bool on] h K:=by
 have hp:2 ^ i<2 ^ 64:=Nat.pow_lt_pow_right (by decide) (by omega)
 unfold withN at hk
 cases on with
 | true =>
  refine fnv (args:=_) mixed [] [] [] Tryz.func334 rfl (by kernel_rfl) (cw_ ?_)
  refine ov_by ((shl64 1 i (by omega)).trans (by rw [Nat.one_mul,Nat.mod_eq_of_lt hp])) (cw_ ?_)
  refine val_by (or64 hw hp) (cw_ ?_)
  exact hk
 | false =>
  refine fnv (args:=_) mixed [] [] [] Tryz.func334 rfl (by kernel_rfl) (cw_ ?_)
  refine ov_by ((shl64 1 i (by omega)).trans (by rw [Nat.one_mul,Nat.mod_eq_of_lt hp])) (cw_ ?_)
  refine val_by (andNot64 hw hp) (cw_ ?_)
  exact hk
end
end Go.Proofs.YtdhlpighdlnohaaGreat
namespace Go.Proofs.YtdhlpighdlnohaaGreat
open Go Go.Mid Go.RowKit Go.Bits
attribute [local irreducible] mid
def csrNames:List Str:=[[115,115,116,97,116,117,115],[115,105,101],[115,116,118,101,99],[115,99,111,117,110,116,101,114,101,110],[115,115,99,114,97,116,99,104],[115,101,112,99],[115,99,97,117,115,101],[115,116,118,97,108],[115,105,112],[115,97,116,112],[109,115,116,97,116,117,115],[109,105,115,97],[109,101,100,101,108,101,103],[109,105,100,101,108,101,103],[109,105,101],[109,116,118,101,99],[109,99,111,117,110,116,101,114,101,110],[109,115,99,114,97,116,99,104],[109,101,112,99],[109,99,97,117,115,101],[109,116,118,97,108],[109,105,112],[115,104,111,111,116,118,97],[115,104,111,111,116,97,115,105,100],[115,104,111,111,116],[109,99,121,99,108,101],[109,105,110,115,116,114,101,116],[99,121,99,108,101],[116,105,109,101],[105,110,115,116,114,101,116],[109,118,101,110,100,111,114,105,100],[109,97,114,99,104,105,100],[109,105,109,112,105,100],[109,104,97,114,116,105,100]]
def csrAll:List ((Nat×Nat)×Str):=csrRows.zip csrNames
abbrev rwC (r:(Nat×Nat)×Str):List Value:=[.int .i64 r.1.1,.string (bs r.2),.int .u64 r.1.2]
theorem csrAll_fst:csrAll.map (·.1)=csrRows:=by decide +kernel
def rowV (n:Int):Value:=match csrAll.find? (fun r=>decide ((r.1.1:Int)=n)) with
 | some r=>.tuple #[.agg (rwC r).toArray,.bool true]
 | none=>.tuple #[.agg #[.int .i64 0,.string (bs []),.int .u64 0],.bool false]
theorem find_fst {α β:Type} (p:α→Bool):∀ l:List (α×β),(l.find? fun x=>p x.1).map (·.1)=(l.map (·.1)).find? p
 | []=>rfl
 | x :: l=>by
  rw [List.map_cons,List.find?_cons,List.find?_cons]
  cases p x.1
  ·exact find_fst p l
  ·rfl
theorem rowOf_all (n:Int):rowOf n=(csrAll.find? (fun r=>decide ((r.1.1:Int)=n))).map (·.1):=by
 unfold rowOf
 rw [← csrAll_fst]
 exact (find_fst (fun r:Nat×Nat=>decide ((r.1:Int)=n)) csrAll).symm
theorem row_known {n:Int} {r:(Nat×Nat)×Str} (h:csrAll.find? (fun r=>decide ((r.1.1:Int)=n))=some r):knownB n=true∧maskN n=r.1.2:=by
 unfold knownB maskN
 rw [rowOf_all,h]
 exact ⟨rfl,rfl⟩
theorem row_none {n:Int} (h:csrAll.find? (fun r=>decide ((r.1.1:Int)=n))=none):knownB n=false∧maskN n=0:=by
 unfold knownB maskN
 rw [rowOf_all,h]
 exact ⟨rfl,rfl⟩
theorem mask_lt (n:Int):maskN n<2 ^ 64:=by
 have:∀ r ∈ csrRows,r.2<2 ^ 64:=by decide +kernel
 unfold maskN rowOf
 cases h:csrRows.find? (fun r=>decide ((r.1:Int)=n)) with
 | none=>decide
 | some r=>exact this r (List.mem_of_find?_eq_some h)
section
variable {h:Hp} {K:Value→Hp→Prop}
theorem csrows_x (hk:∀ b h',h b=none→h.le h'→h' b=some (rowO 430 (csrAll.flatMap rwC++[]))→K (.slice (some ⟨b,0,none⟩) 34 34) h'):X Tryz.prog 408 #[] h K:=by
 refine fnv (args:=_) mixed [] [] [] Tryz.func408 rfl (by kernel_rfl) (cw_ ?_)
 refine new_intro (o:=_) (fun b h1 n_b le_b at_b ot_b=>?_)
 exact hk b h1 n_b le_b (at_b.trans (by kernel_rfl))
theorem aggRw:isAggT Tryz.prog 430 = some true:=by kernel_rfl
theorem sizRw:sizeT Tryz.prog 430 = some 3:=by kernel_rfl
theorem at1_x {c:Nat} {n:Int} (r:(Nat×Nat)×Str) (hc:h c=some (rowO 3 [.int .i64 n])) (hk:K (.bool (decide ((r.1.1:Int)=n))) h):X Tryz.prog 397 #[.agg (rwC r).toArray,.pointer (some ⟨c,0,none⟩)] h K:=by
 refine fnv (args:=_) mixed [(2,2),(4,2)] [] [] Tryz.func397 rfl (by kernel_rfl) (cw_ ?_)
 refine ⟨_,loadC0 aggIn hc rfl,cw_ ?_⟩
 exact kq hk (bI (by rw [Bool.eq_iff_iff];simp))
theorem rw_at {b:Nat} {j:Nat} {r:(Nat×Nat)×Str} (hb:h b=some (rowO 430 (csrAll.flatMap rwC++[]))) (hj:csrAll[j]? = some r):loadH Tryz.prog 430 h ((⟨b,0,none⟩:Addr).add (((j:Int)).toNat*3))=some (.agg (rwC r).toArray):=by
 rw [Int.toNat_natCast]
 exact loadH_agg aggRw sizRw (fun _=>rfl) hb hj
theorem find_first {α:Type} {p:α→Bool} {l:List α} {j:Nat} {x:α} (hx:l[j]? = some x) (hp:p x=true) (hno:∀ i y,i<j→l[i]? = some y→p y=false):l.find? p=some x:=by
 induction l generalizing j with
 | nil=>simp at hx
 | cons a l ih =>
  rw [List.find?_cons]
  cases j with
  | zero=>simp at hx;subst hx;rw [hp]
  | succ j =>
   rw [hno 0 a (by omega) rfl]
   exact ih (j:=j) (by simpa using hx) (fun i y hi hy=>hno (i+1) y (by omega) (by simpa using hy))
theorem find_never {α:Type} {p:α→Bool} {l:List α} (hno:∀ (i:Nat) (y:α),l[i]? = some y→p y=false):l.find? p=none:=by
 rw [List.find?_eq_none]
 intro x hx
 obtain ⟨i,hi,e⟩:=List.getElem_of_mem hx
 rw [hno i x (by rw [List.getElem?_eq_getElem hi,e])]
 decide
theorem csrAll_len:csrAll.length=34:=by decide +kernel
theorem csrfind_x {c:Nat} {n:Int} (hc:h c=some (rowO 3 [.int .i64 n])) (hk:K (rowV n) h):X Tryz.prog 396 #[.func (.func 397) #[] #[.pointer (some ⟨c,0,none⟩)]] h K:=by
 refine X.forget ?_
 refine fnv (args:=_) mixed [(2,2),(5,5)] [] [] Tryz.func396 rfl (by kernel_rfl) (cw_ ?_)
 refine csrows_x fun b h1 n_b le_b at_b=>?_
 have c1:=le_b _ _ hc
 conv=>whnf
 refine loop_at [8] [2] (fun r vs cs h'=>cs=[some [.int .i64 0,.string (bs []),.int .u64 0]]∧h1=h'∧∃ j:Nat,j≤34∧r=34 - j∧vs=[.v (.int .i64 j)]∧∀ i y,i<j→csrAll[i]? = some y→decide ((y.1.1:Int)=n)=false) 34 ⟨rfl,rfl,0,by omega,by omega,rfl,fun i y hi=>by omega⟩ ?_
 rintro r vs cs mm bx _ ⟨rfl,rfl,j,hj,rfl,rfl,hno⟩
 conv=>whnf
 refine br_ (fun q1=>?_) fun q1=>?_
 ·obtain ⟨r,hr⟩:∃ r,csrAll[j]? = some r:=⟨_,List.getElem?_eq_getElem (by rw [csrAll_len];omega)⟩
  have hl:=rw_at at_b hr
  conv=>whnf
  refine n_ ?_
  refine ⟨_,hl,cw_ ?_⟩
  refine at1_x r c1 (cw_ ?_)
  refine bsel_intro (fun q2=>?_) (fun q2=>?_)
  ·have hV:rowV n=.tuple #[.agg (rwC r).toArray,.bool true]:=by unfold rowV;rw [find_first hr q2 hno]
   rw [hV] at hk
   conv=>whnf
   exact ⟨h,le_b,hk⟩
  ·conv=>whnf
   refine n_ ?_
   exact ⟨34 - (j+1),by omega,rfl,rfl,j+1,by omega,rfl,rfl,fun i y hi hy=>by
    by_cases e:i=j
    ·subst e;rw [hr] at hy;cases hy;exact q2
    ·exact hno i y (by omega) hy⟩
 ·obtain rfl:j=34:=by omega
  have hV:rowV n=.tuple #[.agg #[.int .i64 0,.string (bs []),.int .u64 0],.bool false]:=by
   unfold rowV
   rw [find_never fun i y hy=>hno i y (by have:=(List.getElem?_eq_some_iff.1 hy).1;rw [csrAll_len] at this;exact this) hy]
  rw [hV] at hk
  conv=>whnf
  exact ⟨h,le_b,hk⟩
theorem csrat_x (n:Int) (hk:K (rowV n) h):X Tryz.prog 375 #[.int .i64 n] h K:=by
 refine X.forget ?_
 refine fnv (args:=_) mixed [(2,2)] [] [] Tryz.func375 rfl (by kernel_rfl) (cw_ ?_)
 refine new_intro (o:=rowO 3 [.int .i64 n]) (fun c h1 n_c le_c at_c ot_c=>cw_ ?_)
 refine csrfind_x at_c ?_
 have hk':∀ v,rowV n=v→K v h:=fun v e=>e ▸ hk
 have e:rowV n=rowV n:=rfl
 revert e
 conv in rowV n=_=>lhs;unfold rowV
 cases hf:csrAll.find? (fun r=>decide ((r.1.1:Int)=n)) with
 | some r =>
  intro e
  rw [← e]
  conv=>whnf
  exact ⟨h,le_c,hk' _ e.symm⟩
 | none =>
  intro e
  rw [← e]
  conv=>whnf
  exact ⟨h,le_c,hk' _ e.symm⟩
theorem csrknown_x (n:Int) (hk:K (.bool (knownB n)) h):X Tryz.prog 383 #[.int .i64 n] h K:=by
 refine fnv (args:=_) mixed [(3,3)] [] [] Tryz.func383 rfl (by kernel_rfl) (cw_ ?_)
 refine csrat_x n ?_
 unfold rowV
 cases hf:csrAll.find? (fun r=>decide ((r.1.1:Int)=n)) with
 | some r =>
  rw [(row_known hf).1] at hk
  conv=>whnf
  exact hk
 | none =>
  rw [(row_none hf).1] at hk
  conv=>whnf
  exact hk
theorem csrmask_x (n:Int) (hk:K (.int .u64 (maskN n:Nat)) h):X Tryz.prog 331 #[.int .i64 n] h K:=by
 refine fnv (args:=_) mixed [(3,3),(10,3)] [] [] Tryz.func331 rfl (by kernel_rfl) (cw_ ?_)
 refine csrat_x n ?_
 unfold rowV
 cases hf:csrAll.find? (fun r=>decide ((r.1.1:Int)=n)) with
 | some r =>
  rw [(row_known hf).2] at hk
  conv=>whnf
  exact hk
 | none =>
  rw [(row_none hf).2] at hk
  conv=>whnf
  exact hk
end
end Go.Proofs.YtdhlpighdlnohaaGreat
namespace Go.Proofs.YtdhlpighdlnohaaGreat
open Go Go.Mid Go.RowKit Go.Bits
attribute [local irreducible] mid
theorem andI3 (n:Int):IntKind.i64.wrap ((BitVec.ofInt IntKind.i64.bits n &&& BitVec.ofInt IntKind.i64.bits 3).toNat:Int)=n % 4:=by
 have e:(BitVec.ofInt IntKind.i64.bits n &&& BitVec.ofInt IntKind.i64.bits 3).toNat=(n % 18446744073709551616).toNat % 4:=by
  show (BitVec.ofInt 64 n &&& BitVec.ofInt 64 3).toNat=_
  rw [BitVec.toNat_and,BitVec.toNat_ofInt,BitVec.toNat_ofInt]
  exact Nat.and_two_pow_sub_one_eq_mod (n % 18446744073709551616).toNat 2
 rw [e]
 have:IntKind.i64.wrap ((((n % 18446744073709551616).toNat % 4:Nat)):Int)=(((n % 18446744073709551616).toNat % 4:Nat):Int):=by
  rw [wrapI64N _ (by omega)]
  unfold i64N
  rw [if_pos (by omega)]
 rw [this]
 omega
theorem shrI (n:Int) (k:Nat) (hk:k≤63):n.fdiv (2 ^ (min ((k:Int)).toNat IntKind.i64.bits))=n / 2 ^ k:=by
 rw [show min ((k:Int)).toNat IntKind.i64.bits=k by rw [Int.toNat_natCast];exact Nat.min_eq_left (by show k≤64;omega)]
 exact Int.fdiv_eq_ediv_of_nonneg _ (Int.le_of_lt (Int.pow_pos (by decide)))
section
variable {h:Hp} {K:Value→Hp→Prop}
theorem csrleast_x (n:Int) (hk:K (.int .i64 (leastN n)) h):X Tryz.prog 384 #[.int .i64 n] h K:=by
 unfold leastN at hk
 refine fnv (args:=_) mixed [] [] [] Tryz.func384 rfl (by kernel_rfl) (cw_ ?_)
 refine csrknown_x n ?_
 cases hn:knownB n with
 | false =>
  rw [hn,if_neg (by decide)] at hk
  conv=>whnf
  exact hk
 | true =>
  rw [hn,if_pos rfl] at hk
  conv=>whnf
  refine val_by (shrI n 8 (by decide)) (cw_ ?_)
  refine val_by (andI3 _) (cw_ ?_)
  exact hk
theorem csrro_x (n:Int) (hk:K (.bool (rdonlyB n)) h):X Tryz.prog 385 #[.int .i64 n] h K:=by
 unfold rdonlyB at hk
 refine fnv (args:=_) mixed [] [] [] Tryz.func385 rfl (by kernel_rfl) (cw_ ?_)
 refine csrknown_x n ?_
 cases hn:knownB n with
 | false =>
  rw [hn] at hk
  conv=>whnf
  exact hk
 | true =>
  rw [hn] at hk
  conv=>whnf
  refine val_by (shrI n 10 (by decide)) (cw_ ?_)
  refine val_by (andI3 _) (cw_ ?_)
  exact kq hk (bI (by rw [Bool.eq_iff_iff];simp))
theorem csrmay_x (n priv:Int) (wr:Bool) (hk:K (.bool (csrMayB n priv wr)) h):X Tryz.prog 361 #[.int .i64 n,.int .i64 priv,.bool wr] h K:=by
 have hk':∀ b,b=csrMayB n priv wr→K (.bool b) h:=fun b e=>e ▸ hk
 unfold csrMayB at hk'
 clear hk
 by_cases hp:priv=0∨priv=1∨priv=3
 ·simp only [hp,decide_true,Bool.true_and] at hk'
  rcases hp with rfl | rfl | rfl
  all_goals
   refine fnv (args:=_) mixed [] [] [] Tryz.func361 rfl (by kernel_rfl) (cw_ ?_)
   refine csrknown_x n ?_
   cases hn:knownB n with
   | false =>
    have hk2:=hk' false (by rw [hn];rfl)
    conv=>whnf
    exact hk2
   | true =>
    rw [hn] at hk'
    conv=>whnf
    refine csrleast_x n ?_
    generalize leastN n=l at *
    generalize hro:rdonlyB n=ro at *
    conv=>whnf
    refine br_ (fun q2=>?_) fun q2=>?_
    ·rw [decide_eq_true q2] at hk'
     cases wr with
     | false =>
      have hk2:=hk' true rfl
      conv=>whnf
      exact hk2
     | true =>
      conv=>whnf
      refine csrro_x n ?_
      rw [hro]
      cases ro with
      | false =>
       have hk2:=hk' true rfl
       conv=>whnf
       exact hk2
      | true =>
       have hk2:=hk' false rfl
       conv=>whnf
       exact hk2
    ·have hk2:=hk' false (by rw [decide_eq_false q2];simp)
     conv=>whnf
     exact hk2
 ·have hk2:=hk' false (by simp [hp])
  refine fnv (args:=_) mixed [] [] [] Tryz.func361 rfl (by kernel_rfl) (cw_ ?_)
  refine bf_ ?_
  refine bf_ ?_
  refine bf_ ?_
  exact hk2
theorem csrlegal_x (n:Int) (old v:Nat) (ho:old<2 ^ 64) (hv:v<2 ^ 64) (hk:K (ux (legalN n old v)) h):X Tryz.prog 252 #[.int .i64 n,ux old,ux v] h K:=by
 have hm:=mask_lt n
 have hl:legal0 n old v<2 ^ 64:=legal0_lt hv
 have ha:=andN_lt old (maskN n)
 have hvm:v &&& maskN n<2 ^ 64:=Nat.lt_of_le_of_lt Nat.and_le_left hv
 unfold legalN at hk
 refine fnv (args:=_) mixed [] [] [] Tryz.func252 rfl (by kernel_rfl) (cw_ ?_)
 refine csrmask_x n (cw_ ?_)
 refine val_by (andNot64 ho hm) (cw_ ?_)
 refine val_by (and64 hv hm) (cw_ ?_)
 refine val_by ((or64 ha hvm).trans (show ((andN old (maskN n) ||| (v &&& maskN n):Nat):Int)=((legal0 n old v:Nat):Int) from rfl)) (cw_ ?_)
 generalize legal0 n old v=w at hk hl ⊢
 have h11:w / 2 ^ 11<2 ^ 64:=Nat.lt_of_le_of_lt (Nat.div_le_self _ _) hl
 refine br_ (fun q0=>?_) fun q0=>?_
 ·rw [if_pos q0] at hk
  conv=>whnf
  refine val_by (shr64 w 11 (by decide)) (cw_ ?_)
  refine val_by ((and64 h11 (show 3<2 ^ 64 by decide)).trans (congrArg (fun x:Nat=>(x:Int)) (Nat.and_two_pow_sub_one_eq_mod (w / 2 ^ 11) 2))) (cw_ ?_)
  refine br_ (fun q1=>?_) fun q1=>?_
  ·rw [if_pos (by omega)] at hk
   conv=>whnf
   refine val_by (andNot64 hl (show 6144<2 ^ 64 by decide)) (cw_ ?_)
   refine val_by (and64 ho (show 6144<2 ^ 64 by decide)) (cw_ ?_)
   refine val_by (or64 (andN_lt w 6144) (show old &&& 6144<2 ^ 64 from Nat.lt_of_le_of_lt Nat.and_le_left ho)) (cw_ ?_)
   exact hk
  ·rw [if_neg (by omega)] at hk
   conv=>whnf
   exact hk
 ·rw [if_neg q0] at hk
  conv=>whnf
  refine br_ (fun q2=>?_) fun q2=>?_
  ·rw [if_pos q2] at hk
   conv=>whnf
   refine val_by (shr64 w 60 (by decide)) (cw_ ?_)
   generalize w / 2 ^ 60=m at hk ⊢
   refine br_ (fun q3=>?_) fun q3=>?_
   ·conv=>whnf
    refine br_ (fun q4=>?_) fun q4=>?_
    ·rw [if_pos ⟨by omega,by omega⟩] at hk
     conv=>whnf
     exact hk
    ·rw [if_neg (by omega)] at hk
     conv=>whnf
     exact hk
   ·rw [if_neg (by omega)] at hk
    conv=>whnf
    exact hk
  ·rw [if_neg q2] at hk
   conv=>whnf
   exact hk
end
end Go.Proofs.YtdhlpighdlnohaaGreat
