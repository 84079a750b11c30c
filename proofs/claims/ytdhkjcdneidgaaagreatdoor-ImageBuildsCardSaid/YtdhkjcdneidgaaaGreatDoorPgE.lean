/-
  Pages: tables, the program's: what is mapped, what is found.
-/
import Derived.Test.YtdhkjcdneidgaaaGreatDoorPgB
import Derived.Test.YtdhkjcdneidgaaaGreatDoorInsM
import Derived.Test.YtdhkjcdneidgaaaGreatDoorMidM
set_option linter.unusedSimpArgs false
set_option linter.unusedVariables false
set_option maxHeartbeats 8000000
set_option maxRecDepth 10000
set_option linter.unusedSimpArgs false
set_option linter.unusedVariables false
namespace Go.Proofs.YtdhkjcdneidgaaaGreatDoor
open Go Go.Mid Go.RowKit Go.Bits
attribute [local irreducible] mid
theorem mayI (va:Nat):decide (((signN (va % 2 ^ 39) 39:Nat):Int)=(va:Int))=decide (mayN va):=by
 rw [Bool.eq_iff_iff,decide_eq_true_iff,decide_eq_true_iff]
 unfold mayN
 omega
theorem or_low {a b k:Nat} (h:b<2 ^ k):a*2 ^ k ||| b=a*2 ^ k+b:=by
 rw [← Nat.shiftLeft_eq,← Nat.shiftLeft_add_eq_or_of_lt h]
section
variable {h:Hp} {K:Value→Hp→Prop}
theorem bones0_x (hk:K (ux 0) h):X Tryz.prog 90 #[.int .i64 0,.int .i64 0] h K:=by
 refine fnv (args:=_) mixed [] [] [] Tryz.func90 rfl (by kernel_rfl) (cw_ ?_)
 have sp:X Tryz.prog 124 #[.int .i64 0,.int .i64 0] h (fun v h'=>v=.tuple #[.int .i64 0,.int .i64 0]∧h'=h):=by
  refine fnv (args:=_) mixed [] [] [] Tryz.func124 rfl (by kernel_rfl) (cw_ ?_)
  exact ⟨rfl,rfl⟩
 refine sp.mono ?_
 rintro _ _ ⟨rfl,rfl⟩
 conv=>whnf
 exact hk
theorem blow_x (w s:Nat) (hw:w<2 ^ 64) (hs:s≤64) (hk:K (ux (w % 2 ^ s)) h):X Tryz.prog 62 #[ux w,.int .i64 s] h K:=by
 refine fnv (args:=_) mixed [] [] [] Tryz.func62 rfl (by kernel_rfl) (cw_ ?_)
 by_cases h0:s=0
 ·subst h0
  refine bones0_x (cw_ ?_)
  refine val_by (and64 hw (show 0<2 ^ 64 by decide)) (cw_ ?_)
  rw [Nat.and_zero]
  rw [Nat.pow_zero,Nat.mod_one] at hk
  exact hk
 ·refine bones_x 0 s (by decide) ⟨by omega,by omega⟩ ?_
  rw [Nat.pow_zero,Nat.mul_one]
  conv=>whnf
  have h1:2 ^ s≤2 ^ 64:=Nat.pow_le_pow_right (by decide) hs
  have h2:0<2 ^ s:=Nat.pos_of_ne_zero (by simp)
  refine val_by (and64 hw (show 2 ^ s - 1<2 ^ 64 by omega)) (cw_ ?_)
  rw [Nat.and_two_pow_sub_one_eq_mod]
  exact hk
theorem pgppn_x (p:Nat) (hp:p<2 ^ 64) (hk:K (ux (ppnN p)) h):X Tryz.prog 63 #[ux p] h K:=by
 refine fnv (args:=_) mixed [] [] [] Tryz.func63 rfl (by kernel_rfl) (cw_ ?_)
 exact bcut_x p 10 44 hp (by decide) (by decide) hk
theorem pgmake_x (n fl:Nat) (hn:n<2 ^ 64) (hf:fl<2 ^ 64) (hk:K (ux (makeN n fl)) h):X Tryz.prog 33 #[ux n,ux fl] h K:=by
 have h1:=Nat.mod_lt n (show 0<2 ^ 44 by decide)
 have h2:=Nat.mod_lt fl (show 0<2 ^ 10 by decide)
 refine fnv (args:=_) mixed [] [] [] Tryz.func33 rfl (by kernel_rfl) (cw_ ?_)
 refine blow_x n 44 hn (by decide) (cw_ ?_)
 refine ov_by (shl64 (n % 2 ^ 44) 10 (by decide)) (cw_ ?_)
 refine blow_x fl 10 hf (by decide) (cw_ ?_)
 rw [Nat.mod_eq_of_lt (show n % 2 ^ 44*2 ^ 10<18446744073709551616 by omega)]
 refine val_by (or64 (show n % 2 ^ 44*2 ^ 10<2 ^ 64 by omega) (show fl % 2 ^ 10<2 ^ 64 by omega)) (cw_ ?_)
 rw [or_low h2]
 exact hk
theorem pghas_x (p i:Nat) (hp:p<2 ^ 64) (hi:i≤63) (hk:K (.bool (decide (bitN p i=1))) h):X Tryz.prog 60 #[ux p,.int .i64 i] h K:=by
 have h1:p / 2 ^ i<2 ^ 64:=Nat.lt_of_le_of_lt (Nat.div_le_self _ _) hp
 refine fnv (args:=_) mixed [] [] [] Tryz.func60 rfl (by kernel_rfl) (cw_ ?_)
 refine ov_by (show IntKind.u64.wrap (i:Int)=(i:Int) from w64 (by omega)) (cw_ ?_)
 refine val_by (shr64 p i (by omega)) (cw_ ?_)
 refine val_by (and64 h1 (show 1<2 ^ 64 by decide)) (cw_ ?_)
 rw [Nat.and_one_is_mod]
 have e:p / 2 ^ i % 2=bitN p i:=rfl
 rw [e]
 exact kq hk (bI (by rw [Bool.eq_iff_iff];simp;omega))
theorem pgsome_x {b:Nat} {L:List Nat} {n:Nat} (p:Nat) (hp:p<2 ^ 64) (hb:h b=some (rowO 3 (L.map fun i=>.int .i64 (i:Nat)))) (hn:n=L.length) (hl:n≤64) (hL:∀ i ∈ L,i≤63) (hk:K (.bool (L.any fun i=>decide (bitN p i=1))) h):X Tryz.prog 61 #[ux p,.slice (some ⟨b,0,none⟩) n n] h K:=by
 subst hn
 refine fnv (args:=_) mixed [] [] [] Tryz.func61 rfl (by kernel_rfl) (cw_ ?_)
 refine loop_at [9] [] (fun q vs _ h'=>h=h'∧∃ i:Nat,i≤L.length∧q=L.length - i∧vs=[.v (.int .i64 i)]∧∀ x ∈ L.take i,bitN p x≠1) L.length ⟨rfl,0,by omega,by omega,rfl,by simp⟩ ?_
 rintro q vs cs mm bx _ ⟨rfl,i,hi,rfl,rfl,hno⟩
 conv=>whnf
 refine br_ (fun q1=>?_) fun q1=>?_
 ·have hiL:i<L.length:=by omega
  obtain ⟨x,hx⟩:∃ x,L[i]? = some x:=⟨_,List.getElem?_eq_getElem hiL⟩
  have hx63:=hL x (List.mem_of_getElem? hx)
  conv=>whnf
  refine n_ ?_
  refine ⟨_,loadI (j:=i) aggIn hb rfl (by rw [List.getElem?_map,hx];rfl),?_⟩;conv=>whnf
  refine pghas_x p x hp hx63 (cw_ ?_)
  refine br_ (fun q2=>?_) fun q2=>?_
  ·have e:(L.any fun i=>decide (bitN p i=1))=true:=List.any_eq_true.2 ⟨x,List.mem_of_getElem? hx,by simpa using q2⟩
   rw [e] at hk
   exact hk
  ·conv=>whnf
   refine n_ ?_
   refine ⟨L.length - (i+1),by omega,rfl,i+1,by omega,rfl,rfl,fun y hy=>?_⟩
   rw [List.take_add_one,hx] at hy
   rcases List.mem_append.1 hy with hy | hy
   ·exact hno y hy
   ·simp only [Option.toList_some,List.mem_singleton] at hy;subst hy;simpa using q2
 ·have e:(L.any fun i=>decide (bitN p i=1))=false:=by
   rw [List.any_eq_false]
   intro x hx
   have:=hno x (by rw [List.take_of_length_le (by omega)];exact hx)
   simpa using this
  rw [e] at hk
  exact hk
theorem pgkind_x (p l:Nat) (hp:p<2 ^ 64) (hl:l≤2) (hk:K (.int .i64 (kindN p l)) h):X Tryz.prog 29 #[ux p,.int .i64 l] h K:=by
 refine X.forget ?_
 have hk':∀ h':Hp,h.le h'→(∃ g:Hp,g.le h'∧K (.int .i64 (kindN p l)) g):=fun h' hle=>⟨h,hle,hk⟩
 clear hk
 have hpp:ppnN p<2 ^ 64:=Nat.lt_of_lt_of_le (Nat.mod_lt _ (by decide)) (by decide)
 refine fnv (args:=_) mixed [] [] [] Tryz.func29 rfl (by kernel_rfl) (cw_ ?_)
 refine bf_ ?_
 have b2:∀ i,¬ bitN p i=1→bitN p i=0:=fun i hn=>by have:=bitN_lt p i;omega
 refine pghas_x p 0 hp (by decide) ?_
 by_cases c0:bitN p 0=1
 rotate_left
 ·rw [decide_eq_false c0]
  conv=>whnf
  have Z:bitN p 0=0∨(bitN p 2=1∧bitN p 1=0)∨p / 2 ^ 54≠0:=.inl (b2 _ c0)
  have e:kindN p l=0:=by unfold kindN;rw [if_pos Z]
  rw [e] at hk'
  exact hk' h (Hp.le_refl _)
 rw [decide_eq_true c0]
 conv=>whnf
 refine pghas_x p 2 hp (by decide) ?_
 by_cases c2:bitN p 2=1
 ·rw [decide_eq_true c2]
  conv=>whnf
  refine pghas_x p 1 hp (by decide) ?_
  by_cases c1:bitN p 1=1
  ·rw [decide_eq_true c1]
   have NW:¬ (bitN p 2=1∧bitN p 1=0):=fun hh=>by omega
   conv=>whnf
   refine val_by (shr64 p 54 (by decide)) (cw_ ?_)
   refine br_ (fun q1=>?_) fun q1=>?_
   ·have Z:bitN p 0=0∨(bitN p 2=1∧bitN p 1=0)∨p / 2 ^ 54≠0:=.inr (.inr (by omega))
    conv=>whnf
    have e:kindN p l=0:=by unfold kindN;rw [if_pos Z]
    rw [e] at hk'
    exact hk' h (Hp.le_refl _)
   have NZ:¬ (bitN p 0=0∨(bitN p 2=1∧bitN p 1=0)∨p / 2 ^ 54≠0):=by
    rintro (e | e | e)
    ·omega
    ·exact NW e
    ·omega
   conv=>whnf
   refine new_intro (o:=rowO 3 [.int .i64 1,.int .i64 3]) (fun y h1 n_y le_y at_y ot_y=>cw_ ?_)
   refine pgsome_x (L:=[1,3]) p hp at_y rfl (by decide) (by decide) ?_
   simp only [List.any_cons,List.any_nil,Bool.or_false]
   by_cases c13:bitN p 1=1∨bitN p 3=1
   ·rw [show (decide (bitN p 1=1) || decide (bitN p 3=1))=true by simpa using c13]
    conv=>whnf
    refine pgppn_x p hp (cw_ ?_)
    refine n_ ?_
    rw [show (9:Int)*(l:Int)=((9*l:Nat):Int) by omega]
    refine blow_x (ppnN p) (9*l) hpp (by omega) (cw_ ?_)
    refine br_ (fun q2=>?_) fun q2=>?_
    ·have e:kindN p l=0:=by unfold kindN;rw [if_neg NZ,if_pos c13,if_pos (by omega)]
     rw [e] at hk'
     exact hk' _ le_y
    ·have e:kindN p l=2:=by unfold kindN;rw [if_neg NZ,if_pos c13,if_neg (by omega)]
     rw [e] at hk'
     exact hk' _ le_y
   ·rw [show (decide (bitN p 1=1) || decide (bitN p 3=1))=false by simpa using c13]
    conv=>whnf
    refine br_ (fun q2=>?_) fun q2=>?_
    ·have e:kindN p l=0:=by unfold kindN;rw [if_neg NZ,if_neg c13,if_pos (.inl (by omega))]
     rw [e] at hk'
     exact hk' _ le_y
    ·conv=>whnf
     refine new_intro (o:=rowO 3 [.int .i64 4,.int .i64 6,.int .i64 7]) (fun z h2 n_z le_z at_z ot_z=>cw_ ?_)
     refine pgsome_x (L:=[4,6,7]) p hp at_z rfl (by decide) (by decide) ?_
     simp only [List.any_cons,List.any_nil,Bool.or_false]
     have le2:=Hp.le_trans le_y le_z
     by_cases c467:bitN p 4=1∨bitN p 6=1∨bitN p 7=1
     ·rw [show (decide (bitN p 4=1) || (decide (bitN p 6=1) || decide (bitN p 7=1)))=true by simpa using c467]
      have e:kindN p l=0:=by unfold kindN;rw [if_neg NZ,if_neg c13,if_pos (.inr c467)]
      rw [e] at hk'
      conv=>whnf
      exact hk' _ le2
     ·rw [show (decide (bitN p 4=1) || (decide (bitN p 6=1) || decide (bitN p 7=1)))=false by simpa using c467]
      have e:kindN p l=1:=by unfold kindN;rw [if_neg NZ,if_neg c13,if_neg (fun hh=>hh.elim (fun h1=>by omega) c467)]
      rw [e] at hk'
      conv=>whnf
      exact hk' _ le2
  ·rw [decide_eq_false c1]
   conv=>whnf
   have Z:bitN p 0=0∨(bitN p 2=1∧bitN p 1=0)∨p / 2 ^ 54≠0:=.inr (.inl ⟨c2,b2 _ c1⟩)
   have e:kindN p l=0:=by unfold kindN;rw [if_pos Z]
   rw [e] at hk'
   exact hk' h (Hp.le_refl _)
 ·rw [decide_eq_false c2]
  have NW:¬ (bitN p 2=1∧bitN p 1=0):=fun hh=>c2 hh.1
  conv=>whnf
  refine val_by (shr64 p 54 (by decide)) (cw_ ?_)
  refine br_ (fun q1=>?_) fun q1=>?_
  ·have Z:bitN p 0=0∨(bitN p 2=1∧bitN p 1=0)∨p / 2 ^ 54≠0:=.inr (.inr (by omega))
   conv=>whnf
   have e:kindN p l=0:=by unfold kindN;rw [if_pos Z]
   rw [e] at hk'
   exact hk' h (Hp.le_refl _)
  have NZ:¬ (bitN p 0=0∨(bitN p 2=1∧bitN p 1=0)∨p / 2 ^ 54≠0):=by
   rintro (e | e | e)
   ·omega
   ·exact NW e
   ·omega
  conv=>whnf
  refine new_intro (o:=rowO 3 [.int .i64 1,.int .i64 3]) (fun y h1 n_y le_y at_y ot_y=>cw_ ?_)
  refine pgsome_x (L:=[1,3]) p hp at_y rfl (by decide) (by decide) ?_
  simp only [List.any_cons,List.any_nil,Bool.or_false]
  by_cases c13:bitN p 1=1∨bitN p 3=1
  ·rw [show (decide (bitN p 1=1) || decide (bitN p 3=1))=true by simpa using c13]
   conv=>whnf
   refine pgppn_x p hp (cw_ ?_)
   refine n_ ?_
   rw [show (9:Int)*(l:Int)=((9*l:Nat):Int) by omega]
   refine blow_x (ppnN p) (9*l) hpp (by omega) (cw_ ?_)
   refine br_ (fun q2=>?_) fun q2=>?_
   ·have e:kindN p l=0:=by unfold kindN;rw [if_neg NZ,if_pos c13,if_pos (by omega)]
    rw [e] at hk'
    exact hk' _ le_y
   ·have e:kindN p l=2:=by unfold kindN;rw [if_neg NZ,if_pos c13,if_neg (by omega)]
    rw [e] at hk'
    exact hk' _ le_y
  ·rw [show (decide (bitN p 1=1) || decide (bitN p 3=1))=false by simpa using c13]
   conv=>whnf
   refine br_ (fun q2=>?_) fun q2=>?_
   ·have e:kindN p l=0:=by unfold kindN;rw [if_neg NZ,if_neg c13,if_pos (.inl (by omega))]
    rw [e] at hk'
    exact hk' _ le_y
   ·conv=>whnf
    refine new_intro (o:=rowO 3 [.int .i64 4,.int .i64 6,.int .i64 7]) (fun z h2 n_z le_z at_z ot_z=>cw_ ?_)
    refine pgsome_x (L:=[4,6,7]) p hp at_z rfl (by decide) (by decide) ?_
    simp only [List.any_cons,List.any_nil,Bool.or_false]
    have le2:=Hp.le_trans le_y le_z
    by_cases c467:bitN p 4=1∨bitN p 6=1∨bitN p 7=1
    ·rw [show (decide (bitN p 4=1) || (decide (bitN p 6=1) || decide (bitN p 7=1)))=true by simpa using c467]
     have e:kindN p l=0:=by unfold kindN;rw [if_neg NZ,if_neg c13,if_pos (.inr c467)]
     rw [e] at hk'
     conv=>whnf
     exact hk' _ le2
    ·rw [show (decide (bitN p 4=1) || (decide (bitN p 6=1) || decide (bitN p 7=1)))=false by simpa using c467]
     have e:kindN p l=1:=by unfold kindN;rw [if_neg NZ,if_neg c13,if_neg (fun hh=>hh.elim (fun h1=>by omega) c467)]
     rw [e] at hk'
     conv=>whnf
     exact hk' _ le2
theorem pgthere_x (l:Int) (hk:K (.bool (decide (0≤l∧l≤2))) h):X Tryz.prog 57 #[.int .i64 l] h K:=by
 refine fnv (args:=_) mixed [] [] [] Tryz.func57 rfl (by kernel_rfl) (cw_ ?_)
 refine br_ (fun q1=>?_) fun q1=>?_
 ·conv=>whnf
  exact kq hk (bI (by rw [Bool.eq_iff_iff];simp;omega))
 ·exact kq hk (bI (by rw [Bool.eq_iff_iff];simp;omega))
theorem pgvlow_x (l:Nat) (hl:l≤2) (hk:K (.int .i64 (12+9*l:Nat)) h):X Tryz.prog 59 #[.int .i64 l] h K:=by
 refine fnv (args:=_) mixed [] [] [] Tryz.func59 rfl (by kernel_rfl) (cw_ ?_)
 refine n_ ?_
 refine n_ ?_
 exact kq hk (iI (by omega))
theorem pgplace_x (va l:Nat) (hv:va<2 ^ 64) (hl:l≤2) (hk:K (.int .i64 (placeN va l)) h):X Tryz.prog 28 #[ux va,.int .i64 l] h K:=by
 have hp:=place_lt va l
 refine fnv (args:=_) mixed [] [] [] Tryz.func28 rfl (by kernel_rfl) (cw_ ?_)
 refine pgthere_x l ?_
 rw [decide_eq_true (show 0≤(l:Int)∧(l:Int)≤2 by omega)]
 conv=>whnf
 refine pgvlow_x l hl (cw_ ?_)
 refine bcut_x va (12+9*l) 9 hv (by omega) (by decide) (cw_ ?_)
 have e:va / 2 ^ (12+9*l) % 2 ^ 9=placeN va l:=rfl
 rw [e]
 refine n_ ?_
 exact hk
theorem pgsize_x (l:Int) (hk:K (ux (if 0≤l∧l≤2 then sizeN l.toNat else 0)) h):X Tryz.prog 64 #[.int .i64 l] h K:=by
 refine fnv (args:=_) mixed [] [] [] Tryz.func64 rfl (by kernel_rfl) (cw_ ?_)
 refine pgthere_x l ?_
 by_cases hl:0≤l∧l≤2
 ·rw [decide_eq_true hl]
  rw [if_pos hl] at hk
  obtain ⟨k,rfl⟩:∃ k:Nat,l=k:=⟨l.toNat,by omega⟩
  conv=>whnf
  refine pgvlow_x k (by omega) (cw_ ?_)
  refine ov_u64 (by omega) (cw_ ?_)
  refine ov_by (shl64 1 (12+9*k) (by omega)) ?_
  rw [Nat.one_mul,Nat.mod_eq_of_lt (Nat.lt_of_lt_of_le (Nat.pow_lt_pow_right (by decide) (show 12+9*k<31 by omega)) (by decide))]
  rw [Int.toNat_natCast] at hk
  exact hk
 ·rw [decide_eq_false hl]
  rw [if_neg hl] at hk
  conv=>whnf
  exact hk
theorem pgmay_x (va:Nat) (hv:va<2 ^ 64) (hk:K (.bool (decide (mayN va))) h):X Tryz.prog 27 #[ux va] h K:=by
 refine fnv (args:=_) mixed [] [] [] Tryz.func27 rfl (by kernel_rfl) (cw_ ?_)
 refine bsign_x va 39 hv (by decide) (cw_ ?_)
 have e:=mayI va
 generalize signN (va % 2 ^ 39) 39=s at e ⊢
 rw [← e] at hk
 exact kq hk (bI (by rw [Bool.eq_iff_iff];simp only [beq_iff_eq,decide_eq_true_eq]))
end
end Go.Proofs.YtdhkjcdneidgaaaGreatDoor
namespace Go.Proofs.YtdhkjcdneidgaaaGreatDoor
open Go Go.Mid Go.RowKit Go.Bits
attribute [local irreducible] mid
def spv (p:Nat×Nat):Value:=.agg #[.int .i64 p.1,.int .i64 p.2]
def entF (L:List TE) (p:Nat×Nat):Option Value:=(findE L p.1 p.2).map fun e=>.int .u64 e.p
abbrev tbT:TypeId:=76
theorem pgmvI {a b:Int} (e:a=b) (x:MV):[MV.v (.int .i64 a),x]=[MV.v (.int .i64 b),x]:=by rw [e]
def freeR (L:List TE) (va l:Nat):Except Bool Nat→Bool
 | .error b=>b
 | .ok f=>(findE L f (placeN va l)).isNone
theorem freeP_R (t:Tb) (va l:Nat):freeP t va l=freeR t.L va l (seekP t.L va 0 (above l)):=by
 unfold freeP
 cases seekP t.L va 0 (above l) <;> rfl
section
variable {h:Hp} {K:Value→Hp→Prop}
theorem spT:KeyT Tryz.prog 97 spv where
 under:=Option.isSome_iff_exists.1 (by kernel_rfl)
 key:=fun a=>by kernel_rfl
 equal:=fun a b=>by
  obtain ⟨a1,a2⟩:=a
  obtain ⟨b1,b2⟩:=b
  have e:eqV Tryz.prog 10000 97 (spv (a1,a2)) (spv (b1,b2))=some (((a1:Int)==(b1:Int)) && (((a2:Int)==(b2:Int)) && true)):=by kernel_rfl
  rw [e]
  congr 1
  rw [Bool.eq_iff_iff]
  simp
  omega
 same:=fun a=>by simp [spv,Instr.sameBits]
theorem mapS:Tryz.prog.underlying 74=some (.map 97 25):=by kernel_rfl
theorem u64Z:zeroT Tryz.prog 25=some (ux 0):=by kernel_rfl
theorem aggMp:isAggT Tryz.prog 74=some false:=by kernel_rfl
theorem aggU6:isAggT Tryz.prog 25=some false:=by kernel_rfl
theorem sizI6:sizeT Tryz.prog 3=some 1:=by kernel_rfl
structure TbO (h:Hp) (b m:Nat) (t:Tb):Prop where
 row:h b=some (rowO tbT [ux t.root,.int .i64 t.frames,.map (some m)])
 map:∃ o n,h m=some o∧MapB spv (entF t.L) n o∧n=t.L.length
theorem TbO.le {h h':Hp} {b m:Nat} {t:Tb} (i:TbO h b m t) (hle:h.le h'):TbO h' b m t:=by
 obtain ⟨o,n,h1,h2,h3⟩:=i.map
 exact ⟨hle _ _ i.row,o,n,hle _ _ h1,h2,h3⟩
theorem TbO.off {h h':Hp} {b m:Nat} {t:Tb} (i:TbO h b m t) (o:∀ c,(c=b∨c=m)→h' c=h c):TbO h' b m t:=by
 obtain ⟨x,n,h1,h2,h3⟩:=i.map
 exact ⟨(o b (.inl rfl)).trans i.row,x,n,(o m (.inr rfl)).trans h1,h2,h3⟩
theorem pgnumber_x {b m:Nat} {t:Tb} (i:TbO h b m t) (hr:t.root<2 ^ 64) (k:Nat) (hk2:k<2 ^ 40) (hk:K (ux (t.root / 4096+k)) h):X Tryz.prog 34 #[.pointer (some ⟨b,0,none⟩),.int .i64 k] h K:=by
 refine fnv (args:=_) mixed [] [] [] Tryz.func34 rfl (by kernel_rfl) (cw_ ?_)
 refine ⟨_,loadC0 aggU6 i.row rfl,cw_ ?_⟩
 refine ov_by (show IntKind.u64.wrap ((t.root:Int).tdiv 4096)=((t.root / 4096:Nat):Int) from w64 (show t.root / 4096<2 ^ 64 by omega)) (cw_ ?_)
 refine ov_by (show IntKind.u64.wrap (k:Int)=(k:Int) from w64 (by omega)) (cw_ ?_)
 refine ov_u64 (by omega) (cw_ ?_)
 exact kq hk (iI (by omega))
def frP (r p:Nat):Nat:=(ppnN p+2 ^ 64 - r / 4096) % 2 ^ 64 % 2 ^ 44
theorem pgframe_x {b m:Nat} {t:Tb} (i:TbO h b m t) (hr:t.root<2 ^ 64) (p:Nat) (hp:p<2 ^ 64) (hk:K (.int .i64 (frP t.root p)) h):X Tryz.prog 30 #[.pointer (some ⟨b,0,none⟩),ux p] h K:=by
 have h1:ppnN p<2 ^ 44:=Nat.mod_lt _ (by decide)
 refine fnv (args:=_) mixed [] [] [] Tryz.func30 rfl (by kernel_rfl) (cw_ ?_)
 refine pgppn_x p hp (cw_ ?_)
 refine pgnumber_x i hr 0 (by decide) ?_
 rw [Nat.add_zero]
 conv=>whnf
 refine ov_by (show IntKind.u64.wrap ((ppnN p:Int) - ((t.root / 4096:Nat):Int))=(((ppnN p+2 ^ 64 - t.root / 4096) % 2 ^ 64:Nat):Int) by rw [toU64];omega) ?_
 conv=>whnf
 refine val_by (y:=((frP t.root p:Nat):Int)) ((and64 (Nat.mod_lt _ (by decide)) (show 2 ^ 44 - 1<2 ^ 64 by decide)).trans (by rw [Nat.and_two_pow_sub_one_eq_mod];rfl)) (cw_ ?_)
 have h2:frP t.root p<2 ^ 44:=Nat.mod_lt _ (by decide)
 refine n_ ?_
 exact hk
theorem fr_lead {r k:Nat} (hr:r<2 ^ 64) (hk:k<2 ^ 44):frP r (makeN (r / 4096+k) 1)=k:=by
 unfold frP
 rw [make_ppn]
 omega
theorem pgfits_x (va pa:Nat) (l:Int) (fl:Nat) (h1:va<2 ^ 64) (h2:pa<2 ^ 64) (h3:fl<2 ^ 64) (hk:K (.bool (fitsP va pa l fl)) h):X Tryz.prog 31 #[ux va,ux pa,.int .i64 l,ux fl] h K:=by
 refine fnv (args:=_) mixed [] [] [] Tryz.func31 rfl (by kernel_rfl) (cw_ ?_)
 refine pgsize_x l ?_
 by_cases hl:0≤l∧l≤2
 rotate_left
 ·rw [if_neg hl]
  have NO:¬ ((0≤l∧l≤2)∧mayN va∧va % sizeN l.toNat=0∧pa % sizeN l.toNat=0∧pa / 2 ^ 56=0∧fl≤255∧kindN (makeN (pa / 4096) fl) l.toNat=2):=fun hh=>hl hh.1
  rw [show fitsP va pa l fl=false from decide_eq_false fun hh=>NO hh] at hk
  conv=>whnf
  exact hk
 rw [if_pos hl]
 obtain ⟨k,rfl⟩:∃ k:Nat,l=k:=⟨l.toNat,by omega⟩
 rw [Int.toNat_natCast]
 have hz0:0<sizeN k:=Nat.pow_pos (by decide)
 have hz1:sizeN k<2 ^ 64:=Nat.pow_lt_pow_right (by decide) (by omega)
 generalize hz:sizeN k=z at hz0 hz1 ⊢
 conv=>whnf
 refine bf_ ?_
 refine pgmay_x va h1 ?_
 by_cases c1:mayN va
 rotate_left
 ·rw [decide_eq_false c1]
  have NO:¬ ((0≤(k:Int)∧(k:Int)≤2)∧mayN va∧va % sizeN (k:Int).toNat=0∧pa % sizeN (k:Int).toNat=0∧pa / 2 ^ 56=0∧fl≤255∧kindN (makeN (pa / 4096) fl) (k:Int).toNat=2):=fun hh=>c1 hh.2.1
  rw [show fitsP va pa k fl=false from decide_eq_false fun hh=>NO hh] at hk
  conv=>whnf
  exact hk
 rw [decide_eq_true c1]
 conv=>whnf
 refine bt_ ?_
 have tm:∀ a:Nat,((a:Int)).tmod (z:Int)=((a % z:Nat):Int):=fun a=>rfl
 have ek:(k:Int).toNat=k:=rfl
 rw [tm]
 refine br_ (fun q1=>?_) fun q1=>?_
 ·have NO:¬ ((0≤(k:Int)∧(k:Int)≤2)∧mayN va∧va % sizeN (k:Int).toNat=0∧pa % sizeN (k:Int).toNat=0∧pa / 2 ^ 56=0∧fl≤255∧kindN (makeN (pa / 4096) fl) (k:Int).toNat=2):=fun hh=>by have:=hh.2.2.1;rw [ek,hz] at this;omega
  conv=>whnf
  rw [show fitsP va pa k fl=false from decide_eq_false fun hh=>NO hh] at hk
  conv=>whnf
  exact hk
 conv=>whnf
 refine bt_ ?_
 rw [tm]
 refine br_ (fun q2=>?_) fun q2=>?_
 ·have NO:¬ ((0≤(k:Int)∧(k:Int)≤2)∧mayN va∧va % sizeN (k:Int).toNat=0∧pa % sizeN (k:Int).toNat=0∧pa / 2 ^ 56=0∧fl≤255∧kindN (makeN (pa / 4096) fl) (k:Int).toNat=2):=fun hh=>by have:=hh.2.2.2.1;rw [ek,hz] at this;omega
  conv=>whnf
  rw [show fitsP va pa k fl=false from decide_eq_false fun hh=>NO hh] at hk
  conv=>whnf
  exact hk
 conv=>whnf
 refine val_by (shr64 pa 56 (by decide)) (cw_ ?_)
 refine br_ (fun q3=>?_) fun q3=>?_
 ·have NO:¬ ((0≤(k:Int)∧(k:Int)≤2)∧mayN va∧va % sizeN (k:Int).toNat=0∧pa % sizeN (k:Int).toNat=0∧pa / 2 ^ 56=0∧fl≤255∧kindN (makeN (pa / 4096) fl) (k:Int).toNat=2):=fun hh=>by have:=hh.2.2.2.2.1;omega
  conv=>whnf
  rw [show fitsP va pa k fl=false from decide_eq_false fun hh=>NO hh] at hk
  conv=>whnf
  exact hk
 conv=>whnf
 refine br_ (fun q4=>?_) fun q4=>?_
 ·have NO:¬ ((0≤(k:Int)∧(k:Int)≤2)∧mayN va∧va % sizeN (k:Int).toNat=0∧pa % sizeN (k:Int).toNat=0∧pa / 2 ^ 56=0∧fl≤255∧kindN (makeN (pa / 4096) fl) (k:Int).toNat=2):=fun hh=>by have:=hh.2.2.2.2.2.1;omega
  conv=>whnf
  rw [show fitsP va pa k fl=false from decide_eq_false fun hh=>NO hh] at hk
  conv=>whnf
  exact hk
 conv=>whnf
 refine val_by (shr64 pa 12 (by decide)) (cw_ ?_)
 refine pgmake_x (pa / 2 ^ 12) fl (by omega) h3 (cw_ ?_)
 refine pgkind_x (makeN (pa / 2 ^ 12) fl) k (Nat.lt_of_lt_of_le (make_lt _ _) (by decide)) (by omega) ?_
 have e:fitsP va pa k fl=decide (kindN (makeN (pa / 2 ^ 12) fl) k=2):=by
  rw [Bool.eq_iff_iff]
  unfold fitsP
  rw [decide_eq_true_iff,decide_eq_true_iff,ek,hz]
  exact ⟨fun hh=>hh.2.2.2.2.2.2,fun hh=>⟨hl,c1,by omega,by omega,by omega,by omega,hh⟩⟩
 rw [e] at hk
 generalize kindN (makeN (pa / 2 ^ 12) fl) k=kk at hk ⊢
 conv=>whnf
 exact kq hk (bI (by rw [Bool.eq_iff_iff];simp;omega))
theorem pgnewTables_x (r:Nat) (hr:r<2 ^ 64) (hk0:r % 4096≠0→K (.tuple #[.pointer none,.int .i64 1]) h) (hk:r % 4096=0→∀ b m h',h b=none→h m=none→h.le h'→TbO h' b m ⟨r,1,[]⟩→K (.tuple #[.pointer (some ⟨b,0,none⟩),.int .i64 0]) h'):X Tryz.prog 13 #[ux r] h K:=by
 refine fnv (args:=_) mixed [] [] [] Tryz.func13 rfl (by kernel_rfl) (cw_ ?_)
 rw [show ((r:Int)).tmod 4096=((r % 4096:Nat):Int) from rfl]
 refine br_ (fun q1=>?_) fun q1=>?_
 ·conv=>whnf
  exact hk0 (by omega)
 ·conv=>whnf
  refine new_intro (o:=.map #[] 0) (fun m h1 n_m le_m at_m ot_m=>cw_ ?_)
  refine new_intro (o:=rowO tbT [ux r,.int .i64 1,.map (some m)]) (fun b h2 n_b le_b at_b ot_b=>cw_ ?_)
  exact hk (by omega) b m h2 (Hp.none_le le_m n_b) n_m (Hp.le_trans le_m le_b) ⟨at_b,_,0,le_b _ _ at_m,MapB.nil,rfl⟩
theorem look_at {h:Hp} {b m:Nat} {t:Tb} (i:TbO h b m t) (f q:Nat):lookH Tryz.prog 74 h (.map (some m)) (spv (f,q)) true=some (match findE t.L f q with | some e=>.tuple #[ux e.p,.bool true] | none=>.tuple #[ux 0,.bool false]):=by
 obtain ⟨o,n,h1,h2,_⟩:=i.map
 have:=MapB.look mapS u64Z spT h1 h2 (f,q) true
 rw [this]
 unfold entF
 simp only
 cases findE t.L f q <;> rfl
theorem pgfree_x {b m:Nat} {t:Tb} {lev:Nat→Nat} (o:TbO h b m t) (i:TInv t lev) (hl2:t.L.length≤2 ^ 20) (va l:Nat) (hv:va<2 ^ 64) (hl:l≤2) (hk:K (.bool (freeP t va l)) h):X Tryz.prog 32 #[.pointer (some ⟨b,0,none⟩),ux va,.int .i64 l] h K:=by
 rw [freeP_R,above_dn hl] at hk
 refine fnv (args:=_) mixed [] [28] [] Tryz.func32 rfl (by kernel_rfl) (cw_ ?_)
 refine loop_at [8,7] [] (fun q vs _ h'=>h=h'∧∃ n f:Nat,q=n∧l+n≤2∧vs=[.v (.int .i64 (l+n:Nat)),.v (.int .i64 f)]∧f<t.frames∧lev f=l+n∧seekP t.L va 0 (dn 2 (2 - l))=seekP t.L va f (dn (l+n) n)) (2 - l) ⟨rfl,2 - l,0,rfl,by omega,by rw [show l+(2 - l)=2 by omega];rfl,by have:=i.f1;omega,by rw [i.l0];omega,by rw [show l+(2 - l)=2 by omega]⟩ ?_
 rintro q vs cs mm bx _ ⟨rfl,n,f,rfl,hn,rfl,hf,hlv,hs⟩
 conv=>whnf
 refine bt_ ?_
 refine ⟨_,loadC (i:=2) aggMp o.row rfl,cw_ ?_⟩
 refine ⟨_,pgplace_x va (l+q) hv (by omega) ⟨rfl,rfl⟩,?_⟩
 have lk:=look_at o f (placeN va (l+q))
 cases hq:findE t.L f (placeN va (l+q)) with
 | none =>
  rw [hq] at lk
  conv=>whnf
  refine ⟨_,lk,cw_ ?_⟩
  have e:freeR t.L va l (seekP t.L va 0 (dn 2 (2 - l)))=true:=by
   rw [hs]
   cases q with
   | zero =>
    show (findE t.L f (placeN va l)).isNone=true
    rw [Nat.add_zero] at hq
    rw [hq];rfl
   | succ q =>
    unfold dn seekP
    rw [hq]
    rfl
  rw [e] at hk
  exact hk
 | some e =>
  rw [hq] at lk
  obtain ⟨he,hef,_⟩:=findE_some hq
  have hp:=i.p64 e he
  conv=>whnf
  refine ⟨_,lk,cw_ ?_⟩
  cases q with
  | zero =>
   have e2:freeR t.L va l (seekP t.L va 0 (dn 2 (2 - l)))=false:=by
    rw [hs]
    show (findE t.L f (placeN va l)).isNone=false
    rw [Nat.add_zero] at hq
    rw [hq];rfl
   rw [e2] at hk
   refine bt_ ?_
   exact hk
  | succ q =>
   refine bf_ ?_
   refine pgkind_x e.p (l+(q+1)) hp (by omega) ?_
   have hkd:=i.kind he
   rw [hef,hlv] at hkd
   rw [hkd]
   cases ht:e.to with
   | none =>
    have e2:freeR t.L va l (seekP t.L va 0 (dn 2 (2 - l)))=false:=by
     rw [hs]
     unfold dn seekP
     rw [hq]
     simp only
     rw [ht]
     rfl
    rw [e2] at hk
    rw [if_pos rfl]
    conv=>whnf
    exact hk
   | some k =>
    rw [if_neg (by simp)]
    obtain ⟨k1,k2,k3,k4⟩:=i.lead e he k ht
    have f2:=i.f2
    conv=>whnf
    refine pgframe_x o i.r1 e.p hp ?_
    rw [k4,fr_lead i.r1 (by omega)]
    conv=>whnf
    refine n_ ?_
    have hs2:seekP t.L va f (dn (l+(q+1)) (q+1))=seekP t.L va k (dn (l+q) q):=by
     conv=>lhs;unfold dn seekP
     rw [hq]
     simp only
     rw [ht]
     rfl
    exact ⟨q,by omega,rfl,q,k,rfl,by omega,pgmvI (by omega) _,k1,by rw [hef] at k3;omega,hs.trans hs2⟩
end
end Go.Proofs.YtdhkjcdneidgaaaGreatDoor
namespace Go.Proofs.YtdhkjcdneidgaaaGreatDoor
open Go Go.Mid Go.RowKit Go.Bits
attribute [local irreducible] mid
theorem entF_put (L:List TE) (f q p:Nat) (k:Option Nat) (hn:findE L f q=none):putF (entF L) (f,q) (some (.int .u64 p))=entF (L++[⟨f,q,p,k⟩]):=by
 funext a
 obtain ⟨a1,a2⟩:=a
 unfold putF entF
 rw [findE_app]
 by_cases e:(a1,a2)=(f,q)
 ·cases e
  rw [if_pos rfl,hn]
  simp [findE]
 ·rw [if_neg e]
  have:findE [⟨f,q,p,k⟩] a1 a2=none:=by
   unfold findE
   rw [if_neg (by rintro ⟨rfl,rfl⟩;exact e rfl)]
   rfl
  simp only [this]
  cases findE L a1 a2 <;> rfl
section
variable {h:Hp} {K:Value→Hp→Prop}
theorem TbO.upd {b m:Nat} {t:Tb} (o:TbO h b m t) (f q p:Nat) (hn:findE t.L f q=none):∃ x n,updH Tryz.prog 74 h (.map (some m)) (spv (f,q)) (ux p)=some (m,x)∧MapB spv (entF (t.L++[⟨f,q,p,none⟩])) n x∧n=t.L.length+1:=by
 obtain ⟨x,n,h1,h2,h3⟩:=o.map
 obtain ⟨x',h4,h5⟩:=MapB.upd mapS spT h1 h2 (f,q) (ux p)
 rw [entF_put _ _ _ _ none hn] at h5
 refine ⟨x',_,h4,h5,?_⟩
 have e0:entF t.L (f,q)=none:=by unfold entF;rw [hn];rfl
 unfold Go.Mid.putN
 rw [e0]
 simp [h3]
theorem entF_to (L:List TE) (f q p:Nat) (j k:Option Nat):entF (L++[⟨f,q,p,j⟩])=entF (L++[⟨f,q,p,k⟩]):=by
 funext a
 unfold entF
 rw [findE_app,findE_app]
 cases findE L a.1 a.2 with
 | some e=>rfl
 | none =>
  simp only [findE]
  by_cases hc:f=a.1∧q=a.2
  ·rw [if_pos hc,if_pos hc];rfl
  ·rw [if_neg hc,if_neg hc]
theorem down_end {va l:Nat} {t u:Tb} {lev:Nat→Nat} {g:Nat} (i:TInv t lev) (hl:l≤2) (h:downP va t 0 (dn 2 (2 - l))=some (u,g)):g<u.frames∧u.L.length≤t.L.length+2:=by
 obtain ⟨lev',a,b,c,d,e⟩:=down_inv va l (2 - l) t lev 0 u g i (by have:=i.f1;omega) (by rw [i.l0];omega) (by rw [i.l0];exact h)
 exact ⟨b,by omega⟩
theorem pgmap_x {b m:Nat} {t:Tb} {lev:Nat→Nat} (o:TbO h b m t) (hbm:b≠m) (i:TInv t lev) (hl2:t.L.length≤2 ^ 19) (va pa:Nat) (l:Int) (fl:Nat) (h1:va<2 ^ 64) (h2:pa<2 ^ 64) (h3:fl<2 ^ 64) (hk:∀ h',TbO h' b m (mapT t (mapP t va pa l fl))→(∀ c,c≠b→c≠m→h' c=h c)→K (.int .i64 (mapE (mapP t va pa l fl))) h'):X Tryz.prog 10 #[.pointer (some ⟨b,0,none⟩),ux va,ux pa,.int .i64 l,ux fl] h K:=by
 refine fnv (args:=_) mixed [(13,13)] [28,33] [] Tryz.func10 rfl (by kernel_rfl) (cw_ ?_)
 refine pgfits_x va pa l fl h1 h2 h3 ?_
 by_cases hf:fitsP va pa l fl=true
 rotate_left
 ·have e:mapP t va pa l fl=.error 1:=if_neg hf
  rw [show fitsP va pa l fl=false by simpa using hf]
  rw [e] at hk
  conv=>whnf
  exact hk h o fun _ _ _=>rfl
 rw [hf]
 obtain ⟨⟨hl0,hl3⟩,_,_,_,hp56,_,hk2⟩:=of_decide_eq_true hf
 obtain ⟨k,rfl⟩:∃ k:Nat,l=k:=⟨l.toNat,by omega⟩
 have ek:(k:Int).toNat=k:=rfl
 rw [ek] at hk2
 conv=>whnf
 refine pgfree_x o i (Nat.le_trans hl2 (by decide)) va k h1 (by omega) ?_
 have hfd:=free_down va k (above k) t 0 i.fr (by have:=i.f1;omega) (fun e he k hk=>(i.lead e he k hk).1)
 have hfd:freeP t va k=true↔∃ v g,downP va t 0 (above k)=some (v,g)∧findE v.L g (placeN va k)=none:=hfd
 have hmp:mapP t va pa k fl=match downP va t 0 (above k) with
  | none=>.error 8
  | some (u,f)=>if (findE u.L f (placeN va k)).isNone then .ok { u with L:=u.L++[⟨f,placeN va k,makeN (pa / 4096) fl,none⟩] } else .error 8:=if_pos hf
 cases hfr:freeP t va k with
 | false =>
  have e:mapP t va pa k fl=.error 8:=by
   rw [hmp]
   cases hd:downP va t 0 (above k) with
   | none=>rfl
   | some r =>
    obtain ⟨v,g⟩:=r
    simp only
    rw [if_neg]
    intro hh
    have:=hfd.2 ⟨v,g,hd,Option.isNone_iff_eq_none.1 hh⟩
    rw [hfr] at this;cases this
  rw [e] at hk
  conv=>whnf
  exact hk h o fun _ _ _=>rfl
 | true =>
  obtain ⟨v,g,hd,hn⟩:=hfd.1 hfr
  have e:mapP t va pa k fl=.ok { v with L:=v.L++[⟨g,placeN va k,makeN (pa / 4096) fl,none⟩] }:=by
   rw [hmp,hd]
   simp only
   rw [hn];rfl
  rw [e] at hk
  clear e hmp hfd hfr
  rw [above_dn (by omega)] at hd
  obtain ⟨hgv,hvl⟩:=down_end i (by omega) hd
  conv=>whnf
  refine loop_at [12,11] [] (fun q vs _ h'=>∃ (u:Tb) (lv:Nat→Nat) (f:Nat),TbO h' b m u∧TInv u lv∧(∀ c,c≠b→c≠m→h' c=h c)∧k+q≤2∧vs=[.v (.int .i64 (k+q:Nat)),.v (.int .i64 f)]∧f<u.frames∧lv f=k+q∧downP va u f (dn (k+q) q)=some (v,g)∧u.L.length+q≤t.L.length+2) (2 - k) ⟨t,lev,0,o,i,fun _ _ _=>rfl,by omega,by rw [show k+(2 - k)=2 by omega];rfl,by have:=i.f1;omega,by rw [i.l0];omega,by rw [show k+(2 - k)=2 by omega];exact hd,by omega⟩ ?_
  rintro q vs cs mm bx h4 ⟨u,lv,f,o4,i4,ho4,hkq,rfl,hf4,hlv,hdn,hul⟩
  conv=>whnf
  refine br_ (fun q1=>?_) fun q1=>?_
  ·obtain ⟨n,rfl⟩:∃ n,q=n+1:=⟨q - 1,by omega⟩
   have hdn:downP va u f ((k+(n+1)) :: dn (k+n) n)=some (v,g):=hdn
   unfold downP at hdn
   have lk:=look_at o4 f (placeN va (k+(n+1)))
   have f2:=i4.f2
   have r1:=i4.r1
   conv=>whnf
   refine pgplace_x va (k+(n+1)) h1 (by omega) (cw_ ?_)
   refine ⟨_,loadC (i:=2) aggMp o4.row rfl,cw_ ?_⟩
   cases hq:findE u.L f (placeN va (k+(n+1))) with
   | none =>
    rw [hq] at lk hdn
    simp only at hdn
    refine ⟨_,lk,cw_ ?_⟩
    refine ⟨_,loadC (i:=1) aggIn o4.row rfl,cw_ ?_⟩
    refine pgnumber_x o4 r1 u.frames (by omega) (cw_ ?_)
    refine pgmake_x (u.root / 4096+u.frames) 1 (by omega) (by decide) (cw_ ?_)
    have hob_:=o4.upd f (placeN va (k+(n+1))) (makeN (u.root / 4096+u.frames) 1) hq
    obtain ⟨x5,n5,hup,hM5,hn5⟩:=hob_
    refine ⟨_,loadC (i:=2) aggMp o4.row rfl,cw_ ?_⟩
    refine wr_intro (by exact hup) (fun h5 at_h5 ot_h5=>cw_ ?_)
    have r5:h5 b=some (rowO tbT [ux u.root,.int .i64 u.frames,.map (some m)]):=(ot_h5 b hbm).trans o4.row
    refine ⟨trivial,cw_ ?_⟩
    refine ⟨_,loadC (i:=1) aggIn r5 rfl,cw_ ?_⟩
    refine n_ ?_
    refine wr_intro (by exact storeC (i:=1) sizI6 r5 (show (1:Nat)<3 by decide) rfl rfl) (fun h6 at_h6 ot_h6=>cw_ ?_)
    have i6:=i4.down hf4 (by omega) (place_lt va (k+(n+1))) hq
    have o6:TbO h6 b m { u with frames:=u.frames+1,L:=u.L++[⟨f,placeN va (k+(n+1)),makeN (u.root / 4096+u.frames) 1,some u.frames⟩] }:=by
     refine ⟨?_,x5,n5,(ot_h6 m (Ne.symm hbm)).trans at_h5,?_,?_⟩
     ·rw [at_h6]
      show some (rowO _ [_,.int .i64 ((u.frames:Int)+1),_])=some (rowO _ [_,.int .i64 ((u.frames+1:Nat):Int),_])
      rw [show (u.frames:Int)+1=((u.frames+1:Nat):Int) by omega]
     ·show MapB spv (entF (u.L++[⟨f,_,_,some u.frames⟩])) n5 x5
      rw [entF_to u.L f _ _ (some u.frames) none]
      exact hM5
     ·rw [hn5];show _=(u.L++[_]).length;rw [List.length_append];rfl
    have ho6:∀ c,c≠b→c≠m→h6 c=h c:=fun c hc hm=>by rw [ot_h6 c hc,ot_h5 c hm];exact ho4 c hc hm
    conv=>whnf
    refine pgframe_x o6 r1 _ (Nat.lt_of_lt_of_le (make_lt _ _) (by decide)) ?_
    have efr:frP u.root (makeN (u.root / 4096+u.frames) 1)=u.frames:=fr_lead r1 (by omega)
    have efr:frP ({ u with frames:=u.frames+1,L:=u.L++[⟨f,placeN va (k+(n+1)),makeN (u.root / 4096+u.frames) 1,some u.frames⟩] }:Tb).root (makeN (u.root / 4096+u.frames) 1)=u.frames:=efr
    rw [efr]
    conv=>whnf
    refine n_ ?_
    refine ⟨n,by omega,_,_,u.frames,o6,i6,ho6,by omega,pgmvI (by omega) _,Nat.lt_succ_self _,?_,hdn,?_⟩
    ·show (if u.frames=u.frames then lv f - 1 else lv u.frames)=k+n
     rw [if_pos rfl];omega
    ·show (u.L++[_]).length+n≤_
     rw [List.length_append]
     simp
     omega
   | some e =>
    rw [hq] at lk hdn
    simp only at hdn
    obtain ⟨he,hef,_⟩:=findE_some hq
    cases ht:e.to with
    | none=>rw [ht] at hdn;cases hdn
    | some j =>
     rw [ht] at hdn
     obtain ⟨k1,k2,k3,k4⟩:=i4.lead e he j ht
     rw [hef,hlv] at k2 k3
     refine ⟨_,lk,cw_ ?_⟩
     refine pgframe_x o4 r1 e.p (i4.p64 e he) ?_
     rw [k4,fr_lead r1 (by omega)]
     conv=>whnf
     refine n_ ?_
     exact ⟨n,by omega,u,lv,j,o4,i4,ho4,by omega,pgmvI (by omega) _,k1,by omega,hdn,by omega⟩
  ·obtain rfl:q=0:=by omega
   have hdn:some (u,f)=some (v,g):=hdn
   cases hdn
   have f2:=i4.f2
   conv=>whnf
   refine ⟨_,loadC (i:=2) aggMp o4.row rfl,cw_ ?_⟩
   refine ⟨_,pgplace_x va k h1 (by omega) ⟨rfl,rfl⟩,cw_ ?_⟩
   refine val_by (shr64 pa 12 (by decide)) (cw_ ?_)
   refine ⟨_,pgmake_x (pa / 2 ^ 12) fl (by omega) h3 ⟨rfl,rfl⟩,cw_ ?_⟩
   have hob_:=o4.upd _ (placeN va k) (makeN (pa / 2 ^ 12) fl) hn
   obtain ⟨x5,n5,hup,hM5,hn5⟩:=hob_
   refine wr_intro (by exact hup) (fun h5 at_h5 ot_h5=>cw_ ?_)
   refine ⟨trivial,cw_ ?_⟩
   refine hk h5 ⟨(ot_h5 b hbm).trans o4.row,x5,n5,at_h5,hM5,?_⟩ fun c hc hm=>by rw [ot_h5 c hm];exact ho4 c hc hm
   rw [hn5]
   exact (List.length_append (bs:=[_])).symm
end
end Go.Proofs.YtdhkjcdneidgaaaGreatDoor
