/-
  Words by their bits: numbers laid into words, by formats: plain laws.
-/
import Derived.Test.YtdhkjcdneidgaaaGreatDoorRgRegA
import Derived.Test.YtdhkjcdneidgaaaGreatDoorLinS
import Derived.Lib.ParseIntBTie
import Derived.Test.YtdhkjcdneidgaaaGreatDoorAsI
import Derived.Test.YtdhkjcdneidgaaaGreatDoorPgB
set_option linter.unusedSimpArgs false
set_option linter.unusedVariables false
set_option maxHeartbeats 8000000
set_option maxRecDepth 10000
set_option linter.unusedSimpArgs false
set_option linter.unusedVariables false
namespace Go.Proofs.YtdhkjcdneidgaaaGreatDoor
open Go Go.Mid Go.RowKit
theorem idx_byte {w r:Str} {c:UInt8} (h:c ∉ w):Lib.index (w++c :: r) [c]=(w.length:Nat):=by
 refine Lib.index_first (by simp) ?_ fun j hj=>?_
 ·show List.isPrefixOf _ (List.drop _ _)=_
  rw [List.drop_left];simp
 ·show List.isPrefixOf _ (List.drop _ _)=_
  rw [List.drop_append_of_le_length (by omega),List.drop_eq_getElem_cons hj]
  simp only [List.cons_append,List.isPrefixOf,Bool.and_true,beq_eq_false_iff_ne]
  intro e
  exact h (e ▸ List.getElem_mem hj)
theorem idx_no {w:Str} {c:UInt8} (h:c ∉ w):Lib.index w [c] = -1:=by
 rcases Lib.index_spec w [c] with ⟨h1,_⟩ | ⟨i,h1,h2,h3,_⟩
 ·exact h1
 ·have h3:List.isPrefixOf [c] (w.drop i)=true:=h3
  cases hd:w.drop i with
  | nil=>rw [hd] at h3;simp at h3
  | cons a q =>
   rw [hd] at h3
   simp only [List.isPrefixOf,Bool.and_true,beq_iff_eq] at h3
   exact absurd (List.mem_of_mem_drop (i:=i) (by rw [hd,h3];simp)) h
theorem sp_one {w r:Str} {c:UInt8} (h:c ∉ w):sp [c] (w++c :: r)=w :: sp [c] r:=by
 rw [sp_hit (by simp) (idx_byte h),List.take_left]
 congr 1
 show sp [c] ((w++c :: r).drop (w.length+1))=_
 rw [← List.drop_drop,List.drop_left];rfl
theorem sp_end {w:Str} {c:UInt8} (h:c ∉ w):sp [c] w=[w]:=sp_miss (idx_no h)
def dv (l:Str):Nat:=l.foldl (fun a b=>10*a+(b.toNat - 48)) 0
def digs (l:Str):Prop:=∀ b ∈ l,48≤b.toNat∧b.toNat≤57
theorem dv_snoc (l:Str) (b:UInt8):dv (l++[b])=10*dv l+(b.toNat - 48):=by simp [dv]
theorem dec_rec (u:Nat):Lib.decDigits u=if u<10 then [UInt8.ofNat (48+u)] else Lib.decDigits (u / 10)++[UInt8.ofNat (48+u % 10)]:=by
 rw [Lib.decDigits]
 split <;> rfl
theorem dec_dv (u:Nat):dv (Lib.decDigits u)=u∧digs (Lib.decDigits u):=by
 induction u using Nat.strongRecOn with
 | _ u ih =>
  rw [dec_rec]
  split
  ·have e:(UInt8.ofNat (48+u)).toNat=48+u:=by rw [UInt8.toNat_ofNat'];omega
   refine ⟨?_,fun b hb=>?_⟩
   ·show 10*0+((UInt8.ofNat (48+u)).toNat - 48)=u
    rw [e];omega
   ·simp only [List.mem_singleton] at hb;subst hb;rw [e];omega
  ·obtain ⟨h1,h2⟩:=ih (u / 10) (by omega)
   have e:(UInt8.ofNat (48+u % 10)).toNat=48+u % 10:=by rw [UInt8.toNat_ofNat'];omega
   refine ⟨?_,fun b hb=>?_⟩
   ·rw [dv_snoc,h1,e];omega
   ·rcases List.mem_append.1 hb with hb | hb
    ·exact h2 b hb
    ·simp only [List.mem_singleton] at hb;subst hb;rw [e];omega
theorem dv_lt:∀ (k:Nat) (l:Str),l.length≤k→digs l→dv l<10 ^ k
 | 0,l,h,_=>by
  have:l=[]:=List.eq_nil_of_length_eq_zero (by omega)
  subst this
  decide
 | k+1,l,h,hd=>by
  rcases List.eq_nil_or_concat l with rfl | ⟨q,b,rfl⟩
  ·show 0<_
   exact Nat.pow_pos (by decide)
  ·have hb:=hd b (by simp)
   have ih:=dv_lt k q (by simp at h;omega) (fun x hx=>hd x (by simp [hx]))
   rw [List.concat_eq_append,dv_snoc,Nat.pow_succ]
   omega
theorem dec_ne (n:Nat):Lib.decDigits n≠[]:=fun e=>by
 have l1:=Lib.decDigits_length n
 have l2:=Lib.nDigits_pos n
 rw [e] at l1;simp at l1;omega
theorem dec_len19 {n:Nat} (h:n<9223372036854775808):(Lib.decDigits n).length≤19:=by
 rw [Lib.decDigits_length]
 exact nDig_le 18 n (by omega)
theorem pm_dv2 {M:Nat} (hM:M=18446744073709551615):∀ (l:Str) (acc:Nat),digs l→(l.foldl (fun a b=>10*a+(b.toNat - 48)) acc)≤M→Lib.parseUintM M acc l=.ok (l.foldl (fun a b=>10*a+(b.toNat - 48)) acc)
 | [],acc,_,_=>rfl
 | b :: r,acc,hd,hle=>by
  have hb:=hd b (by simp)
  have mono:∀ (q:Str) (a:Nat),a≤q.foldl (fun a b=>10*a+(b.toNat - 48)) a:=fun q=>by
   induction q with
   | nil=>intro a;exact Nat.le_refl _
   | cons y q ih=>intro a;exact Nat.le_trans (by omega) (ih (10*a+(y.toNat - 48)))
  have hm:=mono r (10*acc+(b.toNat - 48))
  simp only [List.foldl_cons] at hle ⊢
  unfold Lib.parseUintM
  rw [if_pos hb,if_neg (by omega),if_neg (by omega),show acc*10+(b.toNat - 48)=10*acc+(b.toNat - 48) by omega]
  exact pm_dv2 hM r _ (fun x hx=>hd x (by simp [hx])) hle
theorem dec_ub {n:Nat} (h:n<18446744073709551616):Lib.parseUintB 64 (Lib.decDigits n)=.ok n:=by
 obtain ⟨h1,h2⟩:=dec_dv n
 unfold Lib.parseUintB
 rw [if_neg (dec_ne n)]
 have:=pm_dv2 (M:=2 ^ 64 - 1) (by decide) (Lib.decDigits n) 0 h2 (by
  show dv _≤_
  rw [h1];omega)
 rw [this]
 show Lib.NumEnd.ok (dv _)=_
 rw [h1]
theorem parse_itoa {v:Int} (h1 : -9223372036854775808≤v) (h2:v≤9223372036854775807):Lib.parseIntB 64 (Lib.itoa v)=.ok v:=by
 rcases Int.lt_or_le v 0 with h | h
 ·obtain ⟨u,rfl⟩:∃ u:Nat,v = -(u:Int):=⟨v.natAbs,by omega⟩
  rw [Lib.itoa_neg u (by omega),Lib.parseIntB_minus,dec_ub (by omega)]
  show (if 2 ^ (64 - 1)<u then _ else _)=_
  rw [if_neg (by omega)]
 ·obtain ⟨u,rfl⟩:∃ u:Nat,v=u:=⟨v.toNat,by omega⟩
  rw [Lib.itoa_nonneg]
  have hu:=dec_ub (n:=u) (by omega)
  have hd:=(dec_dv u).2
  cases hl:Lib.decDigits u with
  | nil=>exact absurd hl (dec_ne u)
  | cons c r =>
   have hc:=hd c (by rw [hl];simp)
   rw [hl] at hu
   rw [Lib.parseIntB_plain 64 c r (by omega) (by omega),hu]
   show (if 2 ^ (64 - 1)≤u then _ else _)=_
   rw [if_neg (by omega)]
theorem sp_first (s:Str):∃ w r,sp [32] s=w :: r:=by
 cases h:sp [32] s with
 | nil=>exact absurd h (sp_ne _ _)
 | cons w r=>exact ⟨w,r,rfl⟩
theorem sp_length (sep s:Str) (hs:sep≠[]):(sp sep s).length≤s.length+1:=by
 rw [sp_len sep s hs]
 have h1:1≤(bs sep).size:=by rw [bs_size];exact List.length_pos_iff.2 hs
 have:=Lib.countB_le (bs sep) h1 _ (bs s) (Nat.le_refl _)
 rw [bs_size] at this
 omega
theorem sp_word (sep:Str) (hs:sep≠[]):∀ (n:Nat) (s:Str),s.length≤n→∀ w ∈ sp sep s,w.length≤s.length:=by
 intro n
 induction n with
 | zero =>
  intro s hn w hw
  obtain rfl:s=[]:=List.length_eq_zero_iff.1 (by omega)
  rw [sp_miss (Lib.index_long (Nat.zero_le _) hs)] at hw
  rw [List.mem_singleton.1 hw]
  exact Nat.le_refl _
 | succ n ih =>
  intro s hn w hw
  by_cases hm:Lib.index s sep = -1
  ·rw [sp_miss hm] at hw
   rw [List.mem_singleton.1 hw]
   exact Nat.le_refl _
  ·have hg:=Lib.index_ge s sep
   have hl:=List.length_pos_iff.2 hs
   obtain ⟨i,hi⟩:∃ i:Nat,Lib.index s sep=i:=⟨(Lib.index s sep).toNat,by omega⟩
   rw [sp_hit hs hi] at hw
   rcases List.mem_cons.1 hw with rfl | hw
   ·rw [List.length_take];omega
   ·have h1:(s.drop (i+sep.length)).length=s.length - (i+sep.length):=List.length_drop
    have:=ih (s.drop (i+sep.length)) (by omega) w hw
    omega
end Go.Proofs.YtdhkjcdneidgaaaGreatDoor
namespace Go.Proofs.YtdhkjcdneidgaaaGreatDoor
open Go Go.Mid Go.RowKit
attribute [local irreducible] mid
section
variable {h:Hp} {K:Value→Hp→Prop} {E:List PanicEntry→Hp→Prop}
theorem dl_ret {a b:Nat} {args:Array Value} {KK:FrameMode→Hp→Prop} (ea:args=#[.pointer (some ⟨a,0,none⟩),.pointer (some ⟨b,0,none⟩)]) (hk:KK .returning h) :
  callable Tryz.prog 143=true∧XD Tryz.prog 143 args .returning h fun u' h'=>settle u'≠.run∧KK (settle u') h' :=
 ⟨by kernel_rfl,XD.arg ea (parse1_ret ⟨settle_ret,hk⟩)⟩
theorem dl_pan {a b:Nat} {args:Array Value} {xl:List Value} {ev:Value} {n:Int} {KK:FrameMode→Hp→Prop} (ea:args=#[.pointer (some ⟨a,0,none⟩),.pointer (some ⟨b,0,none⟩)]) (hab:a≠b) (hx:h a=some (oIn xl)) (he:h b=some (rowO 28 [ev])) (hxs:xl.length=8)
  (hk:∀ h',h' a=some (oIn insn0)→h' b=some (oEr n)→(∀ c,c≠a→c≠b→h' c=h c)→KK .returning h') :
  callable Tryz.prog 143=true∧XD Tryz.prog 143 args (.panicking [{ v:=stopV n,recovered:=false }]) h fun u' h'=>settle u'≠.run∧KK (settle u') h' :=
 ⟨by kernel_rfl,XD.arg ea (parse1_pan (r:=[]) hab hx he hxs fun h' a1 b1 o1=>by
  rw [settle_rec (v:=stopV n) (r:=[]) rfl]
  exact ⟨by simp,hk h' a1 b1 o1⟩)⟩
abbrev zv (n:Int):Value:=.int .i64 n
end
end Go.Proofs.YtdhkjcdneidgaaaGreatDoor
namespace Go.Proofs.YtdhkjcdneidgaaaGreatDoor
open Go Go.Mid Go.RowKit
attribute [local irreducible] mid
def fmtS:List Str:=[[],[82],[73],[83],[66],[85],[74],[83,104,105,102,116],[83,104,105,102,116,87],[67,115,114],[67,115,114,73],[65],[76,114],[66,97,114,101],[83,102,101,110,99,101]]
section
variable {h:Hp} {K:Value→Hp→Prop}
theorem rorder0_x (hk:K (.string (bs (orderS 0))) h):X Tryz.prog 118 #[.string (bs [])] h K:=by
 refine fnv (args:=_) mixed [] [] [] Tryz.func118 rfl (by kernel_rfl) (cw_ ?_)
 iterate 13 (refine seq_false (by decide) ?_;conv=>whnf)
 exact hk
theorem rorder1_x (hk:K (.string (bs (orderS 1))) h):X Tryz.prog 118 #[.string (bs [82])] h K:=by
 refine fnv (args:=_) mixed [] [] [] Tryz.func118 rfl (by kernel_rfl) (cw_ ?_)
 refine seq_true (rfl) (cw_ ?_)
 exact hk
theorem rorder2_x (hk:K (.string (bs (orderS 2))) h):X Tryz.prog 118 #[.string (bs [73])] h K:=by
 refine fnv (args:=_) mixed [] [] [] Tryz.func118 rfl (by kernel_rfl) (cw_ ?_)
 refine seq_false ((by decide)) (cw_ ?_)
 refine seq_true (rfl) (cw_ ?_)
 exact hk
theorem rorder3_x (hk:K (.string (bs (orderS 3))) h):X Tryz.prog 118 #[.string (bs [83])] h K:=by
 refine fnv (args:=_) mixed [] [] [] Tryz.func118 rfl (by kernel_rfl) (cw_ ?_)
 iterate 4 (refine seq_false (by decide) ?_;conv=>whnf)
 refine seq_true (rfl) (cw_ ?_)
 exact hk
theorem rorder4_x (hk:K (.string (bs (orderS 4))) h):X Tryz.prog 118 #[.string (bs [66])] h K:=by
 refine fnv (args:=_) mixed [] [] [] Tryz.func118 rfl (by kernel_rfl) (cw_ ?_)
 iterate 5 (refine seq_false (by decide) ?_;conv=>whnf)
 refine seq_true (rfl) (cw_ ?_)
 exact hk
theorem rorder5_x (hk:K (.string (bs (orderS 5))) h):X Tryz.prog 118 #[.string (bs [85])] h K:=by
 refine fnv (args:=_) mixed [] [] [] Tryz.func118 rfl (by kernel_rfl) (cw_ ?_)
 iterate 6 (refine seq_false (by decide) ?_;conv=>whnf)
 refine seq_true (rfl) (cw_ ?_)
 exact hk
theorem rorder6_x (hk:K (.string (bs (orderS 6))) h):X Tryz.prog 118 #[.string (bs [74])] h K:=by
 refine fnv (args:=_) mixed [] [] [] Tryz.func118 rfl (by kernel_rfl) (cw_ ?_)
 iterate 7 (refine seq_false (by decide) ?_;conv=>whnf)
 refine seq_true (rfl) (cw_ ?_)
 exact hk
theorem rorder7_x (hk:K (.string (bs (orderS 7))) h):X Tryz.prog 118 #[.string (bs [83,104,105,102,116])] h K:=by
 refine fnv (args:=_) mixed [] [] [] Tryz.func118 rfl (by kernel_rfl) (cw_ ?_)
 iterate 2 (refine seq_false (by decide) ?_;conv=>whnf)
 refine seq_true (rfl) (cw_ ?_)
 exact hk
theorem rorder8_x (hk:K (.string (bs (orderS 8))) h):X Tryz.prog 118 #[.string (bs [83,104,105,102,116,87])] h K:=by
 refine fnv (args:=_) mixed [] [] [] Tryz.func118 rfl (by kernel_rfl) (cw_ ?_)
 iterate 3 (refine seq_false (by decide) ?_;conv=>whnf)
 refine seq_true (rfl) (cw_ ?_)
 exact hk
theorem rorder9_x (hk:K (.string (bs (orderS 9))) h):X Tryz.prog 118 #[.string (bs [67,115,114])] h K:=by
 refine fnv (args:=_) mixed [] [] [] Tryz.func118 rfl (by kernel_rfl) (cw_ ?_)
 iterate 8 (refine seq_false (by decide) ?_;conv=>whnf)
 refine seq_true (rfl) (cw_ ?_)
 exact hk
theorem rorder10_x (hk:K (.string (bs (orderS 10))) h):X Tryz.prog 118 #[.string (bs [67,115,114,73])] h K:=by
 refine fnv (args:=_) mixed [] [] [] Tryz.func118 rfl (by kernel_rfl) (cw_ ?_)
 iterate 9 (refine seq_false (by decide) ?_;conv=>whnf)
 refine seq_true (rfl) (cw_ ?_)
 exact hk
theorem rorder11_x (hk:K (.string (bs (orderS 11))) h):X Tryz.prog 118 #[.string (bs [65])] h K:=by
 refine fnv (args:=_) mixed [] [] [] Tryz.func118 rfl (by kernel_rfl) (cw_ ?_)
 iterate 10 (refine seq_false (by decide) ?_;conv=>whnf)
 refine seq_true (rfl) (cw_ ?_)
 exact hk
theorem rorder12_x (hk:K (.string (bs (orderS 12))) h):X Tryz.prog 118 #[.string (bs [76,114])] h K:=by
 refine fnv (args:=_) mixed [] [] [] Tryz.func118 rfl (by kernel_rfl) (cw_ ?_)
 iterate 11 (refine seq_false (by decide) ?_;conv=>whnf)
 refine seq_true (rfl) (cw_ ?_)
 exact hk
theorem rorder13_x (hk:K (.string (bs (orderS 13))) h):X Tryz.prog 118 #[.string (bs [66,97,114,101])] h K:=by
 refine fnv (args:=_) mixed [] [] [] Tryz.func118 rfl (by kernel_rfl) (cw_ ?_)
 iterate 13 (refine seq_false (by decide) ?_;conv=>whnf)
 exact hk
theorem rorder14_x (hk:K (.string (bs (orderS 14))) h):X Tryz.prog 118 #[.string (bs [83,102,101,110,99,101])] h K:=by
 refine fnv (args:=_) mixed [] [] [] Tryz.func118 rfl (by kernel_rfl) (cw_ ?_)
 iterate 12 (refine seq_false (by decide) ?_;conv=>whnf)
 refine seq_true (rfl) (cw_ ?_)
 exact hk
theorem rorder_x (f:Nat) (hf:f<15) (hk:K (.string (bs (orderS f))) h):X Tryz.prog 118 #[.string (bs (fmtS.getD f []))] h K:=by
 match f,hf,hk with
 | 0,_,hk=>exact rorder0_x hk
 | 1,_,hk=>exact rorder1_x hk
 | 2,_,hk=>exact rorder2_x hk
 | 3,_,hk=>exact rorder3_x hk
 | 4,_,hk=>exact rorder4_x hk
 | 5,_,hk=>exact rorder5_x hk
 | 6,_,hk=>exact rorder6_x hk
 | 7,_,hk=>exact rorder7_x hk
 | 8,_,hk=>exact rorder8_x hk
 | 9,_,hk=>exact rorder9_x hk
 | 10,_,hk=>exact rorder10_x hk
 | 11,_,hk=>exact rorder11_x hk
 | 12,_,hk=>exact rorder12_x hk
 | 13,_,hk=>exact rorder13_x hk
 | 14,_,hk=>exact rorder14_x hk
 | f+15,hf,_=>exact absurd hf (by omega)
def opNames0:List Str:=[] :: opNames
attribute [local semireducible] opNames in
theorem rnames_x (hk:∀ b H,h.le H→H b=some (rowO 9 (opNames0.map sv))→K (.slice (some ⟨b,0,none⟩) 99 99) H):X Tryz.prog 157 #[] h K:=by
 refine fnv (args:=_) mixed [] [] [] Tryz.func157 rfl (by kernel_rfl) (cw_ ?_)
 refine new_intro (o:=rowO 9 (opNames0.map sv)) (fun b H n_b le_b at_b ot_b=>cw_ ?_)
 exact hk b H le_b at_b
end
end Go.Proofs.YtdhkjcdneidgaaaGreatDoor
namespace Go.Proofs.YtdhkjcdneidgaaaGreatDoor
open Go Go.Mid Go.RowKit
attribute [local irreducible] mid
structure Rw where
 op:Nat
 fmt:Str
 mask:Nat
 is:Nat
def Rw.cs (r:Rw):List Value:=[.int .i64 r.op,.string (bs r.fmt),.int .u64 r.mask,.int .u64 r.is]
def rowsL:List Rw:=[⟨1,[85],127,55⟩,⟨2,[85],127,23⟩,⟨3,[74],127,111⟩,⟨4,[73],28799,103⟩,⟨5,[66],28799,99⟩,⟨6,[66],28799,4195⟩,⟨7,[66],28799,16483⟩,⟨8,[66],28799,20579⟩,⟨9,[66],28799,24675⟩,⟨10,[66],28799,28771⟩,⟨11,[73],28799,3⟩,⟨12,[73],28799,4099⟩,⟨13,[73],28799,8195⟩,⟨14,[73],28799,12291⟩,⟨15,[73],28799,16387⟩,⟨16,[73],28799,20483⟩,⟨17,[73],28799,24579⟩,⟨18,[83],28799,35⟩,⟨19,[83],28799,4131⟩,⟨20,[83],28799,8227⟩,⟨21,[83],28799,12323⟩,⟨22,[73],28799,19⟩,⟨23,[73],28799,8211⟩,⟨24,[73],28799,12307⟩,⟨25,[73],28799,16403⟩,⟨26,[73],28799,24595⟩,⟨27,[73],28799,28691⟩,⟨28,[83,104,105,102,116],4227887231,4115⟩,⟨29,[83,104,105,102,116],4227887231,20499⟩,⟨30,[83,104,105,102,116],4227887231,1073762323⟩,⟨31,[82],4261441663,51⟩,⟨32,[82],4261441663,1073741875⟩,⟨33,[82],4261441663,4147⟩,⟨34,[82],4261441663,8243⟩,⟨35,[82],4261441663,12339⟩,⟨36,[82],4261441663,16435⟩,⟨37,[82],4261441663,20531⟩,⟨38,[82],4261441663,1073762355⟩,⟨39,[82],4261441663,24627⟩,⟨40,[82],4261441663,28723⟩,⟨41,[73],28799,27⟩,⟨42,[83,104,105,102,116,87],4261441663,4123⟩,⟨43,[83,104,105,102,116,87],4261441663,20507⟩,⟨44,[83,104,105,102,116,87],4261441663,1073762331⟩,⟨45,[82],4261441663,59⟩,⟨46,[82],4261441663,1073741883⟩,⟨47,[82],4261441663,4155⟩,⟨48,[82],4261441663,20539⟩,⟨49,[82],4261441663,1073762363⟩,⟨50,[73],28799,15⟩,⟨51,[73],28799,4111⟩,⟨52,[66,97,114,101],4294967295,115⟩,⟨53,[66,97,114,101],4294967295,1048691⟩,⟨54,[82],4261441663,33554483⟩,⟨55,[82],4261441663,33558579⟩,⟨56,[82],4261441663,33562675⟩,⟨57,[82],4261441663,33566771⟩,⟨58,[82],4261441663,33570867⟩,⟨59,[82],4261441663,33574963⟩,⟨60,[82],4261441663,33579059⟩,⟨61,[82],4261441663,33583155⟩,⟨62,[82],4261441663,33554491⟩,⟨63,[82],4261441663,33570875⟩,⟨64,[82],4261441663,33574971⟩,⟨65,[82],4261441663,33579067⟩,⟨66,[82],4261441663,33583163⟩,⟨67,[76,114],4193284223,268443695⟩,⟨68,[65],4160778367,402661423⟩,⟨69,[65],4160778367,134225967⟩,⟨70,[65],4160778367,8239⟩,⟨71,[65],4160778367,536879151⟩,⟨72,[65],4160778367,1610620975⟩,⟨73,[65],4160778367,1073750063⟩,⟨74,[65],4160778367,2147491887⟩,⟨75,[65],4160778367,2684362799⟩,⟨76,[65],4160778367,3221233711⟩,⟨77,[65],4160778367,3758104623⟩,⟨78,[76,114],4193284223,268447791⟩,⟨79,[65],4160778367,402665519⟩,⟨80,[65],4160778367,134230063⟩,⟨81,[65],4160778367,12335⟩,⟨82,[65],4160778367,536883247⟩,⟨83,[65],4160778367,1610625071⟩,⟨84,[65],4160778367,1073754159⟩,⟨85,[65],4160778367,2147495983⟩,⟨86,[65],4160778367,2684366895⟩,⟨87,[65],4160778367,3221237807⟩,⟨88,[65],4160778367,3758108719⟩,⟨89,[67,115,114],28799,4211⟩,⟨90,[67,115,114],28799,8307⟩,⟨91,[67,115,114],28799,12403⟩,⟨92,[67,115,114,73],28799,20595⟩,⟨93,[67,115,114,73],28799,24691⟩,⟨94,[67,115,114,73],28799,28787⟩,⟨95,[66,97,114,101],4294967295,807403635⟩,⟨96,[66,97,114,101],4294967295,270532723⟩,⟨97,[66,97,114,101],4294967295,273678451⟩,⟨98,[83,102,101,110,99,101],4261445631,301990003⟩]
theorem rowsL_len:rowsL.length=98:=by decide
theorem rowsL_op:∀ i:Nat,i<98→(rowsL.getD i ⟨0,[],0,0⟩).op=i+1:=by decide
section
variable {h:Hp} {K:Value→Hp→Prop}
theorem rrows_x (hk:∀ b H,h.le H→H b=some (rowO 151 (rowsL.flatMap Rw.cs))→K (.slice (some ⟨b,0,none⟩) 98 98) H):X Tryz.prog 120 #[] h K:=by
 refine fnv (args:=_) mixed [] [] [] Tryz.func120 rfl (by kernel_rfl) (cw_ ?_)
 refine new_intro (o:=rowO 151 (rowsL.flatMap Rw.cs)) (fun b H n_b le_b at_b ot_b=>cw_ ?_)
 exact hk b H le_b at_b
end
end Go.Proofs.YtdhkjcdneidgaaaGreatDoor
namespace Go.Bits
open Go Go.Mid
theorem bv64 {a:Nat} (h:a<2 ^ 64):(BitVec.ofInt IntKind.u64.bits (a:Int)).toNat=a:=by
 show (BitVec.ofInt 64 (a:Int)).toNat=a
 rw [BitVec.toNat_ofInt];omega
theorem bv32 {a:Nat} (h:a<2 ^ 32):(BitVec.ofInt IntKind.u32.bits (a:Int)).toNat=a:=by
 show (BitVec.ofInt 32 (a:Int)).toNat=a
 rw [BitVec.toNat_ofInt];omega
theorem w64 {a:Nat} (h:a<2 ^ 64):IntKind.u64.wrap (a:Int)=a:=IntWalk.u64_in _ (by omega)
theorem w32 {a:Nat} (h:a<2 ^ 32):IntKind.u32.wrap (a:Int)=a:=IntWalk.u32_in _ (by omega)
theorem w8 {a:Nat} (h:a<2 ^ 8):IntKind.u8.wrap (a:Int)=a:=IntWalk.u8_in _ (by omega)
theorem and64 {a b:Nat} (ha:a<2 ^ 64) (hb:b<2 ^ 64):IntKind.u64.wrap ((BitVec.ofInt IntKind.u64.bits (a:Int) &&& BitVec.ofInt IntKind.u64.bits (b:Int)).toNat:Int)=((a &&& b:Nat):Int):=by
 rw [BitVec.toNat_and,bv64 ha,bv64 hb];exact w64 (Nat.and_lt_two_pow _ hb)
theorem or64 {a b:Nat} (ha:a<2 ^ 64) (hb:b<2 ^ 64):IntKind.u64.wrap ((BitVec.ofInt IntKind.u64.bits (a:Int) ||| BitVec.ofInt IntKind.u64.bits (b:Int)).toNat:Int)=((a ||| b:Nat):Int):=by
 rw [BitVec.toNat_or,bv64 ha,bv64 hb];exact w64 (Nat.or_lt_two_pow ha hb)
theorem or32 {a b:Nat} (ha:a<2 ^ 32) (hb:b<2 ^ 32):IntKind.u32.wrap ((BitVec.ofInt IntKind.u32.bits (a:Int) ||| BitVec.ofInt IntKind.u32.bits (b:Int)).toNat:Int)=((a ||| b:Nat):Int):=by
 rw [BitVec.toNat_or,bv32 ha,bv32 hb];exact w32 (Nat.or_lt_two_pow ha hb)
theorem shr64 (a k:Nat) (hk:k≤64):(a:Int).fdiv (2 ^ (min ((k:Int)).toNat IntKind.u64.bits))=((a / 2 ^ k:Nat):Int):=by
 rw [Int.toNat_natCast,show min k IntKind.u64.bits=k from Nat.min_eq_left hk,Int.fdiv_eq_ediv_of_nonneg _ (Int.le_of_lt (Int.pow_pos (by decide)))]
 norm_cast
theorem shl64 (a k:Nat) (hk:k≤64):IntKind.u64.wrap ((a:Int)*2 ^ (min ((k:Int)).toNat IntKind.u64.bits))=((a*2 ^ k % 18446744073709551616:Nat):Int):=by
 rw [Int.toNat_natCast,show min k IntKind.u64.bits=k from Nat.min_eq_left hk,show IntKind.u64.wrap ((a:Int)*2 ^ k)=((a:Int)*2 ^ k) % 18446744073709551616 by unfold IntKind.wrap;simp [IntKind.signed,IntKind.bits]]
 rw [show (a:Int)*2 ^ k=((a*2 ^ k:Nat):Int) by push_cast;rfl]
 omega
theorem shl32 (a k:Nat) (hk:k≤32):IntKind.u32.wrap ((a:Int)*2 ^ (min ((k:Int)).toNat IntKind.u32.bits))=((a*2 ^ k % 4294967296:Nat):Int):=by
 rw [Int.toNat_natCast,show min k IntKind.u32.bits=k from Nat.min_eq_left hk,show IntKind.u32.wrap ((a:Int)*2 ^ k)=((a:Int)*2 ^ k) % 4294967296 by unfold IntKind.wrap;simp [IntKind.signed,IntKind.bits]]
 rw [show (a:Int)*2 ^ k=((a*2 ^ k:Nat):Int) by push_cast;rfl]
 omega
theorem toU32 (a:Nat):IntKind.u32.wrap (a:Int)=((a % 4294967296:Nat):Int):=by
 rw [show IntKind.u32.wrap (a:Int)=(a:Int) % 4294967296 by unfold IntKind.wrap;simp [IntKind.signed,IntKind.bits]]
 omega
theorem toU64 (n:Int):IntKind.u64.wrap n=((n % 18446744073709551616).toNat:Int):=by
 rw [show IntKind.u64.wrap n=n % 18446744073709551616 by unfold IntKind.wrap;simp [IntKind.signed,IntKind.bits]]
 omega
end Go.Bits
namespace Go.Bits
def placesL:Nat→List Int
 | 2=>[20,21,22,23,24,25,26,27,28,29,30,31]
 | 3=>[7,8,9,10,11,25,26,27,28,29,30,31]
 | 4=>[-1,8,9,10,11,25,26,27,28,29,30,7,31]
 | 5=>[-1,-1,-1,-1,-1,-1,-1,-1,-1,-1,-1,-1,12,13,14,15,16,17,18,19,20,21,22,23,24,25,26,27,28,29,30,31]
 | 6=>[-1,21,22,23,24,25,26,27,28,29,30,20,12,13,14,15,16,17,18,19,31]
 | 7=>[20,21,22,23,24,25]
 | 8=>[20,21,22,23,24]
 | _=>[]
def signedB:Nat→Bool
 | 2 | 3 | 4 | 5 | 6=>true
 | _=>false
def layFrom (u:Nat):List Int→Nat→Nat→Nat
 | [],_,w=>w
 | p :: ps,i,w=>layFrom u ps (i+1) (if 0≤p then putN w p.toNat 1 (bitN u i) else w)
def layN (f u:Nat):Nat:=layFrom u (placesL f) 0 0
def immBits (ps:List Int) (w:Nat):List Nat:=ps.map fun p=>if 0≤p then bitN w p.toNat else 0
def immN (f w:Nat):Nat:=if signedB f then signN (ofL (immBits (placesL f) w)) (placesL f).length else ofL (immBits (placesL f) w)
def once:List Int→Bool
 | []=>true
 | p :: ps=>(decide (p<0) || !(ps.contains p)) && decide (p<64) && once ps
theorem lay_other {u:Nat}:∀ (ps:List Int) (i w q:Nat),q<64→(q:Int) ∉ ps→bitN (layFrom u ps i w) q=bitN w q
 | [],_,_,_,_,_=>rfl
 | p :: ps,i,w,q,hq,hn=>by
  have h1:(q:Int)≠p:=fun e=>hn (by simp [e])
  have h2:(q:Int) ∉ ps:=fun e=>hn (by simp [e])
  show bitN (layFrom u ps (i+1) _) q=_
  rw [lay_other ps (i+1) _ q hq h2]
  split
  ·rw [put_bit,if_pos hq,if_neg (by omega)]
  ·rfl
theorem lay_at {u:Nat}:∀ (ps:List Int) (i w j q:Nat),q<64→once ps=true→ps[j]? = some (q:Int)→bitN (layFrom u ps i w) q=bitN u (i+j)
 | [],_,_,j,_,_,_,h=>by simp at h
 | p :: ps,i,w,0,q,hq,ho,h=>by
  simp only [List.getElem?_cons_zero,Option.some.injEq] at h
  subst h
  simp only [once,Bool.and_eq_true,Bool.or_eq_true,decide_eq_true_eq,Bool.not_eq_true'] at ho
  have hn:(q:Int) ∉ ps:=by
   have:=ho.1.1.resolve_left (by omega)
   intro hm
   rw [List.contains_iff_mem.2 hm] at this;cases this
  show bitN (layFrom u ps (i+1) _) q=_
  rw [lay_other ps (i+1) _ q hq hn,if_pos (by omega),put_bit,if_pos hq,if_pos (by omega)]
  have:q - (q:Int).toNat=0:=by omega
  rw [this,Nat.add_zero]
  unfold bitN;simp
 | p :: ps,i,w,j+1,q,hq,ho,h=>by
  rw [List.getElem?_cons_succ] at h
  simp only [once,Bool.and_eq_true] at ho
  show bitN (layFrom u ps (i+1) _) q=_
  rw [lay_at ps (i+1) _ j q hq ho.2 h]
  congr 1;omega
theorem once_lt:∀ (ps:List Int),once ps=true→∀ p ∈ ps,p<64
 | [],_,p,h=>by simp at h
 | q :: ps,ho,p,h=>by
  simp only [once,Bool.and_eq_true,decide_eq_true_eq] at ho
  rcases List.mem_cons.1 h with rfl | h
  ·exact ho.1.2
  ·exact once_lt ps ho.2 p h
theorem immBits_lay {u:Nat} (ps:List Int) (ho:once ps=true) (k:Nat):bitN (ofL (immBits ps (layFrom u ps 0 0))) k=if 0≤ps.getD k (-1) then bitN u k else 0:=by
 rw [bit_ofL _ (fun b hb=>by obtain ⟨p,_,rfl⟩:=List.mem_map.1 hb;split <;> first | exact bitN_lt _ _ | decide)]
 unfold immBits
 rw [List.getD_eq_getElem?_getD,List.getElem?_map,List.getD_eq_getElem?_getD]
 cases hk:ps[k]? with
 | none=>simp
 | some p =>
  simp only [Option.map_some,Option.getD_some]
  split
  ·rename_i hp
   have hlt:=once_lt ps ho p (List.mem_of_getElem? hk)
   have:=lay_at (u:=u) ps 0 0 k p.toNat (by omega) ho (by rw [hk];congr 1;omega)
   rw [this,Nat.zero_add]
  ·rfl
theorem immBits_lt (ps:List Int) (w:Nat):ofL (immBits ps w)<2 ^ ps.length:=by
 have:=ofL_lt (immBits ps w) (fun b hb=>by obtain ⟨p,_,rfl⟩:=List.mem_map.1 hb;split <;> first | exact bitN_lt _ _ | decide)
 unfold immBits at this ⊢
 rwa [List.length_map] at this
theorem immBits_eq {u z:Nat} (ps:List Int) (ho:once ps=true) (hz:z≤ps.length) (h1:∀ k,k<ps.length→(0≤ps.getD k (-1)↔z≤k)):ofL (immBits ps (layFrom u ps 0 0))=u / 2 ^ z % 2 ^ (ps.length - z)*2 ^ z:=by
 refine eq_bits (n:=ps.length) (immBits_lt _ _) ?_ fun k hk=>?_
 ·have:u / 2 ^ z % 2 ^ (ps.length - z)<2 ^ (ps.length - z):=Nat.mod_lt _ (Nat.pow_pos (by decide))
  have h2:=Nat.mul_lt_mul_of_pos_right this (show 0<2 ^ z from Nat.pow_pos (by decide))
  rw [← Nat.pow_add,show ps.length - z+z=ps.length by omega] at h2
  exact h2
 ·rw [immBits_lay ps ho,bit_mul,bit_mod,bit_div]
  by_cases hzk:z≤k
  ·rw [if_pos ((h1 k hk).2 hzk),if_pos hzk,if_pos (by omega)]
   congr 1;omega
  ·rw [if_neg (fun h=>hzk ((h1 k hk).1 h)),if_neg hzk]
def u64N (n:Int):Nat:=(n % 18446744073709551616).toNat
def i64N (w:Nat):Int:=if w<9223372036854775808 then w else (w:Int) - 18446744073709551616
def fits (f:Nat) (n:Int):Bool:=match f with
 | 2 | 3=>decide (-2048≤n∧n≤2047)
 | 4=>decide (-4096≤n∧n≤4095∧n % 2=0)
 | 5=>decide (-2147483648≤n∧n≤2147483647∧n % 4096=0)
 | 6=>decide (-1048576≤n∧n<1048576∧n % 2=0)
 | 7=>decide (0≤n∧n≤63)
 | 8=>decide (0≤n∧n≤31)
 | _=>true
theorem imm_lay2 (n:Int) (h1 : -9223372036854775808≤n) (h2:n≤9223372036854775807):i64N (immN 2 (layN 2 (u64N n)))=n↔fits 2 n=true:=by
 have e:=immBits_eq (u:=u64N n) (z:=0) (placesL 2) (by decide) (by decide) (by decide)
 have hl:=immBits_lt (placesL 2) (layN 2 (u64N n))
 rw [show immN 2 (layN 2 (u64N n))=signN (ofL (immBits (placesL 2) (layN 2 (u64N n)))) (placesL 2).length from rfl,sign_eq hl (by decide) (by decide)]
 unfold layN at hl ⊢
 rw [e] at hl ⊢
 simp only [fits,placesL,List.length,decide_eq_true_eq,i64N,u64N] at hl ⊢
 split <;> split <;> omega
theorem imm_lay3 (n:Int) (h1 : -9223372036854775808≤n) (h2:n≤9223372036854775807):i64N (immN 3 (layN 3 (u64N n)))=n↔fits 3 n=true:=by
 have e:=immBits_eq (u:=u64N n) (z:=0) (placesL 3) (by decide) (by decide) (by decide)
 have hl:=immBits_lt (placesL 3) (layN 3 (u64N n))
 rw [show immN 3 (layN 3 (u64N n))=signN (ofL (immBits (placesL 3) (layN 3 (u64N n)))) (placesL 3).length from rfl,sign_eq hl (by decide) (by decide)]
 unfold layN at hl ⊢
 rw [e] at hl ⊢
 simp only [fits,placesL,List.length,decide_eq_true_eq,i64N,u64N] at hl ⊢
 split <;> split <;> omega
theorem imm_lay4 (n:Int) (h1 : -9223372036854775808≤n) (h2:n≤9223372036854775807):i64N (immN 4 (layN 4 (u64N n)))=n↔fits 4 n=true:=by
 have e:=immBits_eq (u:=u64N n) (z:=1) (placesL 4) (by decide) (by decide) (by decide)
 have hl:=immBits_lt (placesL 4) (layN 4 (u64N n))
 rw [show immN 4 (layN 4 (u64N n))=signN (ofL (immBits (placesL 4) (layN 4 (u64N n)))) (placesL 4).length from rfl,sign_eq hl (by decide) (by decide)]
 unfold layN at hl ⊢
 rw [e] at hl ⊢
 simp only [fits,placesL,List.length,decide_eq_true_eq,i64N,u64N] at hl ⊢
 split <;> split <;> omega
theorem imm_lay5 (n:Int) (h1 : -9223372036854775808≤n) (h2:n≤9223372036854775807):i64N (immN 5 (layN 5 (u64N n)))=n↔fits 5 n=true:=by
 have e:=immBits_eq (u:=u64N n) (z:=12) (placesL 5) (by decide) (by decide) (by decide)
 have hl:=immBits_lt (placesL 5) (layN 5 (u64N n))
 rw [show immN 5 (layN 5 (u64N n))=signN (ofL (immBits (placesL 5) (layN 5 (u64N n)))) (placesL 5).length from rfl,sign_eq hl (by decide) (by decide)]
 unfold layN at hl ⊢
 rw [e] at hl ⊢
 simp only [fits,placesL,List.length,decide_eq_true_eq,i64N,u64N] at hl ⊢
 split <;> split <;> omega
theorem imm_lay6 (n:Int) (h1 : -9223372036854775808≤n) (h2:n≤9223372036854775807):i64N (immN 6 (layN 6 (u64N n)))=n↔fits 6 n=true:=by
 have e:=immBits_eq (u:=u64N n) (z:=1) (placesL 6) (by decide) (by decide) (by decide)
 have hl:=immBits_lt (placesL 6) (layN 6 (u64N n))
 rw [show immN 6 (layN 6 (u64N n))=signN (ofL (immBits (placesL 6) (layN 6 (u64N n)))) (placesL 6).length from rfl,sign_eq hl (by decide) (by decide)]
 unfold layN at hl ⊢
 rw [e] at hl ⊢
 simp only [fits,placesL,List.length,decide_eq_true_eq,i64N,u64N] at hl ⊢
 split <;> split <;> omega
theorem imm_lay7 (n:Int) (h1 : -9223372036854775808≤n) (h2:n≤9223372036854775807):i64N (immN 7 (layN 7 (u64N n)))=n↔fits 7 n=true:=by
 have e:=immBits_eq (u:=u64N n) (z:=0) (placesL 7) (by decide) (by decide) (by decide)
 have hl:=immBits_lt (placesL 7) (layN 7 (u64N n))
 rw [show immN 7 (layN 7 (u64N n))=ofL (immBits (placesL 7) (layN 7 (u64N n))) from rfl]
 unfold layN at hl ⊢
 rw [e] at hl ⊢
 simp only [fits,placesL,List.length,decide_eq_true_eq,i64N,u64N] at hl ⊢
 split <;> omega
theorem imm_lay8 (n:Int) (h1 : -9223372036854775808≤n) (h2:n≤9223372036854775807):i64N (immN 8 (layN 8 (u64N n)))=n↔fits 8 n=true:=by
 have e:=immBits_eq (u:=u64N n) (z:=0) (placesL 8) (by decide) (by decide) (by decide)
 have hl:=immBits_lt (placesL 8) (layN 8 (u64N n))
 rw [show immN 8 (layN 8 (u64N n))=ofL (immBits (placesL 8) (layN 8 (u64N n))) from rfl]
 unfold layN at hl ⊢
 rw [e] at hl ⊢
 simp only [fits,placesL,List.length,decide_eq_true_eq,i64N,u64N] at hl ⊢
 split <;> omega
end Go.Bits
