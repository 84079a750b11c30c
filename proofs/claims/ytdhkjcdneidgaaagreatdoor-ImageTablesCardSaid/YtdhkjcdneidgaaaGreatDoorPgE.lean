/-
  Pages: tables, the program's: what is mapped, what is found.
-/
import Derived.Test.YtdhkjcdneidgaaaGreatDoorPgC
import Derived.Test.YtdhkjcdneidgaaaGreatDoorMidM
namespace Go.Proofs.YtdhkjcdneidgaaaGreatDoor
set_option linter.unusedSimpArgs false
set_option linter.unusedVariables false
set_option linter.unusedSimpArgs false
set_option linter.unusedVariables false
open Go Go.Mid Go.RowKit Go.Bits
attribute [local irreducible] mid
def spv (p:Nat×Nat):Value:=.agg #[.int .i64 p.1,.int .i64 p.2]
def entF (L:List TE) (p:Nat×Nat):Option Value:=(findE L p.1 p.2).map fun e=>.int .u64 e.p
abbrev tbT:TypeId:=76
theorem pgmvI {a b:Int} (e:a=b) (x:MV):[MV.v (.int .i64 a),x]=[MV.v (.int .i64 b),x]:=by rw [e]
def freeR (L:List TE) (va l:Nat):Except Bool Nat→Bool
 | .error b=>b
 | .ok f=>(findE L f (placeN va l)).isNone
theorem freeP_R (t:Tb) (va l:Nat):freeP t va l=freeR t.L va l (seekP t.L va 0 (above l)):=by
 unfold freeP
 cases seekP t.L va 0 (above l) <;> rfl
section
set_option maxHeartbeats 8000000
set_option maxRecDepth 10000
variable {h:Hp} {K:Value→Hp→Prop}
theorem spT:KeyT Tryz.prog 97 spv where
 under:=Option.isSome_iff_exists.1 (by kernel_rfl)
 key:=fun a=>by kernel_rfl
 equal:=fun a b=>by
  obtain ⟨a1,a2⟩:=a
  obtain ⟨b1,b2⟩:=b
  have e:eqV Tryz.prog 10000 97 (spv (a1,a2)) (spv (b1,b2))=some (((a1:Int)==(b1:Int)) && (((a2:Int)==(b2:Int)) && true)):=by kernel_rfl
  rw [e]
  congr 1
  rw [Bool.eq_iff_iff]
  simp
  omega
 same:=fun a=>by simp [spv,Instr.sameBits]
theorem mapS:Tryz.prog.underlying 74=some (.map 97 25):=by kernel_rfl
theorem u64Z:zeroT Tryz.prog 25=some (ux 0):=by kernel_rfl
theorem aggMp:isAggT Tryz.prog 74=some false:=by kernel_rfl
theorem aggU6:isAggT Tryz.prog 25=some false:=by kernel_rfl
theorem sizI6:sizeT Tryz.prog 3=some 1:=by kernel_rfl
structure TbO (h:Hp) (b m:Nat) (t:Tb):Prop where
 row:h b=some (rowO tbT [ux t.root,.int .i64 t.frames,.map (some m)])
 map:∃ o n,h m=some o∧MapB spv (entF t.L) n o∧n=t.L.length
theorem TbO.le {h h':Hp} {b m:Nat} {t:Tb} (i:TbO h b m t) (hle:h.le h'):TbO h' b m t:=by
 obtain ⟨o,n,h1,h2,h3⟩:=i.map
 exact ⟨hle _ _ i.row,o,n,hle _ _ h1,h2,h3⟩
theorem TbO.off {h h':Hp} {b m:Nat} {t:Tb} (i:TbO h b m t) (o:∀ c,(c=b∨c=m)→h' c=h c):TbO h' b m t:=by
 obtain ⟨x,n,h1,h2,h3⟩:=i.map
 exact ⟨(o b (.inl rfl)).trans i.row,x,n,(o m (.inr rfl)).trans h1,h2,h3⟩
theorem pgnumber_x {b m:Nat} {t:Tb} (i:TbO h b m t) (hr:t.root<2 ^ 64) (k:Nat) (hk2:k<2 ^ 40) (hk:K (ux (t.root / 4096+k)) h):X Tryz.prog 34 #[.pointer (some ⟨b,0,none⟩),.int .i64 k] h K:=by
 refine fnv (args:=_) mixed [] [] [] Tryz.func34 rfl (by kernel_rfl) ?_;conv=>whnf
 refine ⟨_,loadC0 aggU6 i.row rfl,?_⟩;conv=>whnf
 refine ov_by (show IntKind.u64.wrap ((t.root:Int).tdiv 4096)=((t.root / 4096:Nat):Int) from w64 (show t.root / 4096<2 ^ 64 by omega)) ?_
 conv=>whnf
 refine ov_by (show IntKind.u64.wrap (k:Int)=(k:Int) from w64 (by omega)) ?_
 conv=>whnf
 refine ov_u64 (by omega) ?_;conv=>whnf
 exact kq hk (iI (by omega))
def frP (r p:Nat):Nat:=(ppnN p+2 ^ 64 - r / 4096) % 2 ^ 64 % 2 ^ 44
theorem pgframe_x {b m:Nat} {t:Tb} (i:TbO h b m t) (hr:t.root<2 ^ 64) (p:Nat) (hp:p<2 ^ 64) (hk:K (.int .i64 (frP t.root p)) h):X Tryz.prog 30 #[.pointer (some ⟨b,0,none⟩),ux p] h K:=by
 have h1:ppnN p<2 ^ 44:=Nat.mod_lt _ (by decide)
 refine fnv (args:=_) mixed [] [] [] Tryz.func30 rfl (by kernel_rfl) ?_;conv=>whnf
 refine pgppn_x p hp ?_
 conv=>whnf
 refine pgnumber_x i hr 0 (by decide) ?_
 rw [Nat.add_zero]
 conv=>whnf
 refine ov_by (show IntKind.u64.wrap ((ppnN p:Int) - ((t.root / 4096:Nat):Int))=(((ppnN p+2 ^ 64 - t.root / 4096) % 2 ^ 64:Nat):Int) by rw [toU64];omega) ?_
 conv=>whnf
 refine val_by (y:=((frP t.root p:Nat):Int)) ((and64 (Nat.mod_lt _ (by decide)) (show 2 ^ 44 - 1<2 ^ 64 by decide)).trans (by rw [Nat.and_two_pow_sub_one_eq_mod];rfl)) ?_
 conv=>whnf
 have h2:frP t.root p<2 ^ 44:=Nat.mod_lt _ (by decide)
 (first | refine ov_c (by simp only [loK,hiK];omega) ?_ | refine ov_c (by decide) ?_);conv=>whnf
 exact hk
theorem fr_lead {r k:Nat} (hr:r<2 ^ 64) (hk:k<2 ^ 44):frP r (makeN (r / 4096+k) 1)=k:=by
 unfold frP
 rw [make_ppn]
 omega
theorem pgfits_x (va pa:Nat) (l:Int) (fl:Nat) (h1:va<2 ^ 64) (h2:pa<2 ^ 64) (h3:fl<2 ^ 64) (hk:K (.bool (fitsP va pa l fl)) h):X Tryz.prog 31 #[ux va,ux pa,.int .i64 l,ux fl] h K:=by
 refine fnv (args:=_) mixed [] [] [] Tryz.func31 rfl (by kernel_rfl) ?_;conv=>whnf
 refine pgsize_x l ?_
 by_cases hl:0≤l∧l≤2
 rotate_left
 ·rw [if_neg hl]
  have NO:¬ ((0≤l∧l≤2)∧mayN va∧va % sizeN l.toNat=0∧pa % sizeN l.toNat=0∧pa / 2 ^ 56=0∧fl≤255∧kindN (makeN (pa / 4096) fl) l.toNat=2):=fun hh=>hl hh.1
  rw [show fitsP va pa l fl=false from decide_eq_false fun hh=>NO hh] at hk
  conv=>whnf
  exact hk
 rw [if_pos hl]
 obtain ⟨k,rfl⟩:∃ k:Nat,l=k:=⟨l.toNat,by omega⟩
 rw [Int.toNat_natCast]
 have hz0:0<sizeN k:=Nat.pow_pos (by decide)
 have hz1:sizeN k<2 ^ 64:=Nat.pow_lt_pow_right (by decide) (by omega)
 generalize hz:sizeN k=z at hz0 hz1 ⊢
 conv=>whnf
 refine bsel_false (by simp;omega) ?_;conv=>whnf
 refine pgmay_x va h1 ?_
 by_cases c1:mayN va
 rotate_left
 ·rw [decide_eq_false c1]
  have NO:¬ ((0≤(k:Int)∧(k:Int)≤2)∧mayN va∧va % sizeN (k:Int).toNat=0∧pa % sizeN (k:Int).toNat=0∧pa / 2 ^ 56=0∧fl≤255∧kindN (makeN (pa / 4096) fl) (k:Int).toNat=2):=fun hh=>c1 hh.2.1
  rw [show fitsP va pa k fl=false from decide_eq_false fun hh=>NO hh] at hk
  conv=>whnf
  exact hk
 rw [decide_eq_true c1]
 conv=>whnf
 refine bsel_true (by simp;omega) ?_;conv=>whnf
 have tm:∀ a:Nat,((a:Int)).tmod (z:Int)=((a % z:Nat):Int):=fun a=>rfl
 have ek:(k:Int).toNat=k:=rfl
 rw [tm]
 refine bsel_intro (fun q1=>?_) (fun q1=>?_) <;> try simp only [bsL] at q1
 ·have NO:¬ ((0≤(k:Int)∧(k:Int)≤2)∧mayN va∧va % sizeN (k:Int).toNat=0∧pa % sizeN (k:Int).toNat=0∧pa / 2 ^ 56=0∧fl≤255∧kindN (makeN (pa / 4096) fl) (k:Int).toNat=2):=fun hh=>by have:=hh.2.2.1;rw [ek,hz] at this;omega
  conv=>whnf
  rw [show fitsP va pa k fl=false from decide_eq_false fun hh=>NO hh] at hk
  conv=>whnf
  exact hk
 conv=>whnf
 refine bsel_true (by simp;omega) ?_;conv=>whnf
 rw [tm]
 refine bsel_intro (fun q2=>?_) (fun q2=>?_) <;> try simp only [bsL] at q2
 ·have NO:¬ ((0≤(k:Int)∧(k:Int)≤2)∧mayN va∧va % sizeN (k:Int).toNat=0∧pa % sizeN (k:Int).toNat=0∧pa / 2 ^ 56=0∧fl≤255∧kindN (makeN (pa / 4096) fl) (k:Int).toNat=2):=fun hh=>by have:=hh.2.2.2.1;rw [ek,hz] at this;omega
  conv=>whnf
  rw [show fitsP va pa k fl=false from decide_eq_false fun hh=>NO hh] at hk
  conv=>whnf
  exact hk
 conv=>whnf
 refine val_by (shr64 pa 56 (by decide)) ?_;conv=>whnf
 refine bsel_intro (fun q3=>?_) (fun q3=>?_) <;> try simp only [bsL] at q3
 ·have NO:¬ ((0≤(k:Int)∧(k:Int)≤2)∧mayN va∧va % sizeN (k:Int).toNat=0∧pa % sizeN (k:Int).toNat=0∧pa / 2 ^ 56=0∧fl≤255∧kindN (makeN (pa / 4096) fl) (k:Int).toNat=2):=fun hh=>by have:=hh.2.2.2.2.1;omega
  conv=>whnf
  rw [show fitsP va pa k fl=false from decide_eq_false fun hh=>NO hh] at hk
  conv=>whnf
  exact hk
 conv=>whnf
 refine bsel_intro (fun q4=>?_) (fun q4=>?_) <;> try simp only [bsL] at q4
 ·have NO:¬ ((0≤(k:Int)∧(k:Int)≤2)∧mayN va∧va % sizeN (k:Int).toNat=0∧pa % sizeN (k:Int).toNat=0∧pa / 2 ^ 56=0∧fl≤255∧kindN (makeN (pa / 4096) fl) (k:Int).toNat=2):=fun hh=>by have:=hh.2.2.2.2.2.1;omega
  conv=>whnf
  rw [show fitsP va pa k fl=false from decide_eq_false fun hh=>NO hh] at hk
  conv=>whnf
  exact hk
 conv=>whnf
 refine val_by (shr64 pa 12 (by decide)) ?_;conv=>whnf
 refine pgmake_x (pa / 2 ^ 12) fl (by omega) h3 ?_
 conv=>whnf
 refine pgkind_x (makeN (pa / 2 ^ 12) fl) k (Nat.lt_of_lt_of_le (make_lt _ _) (by decide)) (by omega) ?_
 have e:fitsP va pa k fl=decide (kindN (makeN (pa / 2 ^ 12) fl) k=2):=by
  rw [Bool.eq_iff_iff]
  unfold fitsP
  rw [decide_eq_true_iff,decide_eq_true_iff,ek,hz]
  exact ⟨fun hh=>hh.2.2.2.2.2.2,fun hh=>⟨hl,c1,by omega,by omega,by omega,by omega,hh⟩⟩
 rw [e] at hk
 generalize kindN (makeN (pa / 2 ^ 12) fl) k=kk at hk ⊢
 conv=>whnf
 exact kq hk (bI (by rw [Bool.eq_iff_iff];simp;omega))
theorem pgnewTables_x (r:Nat) (hr:r<2 ^ 64) (hk0:r % 4096≠0→K (.tuple #[.pointer none,.int .i64 1]) h) (hk:r % 4096=0→∀ b m h',h b=none→h m=none→h.le h'→TbO h' b m ⟨r,1,[]⟩→K (.tuple #[.pointer (some ⟨b,0,none⟩),.int .i64 0]) h'):X Tryz.prog 13 #[ux r] h K:=by
 refine fnv (args:=_) mixed [] [] [] Tryz.func13 rfl (by kernel_rfl) ?_;conv=>whnf
 rw [show ((r:Int)).tmod 4096=((r % 4096:Nat):Int) from rfl]
 refine bsel_intro (fun q1=>?_) (fun q1=>?_) <;> try simp only [bsL] at q1
 ·conv=>whnf
  exact hk0 (by omega)
 ·conv=>whnf
  refine new_intro (o:=.map #[] 0) (fun m h1 n_m le_m at_m ot_m=>?_);conv=>whnf
  refine new_intro (o:=rowO tbT [ux r,.int .i64 1,.map (some m)]) (fun b h2 n_b le_b at_b ot_b=>?_);conv=>whnf
  exact hk (by omega) b m h2 (Hp.none_le le_m n_b) n_m (Hp.le_trans le_m le_b) ⟨at_b,_,0,le_b _ _ at_m,MapB.nil,rfl⟩
theorem look_at {h:Hp} {b m:Nat} {t:Tb} (i:TbO h b m t) (f q:Nat):lookH Tryz.prog 74 h (.map (some m)) (spv (f,q)) true=some (match findE t.L f q with | some e=>.tuple #[ux e.p,.bool true] | none=>.tuple #[ux 0,.bool false]):=by
 obtain ⟨o,n,h1,h2,_⟩:=i.map
 have:=MapB.look mapS u64Z spT h1 h2 (f,q) true
 rw [this]
 unfold entF
 simp only
 cases findE t.L f q <;> rfl
theorem pgfree_x {b m:Nat} {t:Tb} {lev:Nat→Nat} (o:TbO h b m t) (i:TInv t lev) (hl2:t.L.length≤2 ^ 20) (va l:Nat) (hv:va<2 ^ 64) (hl:l≤2) (hk:K (.bool (freeP t va l)) h):X Tryz.prog 32 #[.pointer (some ⟨b,0,none⟩),ux va,.int .i64 l] h K:=by
 rw [freeP_R,above_dn hl] at hk
 refine fnv (args:=_) mixed [] [28] [] Tryz.func32 rfl (by kernel_rfl) ?_;conv=>whnf
 refine loop_at [8,7] [] (fun q vs _ h'=>h=h'∧∃ n f:Nat,q=n∧l+n≤2∧vs=[.v (.int .i64 (l+n:Nat)),.v (.int .i64 f)]∧f<t.frames∧lev f=l+n∧seekP t.L va 0 (dn 2 (2 - l))=seekP t.L va f (dn (l+n) n)) (2 - l) ⟨rfl,2 - l,0,rfl,by omega,by rw [show l+(2 - l)=2 by omega];rfl,by have:=i.f1;omega,by rw [i.l0];omega,by rw [show l+(2 - l)=2 by omega]⟩ ?_
 rintro q vs cs mm bx _ ⟨rfl,n,f,rfl,hn,rfl,hf,hlv,hs⟩
 conv=>whnf
 refine bsel_true (by simp;omega) ?_;conv=>whnf
 refine ⟨_,loadC (i:=2) aggMp o.row rfl,?_⟩;conv=>whnf
 refine ⟨_,pgplace_x va (l+q) hv (by omega) ⟨rfl,rfl⟩,?_⟩
 have lk:=look_at o f (placeN va (l+q))
 cases hq:findE t.L f (placeN va (l+q)) with
 | none =>
  rw [hq] at lk
  conv=>whnf
  refine ⟨_,lk,?_⟩;conv=>whnf
  have e:freeR t.L va l (seekP t.L va 0 (dn 2 (2 - l)))=true:=by
   rw [hs]
   cases q with
   | zero =>
    show (findE t.L f (placeN va l)).isNone=true
    rw [Nat.add_zero] at hq
    rw [hq];rfl
   | succ q =>
    unfold dn seekP
    rw [hq]
    rfl
  rw [e] at hk
  exact hk
 | some e =>
  rw [hq] at lk
  obtain ⟨he,hef,_⟩:=findE_some hq
  have hp:=i.p64 e he
  conv=>whnf
  refine ⟨_,lk,?_⟩;conv=>whnf
  cases q with
  | zero =>
   have e2:freeR t.L va l (seekP t.L va 0 (dn 2 (2 - l)))=false:=by
    rw [hs]
    show (findE t.L f (placeN va l)).isNone=false
    rw [Nat.add_zero] at hq
    rw [hq];rfl
   rw [e2] at hk
   refine bsel_true (by simp) ?_;conv=>whnf
   exact hk
  | succ q =>
   refine bsel_false (by simp;omega) ?_;conv=>whnf
   refine pgkind_x e.p (l+(q+1)) hp (by omega) ?_
   have hkd:=i.kind he
   rw [hef,hlv] at hkd
   rw [hkd]
   cases ht:e.to with
   | none =>
    have e2:freeR t.L va l (seekP t.L va 0 (dn 2 (2 - l)))=false:=by
     rw [hs]
     unfold dn seekP
     rw [hq]
     simp only
     rw [ht]
     rfl
    rw [e2] at hk
    rw [if_pos rfl]
    conv=>whnf
    exact hk
   | some k =>
    rw [if_neg (by simp)]
    obtain ⟨k1,k2,k3,k4⟩:=i.lead e he k ht
    have f2:=i.f2
    conv=>whnf
    refine pgframe_x o i.r1 e.p hp ?_
    rw [k4,fr_lead i.r1 (by omega)]
    conv=>whnf
    (first | refine ov_c (by simp only [loK,hiK];omega) ?_ | refine ov_c (by decide) ?_);conv=>whnf
    have hs2:seekP t.L va f (dn (l+(q+1)) (q+1))=seekP t.L va k (dn (l+q) q):=by
     conv=>lhs;unfold dn seekP
     rw [hq]
     simp only
     rw [ht]
     rfl
    exact ⟨q,by omega,rfl,q,k,rfl,by omega,pgmvI (by omega) _,k1,by rw [hef] at k3;omega,hs.trans hs2⟩
end
end Go.Proofs.YtdhkjcdneidgaaaGreatDoor

namespace Go.Proofs.YtdhkjcdneidgaaaGreatDoor
set_option linter.unusedSimpArgs false
set_option linter.unusedVariables false
set_option linter.unusedSimpArgs false
set_option linter.unusedVariables false
open Go Go.Mid Go.RowKit Go.Bits
attribute [local irreducible] mid
theorem entF_put (L:List TE) (f q p:Nat) (k:Option Nat) (hn:findE L f q=none):putF (entF L) (f,q) (some (.int .u64 p))=entF (L++[⟨f,q,p,k⟩]):=by
 funext a
 obtain ⟨a1,a2⟩:=a
 unfold putF entF
 rw [findE_app]
 by_cases e:(a1,a2)=(f,q)
 ·cases e
  rw [if_pos rfl,hn]
  simp [findE]
 ·rw [if_neg e]
  have:findE [⟨f,q,p,k⟩] a1 a2=none:=by
   unfold findE
   rw [if_neg (by rintro ⟨rfl,rfl⟩;exact e rfl)]
   rfl
  simp only [this]
  cases findE L a1 a2 <;> rfl
section
set_option maxHeartbeats 8000000
set_option maxRecDepth 10000
variable {h:Hp} {K:Value→Hp→Prop}
theorem TbO.upd {b m:Nat} {t:Tb} (o:TbO h b m t) (f q p:Nat) (hn:findE t.L f q=none):∃ x n,updH Tryz.prog 74 h (.map (some m)) (spv (f,q)) (ux p)=some (m,x)∧MapB spv (entF (t.L++[⟨f,q,p,none⟩])) n x∧n=t.L.length+1:=by
 obtain ⟨x,n,h1,h2,h3⟩:=o.map
 obtain ⟨x',h4,h5⟩:=MapB.upd mapS spT h1 h2 (f,q) (ux p)
 rw [entF_put _ _ _ _ none hn] at h5
 refine ⟨x',_,h4,h5,?_⟩
 have e0:entF t.L (f,q)=none:=by unfold entF;rw [hn];rfl
 unfold Go.Mid.putN
 rw [e0]
 simp [h3]
theorem entF_to (L:List TE) (f q p:Nat) (j k:Option Nat):entF (L++[⟨f,q,p,j⟩])=entF (L++[⟨f,q,p,k⟩]):=by
 funext a
 unfold entF
 rw [findE_app,findE_app]
 cases findE L a.1 a.2 with
 | some e=>rfl
 | none =>
  simp only [findE]
  by_cases hc:f=a.1∧q=a.2
  ·rw [if_pos hc,if_pos hc];rfl
  ·rw [if_neg hc,if_neg hc]
theorem pgfind_x {b m:Nat} {t:Tb} {lev:Nat→Nat} (o:TbO h b m t) (i:TInv t lev) (hl2:t.L.length≤2 ^ 20) (va:Nat) (hv:va<2 ^ 64) (hk:K (match lookP t va with | some (p,l)=>.tuple #[ux p,.int .i64 l,.bool true] | none=>.tuple #[ux 0,.int .i64 0,.bool false]) h):X Tryz.prog 9 #[.pointer (some ⟨b,0,none⟩),ux va] h K:=by
 obtain ⟨r,hr⟩:∃ r,lookP t va=r:=⟨_,rfl⟩
 rw [hr] at hk
 unfold lookP at hr
 refine fnv (args:=_) mixed [] [28] [] Tryz.func9 rfl (by kernel_rfl) ?_;conv=>whnf
 refine pgmay_x va hv ?_
 by_cases hm:mayN va
 rotate_left
 ·rw [if_neg hm] at hr
  subst hr
  rw [decide_eq_false hm]
  conv=>whnf
  exact hk
 rw [if_pos hm] at hr
 rw [decide_eq_true hm]
 conv=>whnf
 refine loop_at [8,7] [] (fun q vs _ h'=>h=h'∧∃ f:Nat,q≤3∧vs=[.v (.int .i64 ((q:Int) - 1)),.v (.int .i64 f)]∧((q=0∧r=none)∨(0<q∧f<t.frames∧lev f=q - 1∧r=leafP t.L va f (dn (q - 1) q)))) 3 ⟨rfl,0,by omega,rfl,.inr ⟨by decide,by have:=i.f1;omega,by rw [i.l0],hr.symm⟩⟩ ?_
 rintro q vs cs mm bx _ ⟨rfl,f,hq3,rfl,hs⟩
 conv=>whnf
 refine bsel_intro (fun q1=>?_) (fun q1=>?_) <;> try simp only [bsL] at q1
 ·obtain ⟨hq,hf,hlv,hs⟩:=hs.resolve_left (by omega)
  obtain ⟨n,rfl⟩:∃ n,q=n+1:=⟨q - 1,by omega⟩
  rw [Nat.add_sub_cancel] at hlv hs
  rw [show ((n+1:Nat):Int) - 1=(n:Int) by omega]
  conv=>whnf
  refine ⟨_,loadC (i:=2) aggMp o.row rfl,?_⟩;conv=>whnf
  refine ⟨_,pgplace_x va n hv (by omega) ⟨rfl,rfl⟩,?_⟩
  have lk:=look_at o f (placeN va n)
  cases hq:findE t.L f (placeN va n) with
  | none =>
   rw [hq] at lk
   have e:r=none:=by rw [hs];unfold dn leafP;rw [hq]
   subst e
   conv=>whnf
   refine ⟨_,lk,?_⟩;conv=>whnf
   exact hk
  | some e =>
   rw [hq] at lk
   obtain ⟨he,hef,_⟩:=findE_some hq
   have hp:=i.p64 e he
   conv=>whnf
   refine ⟨_,lk,?_⟩;conv=>whnf
   refine pgkind_x e.p n hp (by omega) ?_
   have hkd:=i.kind he
   rw [hef,hlv] at hkd
   rw [hkd]
   cases ht:e.to with
   | none =>
    have e2:r=some (e.p,n):=by rw [hs];unfold dn leafP;rw [hq];simp only;rw [ht]
    subst e2
    rw [if_pos rfl]
    conv=>whnf
    exact hk
   | some k =>
    rw [if_neg (by simp)]
    obtain ⟨k1,k2,k3,k4⟩:=i.lead e he k ht
    have f2:=i.f2
    rw [hef,hlv] at k2 k3
    have hs2:r=leafP t.L va k (dn (n - 1) n):=by rw [hs];conv=>lhs;unfold dn leafP;rw [hq];simp only;rw [ht]
    conv=>whnf
    refine pgframe_x o i.r1 e.p hp ?_
    rw [k4,fr_lead i.r1 (by omega)]
    conv=>whnf
    (first | refine ov_c (by simp only [loK,hiK];omega) ?_ | refine ov_c (by decide) ?_);conv=>whnf
    exact ⟨n,by omega,rfl,k,by omega,rfl,.inr ⟨by omega,k1,by omega,hs2⟩⟩
 ·obtain ⟨_,rfl⟩:=hs.resolve_right (fun hh=>by omega)
  conv=>whnf
  exact hk
theorem down_end {va l:Nat} {t u:Tb} {lev:Nat→Nat} {g:Nat} (i:TInv t lev) (hl:l≤2) (h:downP va t 0 (dn 2 (2 - l))=some (u,g)):g<u.frames∧u.L.length≤t.L.length+2:=by
 obtain ⟨lev',a,b,c,d,e⟩:=down_inv va l (2 - l) t lev 0 u g i (by have:=i.f1;omega) (by rw [i.l0];omega) (by rw [i.l0];exact h)
 exact ⟨b,by omega⟩
theorem pgmap_x {b m:Nat} {t:Tb} {lev:Nat→Nat} (o:TbO h b m t) (hbm:b≠m) (i:TInv t lev) (hl2:t.L.length≤2 ^ 19) (va pa:Nat) (l:Int) (fl:Nat) (h1:va<2 ^ 64) (h2:pa<2 ^ 64) (h3:fl<2 ^ 64) (hk:∀ h',TbO h' b m (mapT t (mapP t va pa l fl))→(∀ c,c≠b→c≠m→h' c=h c)→K (.int .i64 (mapE (mapP t va pa l fl))) h'):X Tryz.prog 10 #[.pointer (some ⟨b,0,none⟩),ux va,ux pa,.int .i64 l,ux fl] h K:=by
 refine fnv (args:=_) mixed [(13,13)] [28,33] [] Tryz.func10 rfl (by kernel_rfl) ?_;conv=>whnf
 refine pgfits_x va pa l fl h1 h2 h3 ?_
 by_cases hf:fitsP va pa l fl=true
 rotate_left
 ·have e:mapP t va pa l fl=.error 1:=if_neg hf
  rw [show fitsP va pa l fl=false by simpa using hf]
  rw [e] at hk
  conv=>whnf
  exact hk h o fun _ _ _=>rfl
 rw [hf]
 obtain ⟨⟨hl0,hl3⟩,_,_,_,hp56,_,hk2⟩:=of_decide_eq_true hf
 obtain ⟨k,rfl⟩:∃ k:Nat,l=k:=⟨l.toNat,by omega⟩
 have ek:(k:Int).toNat=k:=rfl
 rw [ek] at hk2
 conv=>whnf
 refine pgfree_x o i (Nat.le_trans hl2 (by decide)) va k h1 (by omega) ?_
 have hfd:=free_down va k (above k) t 0 i.fr (by have:=i.f1;omega) (fun e he k hk=>(i.lead e he k hk).1)
 have hfd:freeP t va k=true↔∃ v g,downP va t 0 (above k)=some (v,g)∧findE v.L g (placeN va k)=none:=hfd
 have hmp:mapP t va pa k fl=match downP va t 0 (above k) with
  | none=>.error 8
  | some (u,f)=>if (findE u.L f (placeN va k)).isNone then .ok { u with L:=u.L++[⟨f,placeN va k,makeN (pa / 4096) fl,none⟩] } else .error 8:=if_pos hf
 cases hfr:freeP t va k with
 | false =>
  have e:mapP t va pa k fl=.error 8:=by
   rw [hmp]
   cases hd:downP va t 0 (above k) with
   | none=>rfl
   | some r =>
    obtain ⟨v,g⟩:=r
    simp only
    rw [if_neg]
    intro hh
    have:=hfd.2 ⟨v,g,hd,Option.isNone_iff_eq_none.1 hh⟩
    rw [hfr] at this;cases this
  rw [e] at hk
  conv=>whnf
  exact hk h o fun _ _ _=>rfl
 | true =>
  obtain ⟨v,g,hd,hn⟩:=hfd.1 hfr
  have e:mapP t va pa k fl=.ok { v with L:=v.L++[⟨g,placeN va k,makeN (pa / 4096) fl,none⟩] }:=by
   rw [hmp,hd]
   simp only
   rw [hn];rfl
  rw [e] at hk
  clear e hmp hfd hfr
  rw [above_dn (by omega)] at hd
  obtain ⟨hgv,hvl⟩:=down_end i (by omega) hd
  conv=>whnf
  refine loop_at [12,11] [] (fun q vs _ h'=>∃ (u:Tb) (lv:Nat→Nat) (f:Nat),TbO h' b m u∧TInv u lv∧(∀ c,c≠b→c≠m→h' c=h c)∧k+q≤2∧vs=[.v (.int .i64 (k+q:Nat)),.v (.int .i64 f)]∧f<u.frames∧lv f=k+q∧downP va u f (dn (k+q) q)=some (v,g)∧u.L.length+q≤t.L.length+2) (2 - k) ⟨t,lev,0,o,i,fun _ _ _=>rfl,by omega,by rw [show k+(2 - k)=2 by omega];rfl,by have:=i.f1;omega,by rw [i.l0];omega,by rw [show k+(2 - k)=2 by omega];exact hd,by omega⟩ ?_
  rintro q vs cs mm bx h4 ⟨u,lv,f,o4,i4,ho4,hkq,rfl,hf4,hlv,hdn,hul⟩
  conv=>whnf
  refine bsel_intro (fun q1=>?_) (fun q1=>?_) <;> try simp only [bsL] at q1
  ·obtain ⟨n,rfl⟩:∃ n,q=n+1:=⟨q - 1,by omega⟩
   have hdn:downP va u f ((k+(n+1)) :: dn (k+n) n)=some (v,g):=hdn
   unfold downP at hdn
   have lk:=look_at o4 f (placeN va (k+(n+1)))
   have f2:=i4.f2
   have r1:=i4.r1
   conv=>whnf
   refine pgplace_x va (k+(n+1)) h1 (by omega) ?_
   conv=>whnf
   refine ⟨_,loadC (i:=2) aggMp o4.row rfl,?_⟩;conv=>whnf
   cases hq:findE u.L f (placeN va (k+(n+1))) with
   | none =>
    rw [hq] at lk hdn
    simp only at hdn
    refine ⟨_,lk,?_⟩;conv=>whnf
    refine ⟨_,loadC (i:=1) aggIn o4.row rfl,?_⟩;conv=>whnf
    refine pgnumber_x o4 r1 u.frames (by omega) ?_
    conv=>whnf
    refine pgmake_x (u.root / 4096+u.frames) 1 (by omega) (by decide) ?_
    conv=>whnf
    have hob_:=o4.upd f (placeN va (k+(n+1))) (makeN (u.root / 4096+u.frames) 1) hq
    obtain ⟨x5,n5,hup,hM5,hn5⟩:=hob_
    refine ⟨_,loadC (i:=2) aggMp o4.row rfl,?_⟩;conv=>whnf
    refine wr_intro (by exact hup) (fun h5 at_h5 ot_h5=>?_)
    try (conv=>whnf)
    have r5:h5 b=some (rowO tbT [ux u.root,.int .i64 u.frames,.map (some m)]):=(ot_h5 b hbm).trans o4.row
    refine ⟨trivial,?_⟩;conv=>whnf
    refine ⟨_,loadC (i:=1) aggIn r5 rfl,?_⟩;conv=>whnf
    (first | refine ov_c (by simp only [loK,hiK];omega) ?_ | refine ov_c (by decide) ?_);conv=>whnf
    refine wr_intro (by exact storeC (i:=1) sizI6 r5 (show (1:Nat)<3 by decide) rfl rfl) (fun h6 at_h6 ot_h6=>?_)
    try (conv=>whnf)
    have i6:=i4.down hf4 (by omega) (place_lt va (k+(n+1))) hq
    have o6:TbO h6 b m { u with frames:=u.frames+1,L:=u.L++[⟨f,placeN va (k+(n+1)),makeN (u.root / 4096+u.frames) 1,some u.frames⟩] }:=by
     refine ⟨?_,x5,n5,(ot_h6 m (Ne.symm hbm)).trans at_h5,?_,?_⟩
     ·rw [at_h6]
      show some (rowO _ [_,.int .i64 ((u.frames:Int)+1),_])=some (rowO _ [_,.int .i64 ((u.frames+1:Nat):Int),_])
      rw [show (u.frames:Int)+1=((u.frames+1:Nat):Int) by omega]
     ·show MapB spv (entF (u.L++[⟨f,_,_,some u.frames⟩])) n5 x5
      rw [entF_to u.L f _ _ (some u.frames) none]
      exact hM5
     ·rw [hn5];show _=(u.L++[_]).length;rw [List.length_append];rfl
    have ho6:∀ c,c≠b→c≠m→h6 c=h c:=fun c hc hm=>by rw [ot_h6 c hc,ot_h5 c hm];exact ho4 c hc hm
    conv=>whnf
    refine pgframe_x o6 r1 _ (Nat.lt_of_lt_of_le (make_lt _ _) (by decide)) ?_
    have efr:frP u.root (makeN (u.root / 4096+u.frames) 1)=u.frames:=fr_lead r1 (by omega)
    have efr:frP ({ u with frames:=u.frames+1,L:=u.L++[⟨f,placeN va (k+(n+1)),makeN (u.root / 4096+u.frames) 1,some u.frames⟩] }:Tb).root (makeN (u.root / 4096+u.frames) 1)=u.frames:=efr
    rw [efr]
    conv=>whnf
    (first | refine ov_c (by simp only [loK,hiK];omega) ?_ | refine ov_c (by decide) ?_);conv=>whnf
    refine ⟨n,by omega,_,_,u.frames,o6,i6,ho6,by omega,pgmvI (by omega) _,Nat.lt_succ_self _,?_,hdn,?_⟩
    ·show (if u.frames=u.frames then lv f - 1 else lv u.frames)=k+n
     rw [if_pos rfl];omega
    ·show (u.L++[_]).length+n≤_
     rw [List.length_append]
     simp
     omega
   | some e =>
    rw [hq] at lk hdn
    simp only at hdn
    obtain ⟨he,hef,_⟩:=findE_some hq
    cases ht:e.to with
    | none=>rw [ht] at hdn;cases hdn
    | some j =>
     rw [ht] at hdn
     obtain ⟨k1,k2,k3,k4⟩:=i4.lead e he j ht
     rw [hef,hlv] at k2 k3
     refine ⟨_,lk,?_⟩;conv=>whnf
     refine pgframe_x o4 r1 e.p (i4.p64 e he) ?_
     rw [k4,fr_lead r1 (by omega)]
     conv=>whnf
     (first | refine ov_c (by simp only [loK,hiK];omega) ?_ | refine ov_c (by decide) ?_);conv=>whnf
     exact ⟨n,by omega,u,lv,j,o4,i4,ho4,by omega,pgmvI (by omega) _,k1,by omega,hdn,by omega⟩
  ·obtain rfl:q=0:=by omega
   have hdn:some (u,f)=some (v,g):=hdn
   cases hdn
   have f2:=i4.f2
   conv=>whnf
   refine ⟨_,loadC (i:=2) aggMp o4.row rfl,?_⟩;conv=>whnf
   refine ⟨_,pgplace_x va k h1 (by omega) ⟨rfl,rfl⟩,?_⟩
   conv=>whnf
   refine val_by (shr64 pa 12 (by decide)) ?_;conv=>whnf
   refine ⟨_,pgmake_x (pa / 2 ^ 12) fl (by omega) h3 ⟨rfl,rfl⟩,?_⟩
   conv=>whnf
   have hob_:=o4.upd _ (placeN va k) (makeN (pa / 2 ^ 12) fl) hn
   obtain ⟨x5,n5,hup,hM5,hn5⟩:=hob_
   refine wr_intro (by exact hup) (fun h5 at_h5 ot_h5=>?_)
   try (conv=>whnf)
   refine ⟨trivial,?_⟩;conv=>whnf
   refine hk h5 ⟨(ot_h5 b hbm).trans o4.row,x5,n5,at_h5,hM5,?_⟩ fun c hc hm=>by rw [ot_h5 c hm];exact ho4 c hc hm
   rw [hn5]
   exact (List.length_append (bs:=[_])).symm
end
end Go.Proofs.YtdhkjcdneidgaaaGreatDoor
