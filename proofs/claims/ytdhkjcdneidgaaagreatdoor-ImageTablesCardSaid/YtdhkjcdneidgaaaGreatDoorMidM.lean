/-
  THE MIDDLE LAYER: maps whose entries bear stamps; a loop over a map, in whatever order Go draws.
-/
import Derived.Test.YtdhkjcdneidgaaaGreatDoorBitX
import Derived.Test.YtdhkjcdneidgaaaGreatDoorTrK
namespace Go.Proofs.YtdhkjcdneidgaaaGreatDoor
set_option linter.unusedSimpArgs false
set_option linter.unusedVariables false
set_option linter.unusedSimpArgs false
set_option linter.unusedVariables false
open Go Go.Mid Go.RowKit Go.Bits
attribute [local irreducible] mid
def codeL:List (Nat×Nat×Nat):=[(55,0,0),(23,0,0),(111,0,0),(103,0,0),(99,0,0),(99,1,0),(99,4,0),(99,5,0),(99,6,0),(99,7,0),(3,0,0),(3,1,0),(3,2,0),(3,3,0),(3,4,0),(3,5,0),(3,6,0),(35,0,0),(35,1,0),(35,2,0),(35,3,0),(19,0,0),(19,2,0),(19,3,0),(19,4,0),(19,6,0),(19,7,0),(19,1,0),(19,5,0),(19,5,32),(51,0,0),(51,0,32),(51,1,0),(51,2,0),(51,3,0),(51,4,0),(51,5,0),(51,5,32),(51,6,0),(51,7,0),(27,0,0),(27,1,0),(27,5,0),(27,5,32),(59,0,0),(59,0,32),(59,1,0),(59,5,0),(59,5,32),(15,0,0),(15,1,0),(115,0,115),(115,0,1048691),(51,0,1),(51,1,1),(51,2,1),(51,3,1),(51,4,1),(51,5,1),(51,6,1),(51,7,1),(59,0,1),(59,4,1),(59,5,1),(59,6,1),(59,7,1),(47,2,8),(47,2,12),(47,2,4),(47,2,0),(47,2,16),(47,2,48),(47,2,32),(47,2,64),(47,2,80),(47,2,96),(47,2,112),(47,3,8),(47,3,12),(47,3,4),(47,3,0),(47,3,16),(47,3,48),(47,3,32),(47,3,64),(47,3,80),(47,3,96),(47,3,112),(115,1,0),(115,2,0),(115,3,0),(115,5,0),(115,6,0),(115,7,0),(115,0,807403635),(115,0,270532723),(115,0,273678451),(115,0,9)]
def codeN (i:Nat):Nat×Nat×Nat:=codeL.getD i (0,0,0)
def maskF:Nat→Nat
 | 5 | 6=>127
 | 2 | 3 | 4 | 9 | 10=>28799
 | 1 | 8=>4261441663
 | 7=>4227887231
 | 11=>4160778367
 | 12=>4193284223
 | 13=>4294967295
 | 14=>4261445631
 | _=>0
def maskN (i:Nat):Nat:=(rowsL.getD i ⟨0,[],0,0⟩).mask
def isN (i:Nat):Nat:=(rowsL.getD i ⟨0,[],0,0⟩).is
theorem fixed_eq:∀ i:Nat,i<98→maskF (fmtN ((i+1:Nat):Int))=maskN i∧(if fmtN ((i+1:Nat):Int)=13 then (codeN i).2.2 else ((codeN i).1 ||| (codeN i).2.1*2 ^ 12 % 4294967296) ||| (codeN i).2.2*2 ^ 25 % 4294967296)=isN i:=by decide +kernel
theorem code_lt:∀ i:Nat,i<98→(codeN i).1<2 ^ 32∧(codeN i).2.1<2 ^ 32∧(codeN i).2.2<2 ^ 32:=by decide +kernel
section
set_option maxHeartbeats 8000000
set_option maxRecDepth 10000
variable {h:Hp} {K:Value→Hp→Prop}
theorem code_plain (i:Nat) (h1:0≤i) (h2:i<28) (hk:K (.tuple #[wx (codeN i).1,wx (codeN i).2.1,wx (codeN i).2.2]) h):X Tryz.prog 153 #[.int .i64 ((i+1:Nat):Int)] h K:=by
 have:i=0∨i=1∨i=2∨i=3∨i=4∨i=5∨i=6∨i=7∨i=8∨i=9∨i=10∨i=11∨i=12∨i=13∨i=14∨i=15∨i=16∨i=17∨i=18∨i=19∨i=20∨i=21∨i=22∨i=23∨i=24∨i=25∨i=26∨i=27:=by omega
 rcases this with rfl | rfl | rfl | rfl | rfl | rfl | rfl | rfl | rfl | rfl | rfl | rfl | rfl | rfl | rfl | rfl | rfl | rfl | rfl | rfl | rfl | rfl | rfl | rfl | rfl | rfl | rfl | rfl <;>
 ·refine fnv (args:=_) mixed [] [] [] Tryz.func153 rfl (by kernel_rfl) ?_
  conv=>whnf
  refine fnv (args:=_) mixed [] [] [] Tryz.func188 rfl (by kernel_rfl) ?_
  conv=>whnf
  exact hk
theorem code_reg (i:Nat) (h1:28≤i) (h2:i<56) (hk:K (.tuple #[wx (codeN i).1,wx (codeN i).2.1,wx (codeN i).2.2]) h):X Tryz.prog 153 #[.int .i64 ((i+1:Nat):Int)] h K:=by
 have:i=28∨i=29∨i=30∨i=31∨i=32∨i=33∨i=34∨i=35∨i=36∨i=37∨i=38∨i=39∨i=40∨i=41∨i=42∨i=43∨i=44∨i=45∨i=46∨i=47∨i=48∨i=49∨i=50∨i=51∨i=52∨i=53∨i=54∨i=55:=by omega
 rcases this with rfl | rfl | rfl | rfl | rfl | rfl | rfl | rfl | rfl | rfl | rfl | rfl | rfl | rfl | rfl | rfl | rfl | rfl | rfl | rfl | rfl | rfl | rfl | rfl | rfl | rfl | rfl | rfl <;>
 ·refine fnv (args:=_) mixed [] [] [] Tryz.func153 rfl (by kernel_rfl) ?_
  conv=>whnf
  refine fnv (args:=_) mixed [] [] [] Tryz.func189 rfl (by kernel_rfl) ?_
  conv=>whnf
  exact hk
theorem code_more (i:Nat) (h1:56≤i) (h2:i<84) (hk:K (.tuple #[wx (codeN i).1,wx (codeN i).2.1,wx (codeN i).2.2]) h):X Tryz.prog 153 #[.int .i64 ((i+1:Nat):Int)] h K:=by
 have:i=56∨i=57∨i=58∨i=59∨i=60∨i=61∨i=62∨i=63∨i=64∨i=65∨i=66∨i=67∨i=68∨i=69∨i=70∨i=71∨i=72∨i=73∨i=74∨i=75∨i=76∨i=77∨i=78∨i=79∨i=80∨i=81∨i=82∨i=83:=by omega
 rcases this with rfl | rfl | rfl | rfl | rfl | rfl | rfl | rfl | rfl | rfl | rfl | rfl | rfl | rfl | rfl | rfl | rfl | rfl | rfl | rfl | rfl | rfl | rfl | rfl | rfl | rfl | rfl | rfl <;>
 ·refine fnv (args:=_) mixed [] [] [] Tryz.func153 rfl (by kernel_rfl) ?_
  conv=>whnf
  refine fnv (args:=_) mixed [] [] [] Tryz.func190 rfl (by kernel_rfl) ?_
  conv=>whnf
  exact hk
theorem code_last (i:Nat) (h1:84≤i) (h2:i<98) (hk:K (.tuple #[wx (codeN i).1,wx (codeN i).2.1,wx (codeN i).2.2]) h):X Tryz.prog 153 #[.int .i64 ((i+1:Nat):Int)] h K:=by
 have:i=84∨i=85∨i=86∨i=87∨i=88∨i=89∨i=90∨i=91∨i=92∨i=93∨i=94∨i=95∨i=96∨i=97:=by omega
 rcases this with rfl | rfl | rfl | rfl | rfl | rfl | rfl | rfl | rfl | rfl | rfl | rfl | rfl | rfl <;>
 ·refine fnv (args:=_) mixed [] [] [] Tryz.func153 rfl (by kernel_rfl) ?_
  conv=>whnf
  refine fnv (args:=_) mixed [] [] [] Tryz.func191 rfl (by kernel_rfl) ?_
  conv=>whnf
  exact hk
theorem code_x (i:Nat) (hi:i<98) (hk:K (.tuple #[wx (codeN i).1,wx (codeN i).2.1,wx (codeN i).2.2]) h):X Tryz.prog 153 #[.int .i64 ((i+1:Nat):Int)] h K:=by
 rcases Nat.lt_or_ge i 28 with h28 | h28
 ·exact code_plain i (by omega) h28 hk
 rcases Nat.lt_or_ge i 56 with h56 | h56
 ·exact code_reg i (by omega) h56 hk
 rcases Nat.lt_or_ge i 84 with h84 | h84
 ·exact code_more i (by omega) h84 hk
 exact code_last i (by omega) hi hk
theorem mask0_x (hk:K (wx (maskF 0)) h):X Tryz.prog 154 #[.int .i64 0] h K:=by
 refine fnv (args:=_) mixed [] [] [] Tryz.func154 rfl (by kernel_rfl) ?_;conv=>whnf
 exact hk
theorem mask1_x (hk:K (wx (maskF 1)) h):X Tryz.prog 154 #[.int .i64 1] h K:=by
 refine fnv (args:=_) mixed [] [] [] Tryz.func154 rfl (by kernel_rfl) ?_;conv=>whnf
 exact hk
theorem mask2_x (hk:K (wx (maskF 2)) h):X Tryz.prog 154 #[.int .i64 2] h K:=by
 refine fnv (args:=_) mixed [] [] [] Tryz.func154 rfl (by kernel_rfl) ?_;conv=>whnf
 exact hk
theorem mask3_x (hk:K (wx (maskF 3)) h):X Tryz.prog 154 #[.int .i64 3] h K:=by
 refine fnv (args:=_) mixed [] [] [] Tryz.func154 rfl (by kernel_rfl) ?_;conv=>whnf
 exact hk
theorem mask4_x (hk:K (wx (maskF 4)) h):X Tryz.prog 154 #[.int .i64 4] h K:=by
 refine fnv (args:=_) mixed [] [] [] Tryz.func154 rfl (by kernel_rfl) ?_;conv=>whnf
 exact hk
theorem mask5_x (hk:K (wx (maskF 5)) h):X Tryz.prog 154 #[.int .i64 5] h K:=by
 refine fnv (args:=_) mixed [] [] [] Tryz.func154 rfl (by kernel_rfl) ?_;conv=>whnf
 exact hk
theorem mask6_x (hk:K (wx (maskF 6)) h):X Tryz.prog 154 #[.int .i64 6] h K:=by
 refine fnv (args:=_) mixed [] [] [] Tryz.func154 rfl (by kernel_rfl) ?_;conv=>whnf
 exact hk
theorem mask7_x (hk:K (wx (maskF 7)) h):X Tryz.prog 154 #[.int .i64 7] h K:=by
 refine fnv (args:=_) mixed [] [] [] Tryz.func154 rfl (by kernel_rfl) ?_;conv=>whnf
 exact hk
theorem mask8_x (hk:K (wx (maskF 8)) h):X Tryz.prog 154 #[.int .i64 8] h K:=by
 refine fnv (args:=_) mixed [] [] [] Tryz.func154 rfl (by kernel_rfl) ?_;conv=>whnf
 exact hk
theorem mask9_x (hk:K (wx (maskF 9)) h):X Tryz.prog 154 #[.int .i64 9] h K:=by
 refine fnv (args:=_) mixed [] [] [] Tryz.func154 rfl (by kernel_rfl) ?_;conv=>whnf
 exact hk
theorem mask10_x (hk:K (wx (maskF 10)) h):X Tryz.prog 154 #[.int .i64 10] h K:=by
 refine fnv (args:=_) mixed [] [] [] Tryz.func154 rfl (by kernel_rfl) ?_;conv=>whnf
 exact hk
theorem mask11_x (hk:K (wx (maskF 11)) h):X Tryz.prog 154 #[.int .i64 11] h K:=by
 refine fnv (args:=_) mixed [] [] [] Tryz.func154 rfl (by kernel_rfl) ?_;conv=>whnf
 exact hk
theorem mask12_x (hk:K (wx (maskF 12)) h):X Tryz.prog 154 #[.int .i64 12] h K:=by
 refine fnv (args:=_) mixed [] [] [] Tryz.func154 rfl (by kernel_rfl) ?_;conv=>whnf
 exact hk
theorem mask13_x (hk:K (wx (maskF 13)) h):X Tryz.prog 154 #[.int .i64 13] h K:=by
 refine fnv (args:=_) mixed [] [] [] Tryz.func154 rfl (by kernel_rfl) ?_;conv=>whnf
 exact hk
theorem mask14_x (hk:K (wx (maskF 14)) h):X Tryz.prog 154 #[.int .i64 14] h K:=by
 refine fnv (args:=_) mixed [] [] [] Tryz.func154 rfl (by kernel_rfl) ?_;conv=>whnf
 exact hk
theorem mask_x (f:Nat) (hf:f<15) (hk:K (wx (maskF f)) h):X Tryz.prog 154 #[.int .i64 f] h K:=by
 match f,hf,hk with
 | 0,_,hk=>exact mask0_x hk
 | 1,_,hk=>exact mask1_x hk
 | 2,_,hk=>exact mask2_x hk
 | 3,_,hk=>exact mask3_x hk
 | 4,_,hk=>exact mask4_x hk
 | 5,_,hk=>exact mask5_x hk
 | 6,_,hk=>exact mask6_x hk
 | 7,_,hk=>exact mask7_x hk
 | 8,_,hk=>exact mask8_x hk
 | 9,_,hk=>exact mask9_x hk
 | 10,_,hk=>exact mask10_x hk
 | 11,_,hk=>exact mask11_x hk
 | 12,_,hk=>exact mask12_x hk
 | 13,_,hk=>exact mask13_x hk
 | 14,_,hk=>exact mask14_x hk
 | f+15,hf,_=>exact absurd hf (by omega)
theorem fixed_x (i:Nat) (hi:i<98) (hk:K (.tuple #[wx (maskN i),wx (isN i)]) h):X Tryz.prog 114 #[.int .i64 ((i+1:Nat):Int)] h K:=by
 obtain ⟨e1,e2⟩:=fixed_eq i hi
 obtain ⟨l1,l2,l3⟩:=code_lt i hi
 rw [← e1,← e2] at hk
 have hl:=fmtN_lt ((i+1:Nat):Int)
 refine fnv (args:=_) mixed [] [] [] Tryz.func114 rfl (by kernel_rfl) ?_;conv=>whnf
 refine code_x i hi ?_
 conv=>whnf
 refine fmt_x _ ?_
 generalize fmtN ((i+1:Nat):Int)=f at hk hl ⊢
 generalize codeN i=t at hk l1 l2 l3 ⊢
 conv=>whnf
 refine bsel_intro (fun q1=>?_) (fun q1=>?_) <;> try simp only [bsL] at q1
 ·rw [if_pos (by omega)] at hk
  conv=>whnf
  refine mask_x f hl ?_
  conv=>whnf
  exact hk
 ·rw [if_neg (by omega)] at hk
  conv=>whnf
  refine mask_x f hl ?_
  conv=>whnf
  refine ov_by (shl32 t.2.1 12 (by decide)) ?_
  conv=>whnf
  refine val_by (or32 l1 (Nat.mod_lt _ (by decide))) ?_;conv=>whnf
  refine ov_by (shl32 t.2.2 25 (by decide)) ?_
  conv=>whnf
  refine val_by (or32 (Nat.or_lt_two_pow l1 (Nat.mod_lt _ (by decide))) (Nat.mod_lt _ (by decide))) ?_;conv=>whnf
  exact hk
end
end Go.Proofs.YtdhkjcdneidgaaaGreatDoor

namespace Go.Proofs.YtdhkjcdneidgaaaGreatDoor
set_option linter.unusedSimpArgs false
set_option linter.unusedVariables false
set_option linter.unusedSimpArgs false
set_option linter.unusedVariables false
open Go Go.Mid Go.RowKit Go.Bits
attribute [local irreducible] mid
theorem mask_lt:∀ i:Nat,i<98→maskN i<2 ^ 32∧isN i<2 ^ 32:=by decide +kernel
theorem and_bit (a b i:Nat):bitN (a &&& b) i=min (bitN a i) (bitN b i):=by
 rw [bit_eq,bit_eq,bit_eq,Nat.testBit_and]
 cases a.testBit i <;> cases b.testBit i <;> rfl
section
set_option maxHeartbeats 8000000
set_option maxRecDepth 10000
variable {h:Hp} {K:Value→Hp→Prop}
end
end Go.Proofs.YtdhkjcdneidgaaaGreatDoor

namespace Go.Mid
set_option linter.unusedSimpArgs false
set_option linter.unusedVariables false
set_option linter.unusedSimpArgs false
set_option linter.unusedVariables false
open Go Go.RowKit
section
variable {P:Program} {kt:TypeId} {α:Type} [DecidableEq α] {enc:α→Value}
def MapB (enc:α→Value) (f:α→Option Value) (n:Nat) (o:Obj):Prop :=
 ∃ (l:List (α×Value×Nat)) (c:Nat),o=.map (ents enc l).toArray c∧(l.map (·.1)).Nodup∧(∀ a,getL a l=f a)∧(l.map (·.2.2)).Nodup∧(∀ x ∈ l,x.2.2<c)∧l.length=n
theorem MapB.nil:MapB enc (fun _=>none) 0 (.map #[] 0):=⟨[],0,rfl,List.nodup_nil,fun _=>rfl,List.nodup_nil,fun _ h=>by (cases h),rfl⟩
theorem MapB.o {f:α→Option Value} {n:Nat} {o:Obj} (m:MapB enc f n o):MapO enc f o:=by
 obtain ⟨l,c,e,h1,h2,_⟩:=m
 exact ⟨l,c,e,h1,h2⟩
theorem MapB.look {t:TypeId} {el:TypeId} {z:Value} {f:α→Option Value} {n:Nat} {h:Hp} {b:Nat} {o:Obj} (ht:P.underlying t=some (.map kt el)) (hz:zeroT P el=some z) (K:KeyT P kt enc) (hb:h b=some o) (m:MapB enc f n o) (a:α) (ok:Bool) :
  lookH P t h (.map (some b)) (enc a) ok=some (lookR ok (f a) z):=m.o.look ht hz K hb a ok
theorem MapB.len {t el:TypeId} {f:α→Option Value} {n:Nat} {h:Hp} {b:Nat} {o:Obj} (ht:P.underlying t=some (.map kt el)) (hb:h b=some o) (m:MapB enc f n o):lenH P t h (.map (some b))=some (.int .i64 n):=by
 obtain ⟨l,c,rfl,_,_,_,_,e⟩:=m
 unfold lenH
 simp only [ht,hb,ents,List.size_toArray,List.length_map,e]
omit [DecidableEq α] in
theorem stamp_set {l:List (α×Value×Nat)} {j:Nat} {a:α} {v v':Value} {n:Nat} (hj:l[j]? = some (a,v',n)):(l.set j (a,v,n)).map (·.2.2)=l.map (·.2.2):=by
 have hlt:j<l.length:=(List.getElem?_eq_some_iff.1 hj).1
 have hje:l[j]=(a,v',n):=by have:=List.getElem?_eq_getElem hlt;rw [hj] at this;exact (Option.some.inj this).symm
 rw [List.map_set]
 apply List.ext_getElem?
 intro i
 rw [List.getElem?_set]
 split
 ·rename_i h1;subst h1;simp [hlt,hje]
 ·rfl
omit [DecidableEq α] in
theorem key_set {l:List (α×Value×Nat)} {j:Nat} {a:α} {v v':Value} {n:Nat} (hj:l[j]? = some (a,v',n)):(l.set j (a,v,n)).map (·.1)=l.map (·.1):=by
 have hlt:j<l.length:=(List.getElem?_eq_some_iff.1 hj).1
 have hje:l[j]=(a,v',n):=by have:=List.getElem?_eq_getElem hlt;rw [hj] at this;exact (Option.some.inj this).symm
 rw [List.map_set]
 apply List.ext_getElem?
 intro i
 rw [List.getElem?_set]
 split
 ·rename_i h1;subst h1;simp [hlt,hje]
 ·rfl
def putN (f:α→Option Value) (a:α) (n:Nat):Nat:=if (f a).isSome then n else n+1
theorem MapB.upd {t:TypeId} {el:TypeId} {f:α→Option Value} {n:Nat} {h:Hp} {b:Nat} {o:Obj} (ht:P.underlying t=some (.map kt el)) (K:KeyT P kt enc) (hb:h b=some o) (m:MapB enc f n o) (a:α) (v:Value) :
  ∃ o',updH P t h (.map (some b)) (enc a) v=some (b,o')∧MapB enc (putF f a (some v)) (putN f a n) o':=by
 obtain ⟨l,c,rfl,hn,hf,hs,hc,hlen⟩:=m
 obtain ⟨d,hd⟩:=K.under
 unfold updH
 simp only [ht,hd,K.key,hb,findV_ents K]
 cases hq:findL a l 0 with
 | none =>
  have hnot:=findL_none a l 0 hq
  have hfa:f a=none:=by rw [← hf,getL_nil hnot]
  refine ⟨_,rfl,l++[(a,v,c)],c+1,?_,?_,fun x=>?_,?_,?_,?_⟩
  ·simp [ents]
  ·rw [List.map_append]
   exact List.nodup_append.2 ⟨hn,by simp,fun x hx y hy=>by simp only [List.map_cons,List.map_nil,List.mem_singleton] at hy;subst hy;exact fun e=>hnot (e ▸ hx)⟩
  ·rw [getL_app _ _ _ _ _ hnot,hf];rfl
  ·rw [List.map_append]
   refine List.nodup_append.2 ⟨hs,by simp,fun x hx y hy=>?_⟩
   simp only [List.map_cons,List.map_nil,List.mem_singleton] at hy
   subst hy
   obtain ⟨z,hz,rfl⟩:=List.mem_map.1 hx
   have:=hc z hz
   omega
  ·intro x hx
   rcases List.mem_append.1 hx with hx | hx
   ·have:=hc x hx;omega
   ·simp only [List.mem_singleton] at hx;subst hx;exact Nat.lt_succ_self _
  ·rw [List.length_append,hlen]
   unfold putN
   rw [hfa]
   rfl
 | some jv =>
  obtain ⟨j,v'⟩:=jv
  obtain ⟨_,n',hj⟩:=findL_spec a l 0 j v' hq
  rw [Nat.sub_zero] at hj
  have hlt:j<l.length:=(List.getElem?_eq_some_iff.1 hj).1
  have hje:l[j]=(a,v',n'):=by have:=List.getElem?_eq_getElem hlt;rw [hj] at this;exact (Option.some.inj this).symm
  have hej:(ents enc l).toArray[j]? = some ⟨enc a,v',n'⟩:=by simp [ents,hj]
  have hfa:f a=some v':=by rw [← hf,← findL_get a l 0,hq];rfl
  simp only [hej,Option.map_some,Option.getD_some,K.same,if_true]
  refine ⟨_,rfl,l.set j (a,v,n'),c,?_,?_,fun x=>?_,?_,?_,?_⟩
  ·congr 1
   apply Array.ext_getElem?
   intro i
   rw [Array.getElem?_modify]
   simp only [List.getElem?_toArray,ents,List.map_set,List.getElem?_set,List.getElem?_map,List.length_map]
   by_cases hij:j=i
   ·subst hij;simp [hlt,hje]
   ·simp [hij]
  ·rw [key_set hj];exact hn
  ·rw [getL_set x a v v' n' n' l j hn hj,hf];rfl
  ·rw [stamp_set hj];exact hs
  ·intro x hx
   rcases List.mem_or_eq_of_mem_set hx with hx | hx
   ·exact hc x hx
   ·subst hx;exact hc (a,v',n') (List.mem_of_getElem? hj)
  ·rw [List.length_set,hlen]
   unfold putN
   rw [hfa]
   rfl
omit [DecidableEq α] in
omit [DecidableEq α] in
omit [DecidableEq α] in
theorem find_born:∀ {l:List (α×Value×Nat)} {x:α×Value×Nat},(l.map (·.2.2)).Nodup→x ∈ l→(ents enc l).find? (fun e=>e.born==x.2.2)=some ⟨enc x.1,x.2.1,x.2.2⟩
 | [],x,_,h=>by cases h
 | y :: l,x,hn,h=>by
  simp only [List.map_cons,List.nodup_cons] at hn
  unfold ents
  rw [List.map_cons,List.find?_cons]
  rcases List.mem_cons.1 h with rfl | h
  ·simp
  ·have hne:¬ y.2.2=x.2.2:=fun e=>hn.1 (List.mem_map.2 ⟨x,h,e.symm⟩)
   have e1:((y.2.2:Nat)==x.2.2)=false:=by simpa using hne
   simp only [e1]
   exact find_born hn.2 h
def Itr (enc:α→Value) (f:α→Option Value) (n:Nat) (h:Hp) (it m:Nat) (ks:List α):Prop :=
 ∃ (l:List (α×Value×Nat)) (c since last:Nat) (seen:Array Nat),h m=some (.map (ents enc l).toArray c)∧h it=some (.mapIter (some m) since seen last)∧(l.map (·.1)).Nodup∧(∀ a,getL a l=f a)∧(l.map (·.2.2)).Nodup ∧
  (∀ x ∈ l,x.2.2<since)∧c=last∧since≤c∧l.length=n∧ks.Nodup∧(∀ x ∈ l,x.1 ∈ ks↔x.2.2 ∈ seen)∧(∀ a ∈ ks,a ∈ l.map (·.1))∧∀ a,ks.getLast? = some a→∃ x ∈ l,x.1=a∧seen.back? = some x.2.2
theorem Itr.agree {f:α→Option Value} {n:Nat} {h h':Hp} {it m:Nat} {ks:List α} (i:Itr enc f n h it m ks) (h1:h' it=h it) (h2:h' m=h m):Itr enc f n h' it m ks:=by
 obtain ⟨l,c,s,la,se,e1,e2,r⟩:=i
 exact ⟨l,c,s,la,se,h2.trans e1,h1.trans e2,r⟩
theorem Itr.le {f:α→Option Value} {n:Nat} {h h':Hp} {it m:Nat} {ks:List α} (i:Itr enc f n h it m ks) (hle:h.le h'):Itr enc f n h' it m ks:=by
 obtain ⟨l,c,s,la,se,e1,e2,r⟩:=i
 exact ⟨l,c,s,la,se,hle _ _ e1,hle _ _ e2,r⟩
theorem Itr.known {f:α→Option Value} {n:Nat} {h:Hp} {it m:Nat} {ks:List α} (i:Itr enc f n h it m ks):∃ o1 o2,h it=some o1∧h m=some o2:=by
 obtain ⟨l,c,s,la,se,e1,e2,r⟩:=i
 exact ⟨_,_,e2,e1⟩
theorem getL_of_mem {l:List (α×Value×Nat)} (hn:(l.map (·.1)).Nodup) {x:α×Value×Nat} (hx:x ∈ l):getL x.1 l=some x.2.1:=by
 induction l with
 | nil=>cases hx
 | cons y l ih =>
  simp only [List.map_cons,List.nodup_cons] at hn
  unfold getL
  rcases List.mem_cons.1 hx with rfl | hx
  ·rw [if_pos rfl]
  ·rw [if_neg (fun e=>hn.1 (by rw [← e];exact List.mem_map.2 ⟨x,hx,rfl⟩))]
   exact ih hn.2 hx
theorem getL_mem {a:α}:∀ {l:List (α×Value×Nat)},a ∈ l.map (·.1)→getL a l≠none
 | [],h=>by cases h
 | y :: l,h=>by
  unfold getL
  split
  ·simp
  ·rename_i hne
   simp only [List.map_cons,List.mem_cons] at h
   exact getL_mem (h.resolve_left hne)
theorem Itr.told {f:α→Option Value} {n:Nat} {h:Hp} {it m:Nat} {ks:List α} (i:Itr enc f n h it m ks):ks.Nodup∧∀ a ∈ ks,f a≠none:=by
 obtain ⟨l,c,s,la,se,e1,e2,hn,hf,hs,hlt,hla,hlc,hlen,hk,hks,hin,hlast⟩:=i
 exact ⟨hk,fun a ha=>by rw [← hf];exact getL_mem (hin a ha)⟩
theorem Itr.count {f:α→Option Value} {n:Nat} {h:Hp} {it m:Nat} {ks:List α} (i:Itr enc f n h it m ks):ks.length≤n:=by
 obtain ⟨l,c,s,la,se,e1,e2,hn,hf,hs,hlt,hla,hlc,hlen,hk,hks,hin,hlast⟩:=i
 have:=hk.length_le_of_subset (l₂:=l.map (·.1)) (fun _=>hin _)
 rw [List.length_map] at this
 omega
theorem inj_of_nodup {β γ:Type} {g:β→γ}:∀ {l:List β},(l.map g).Nodup→∀ {x y:β},x ∈ l→y ∈ l→g x=g y→x=y
 | [],_,_,_,hx,_,_=>by cases hx
 | z :: l,hn,x,y,hx,hy,e=>by
  simp only [List.map_cons,List.nodup_cons] at hn
  rcases List.mem_cons.1 hx with h1 | h1
  ·rcases List.mem_cons.1 hy with h2 | h2
   ·rw [h1,h2]
   ·exact absurd (List.mem_map.2 ⟨y,h2,by rw [← e,h1]⟩) hn.1
  ·rcases List.mem_cons.1 hy with h2 | h2
   ·exact absurd (List.mem_map.2 ⟨x,h1,by rw [e,h2]⟩) hn.1
   ·exact inj_of_nodup hn.2 h1 h2 e
theorem mid_chooseN {P:Program} {n:Nat} {h:Hp} {K:Nat→Hp→Prop} (hn:0<n) (hk:∀ i,i<n→K i h):mid P (choose (.mapNext n)) h K:=by
 unfold choose
 simp only [mid]
 split
 ·exact hk 0 hn
 ·exact fun t=>hk (t % n) (Nat.mod_lt _ hn)
theorem range_map {t el:TypeId} {f:α→Option Value} {n:Nat} {ρ:Operand→Value} {o:Oper} {x:Operand} {m:Nat} {ob:Obj} {h:Hp} {K:Next→Hp→Prop}
  (ho:o.op=.range t x) (ht:P.underlying t=some (.map kt el)) (hx:ρ x=.map (some m)) (hb:h m=some ob) (hm:MapB enc f n ob)
  (hk:∀ it h',h it=none→h.le h'→(∀ c,c≠it→h' c=h c)→Itr enc f n h' it m []→K (.value (.pointer (some ⟨it,0,none⟩))) h'):semK P (execOp ρ o) h K:=by
 obtain ⟨l,c,rfl,hn,hf,hs,hc,hlen⟩:=hm
 refine ⟨?_⟩
 have e:execOp ρ o=(Instr.range t (.map (some m)) >>= fun v=>Pure.pure (Next.value v)):=by
  unfold execOp
  simp only [ho,hx]
 rw [e]
 refine mid_bind2 ?_
 unfold Instr.range
 refine mid_bind2 ?_
 refine mid_bind2 (mid_underlying ht ?_)
 refine mid_bind2 ?_
 show mid P (getObj m) h _
 unfold getObj
 simp only [mid,hb]
 refine mid_bind2 ?_
 show ∀ b,h b=none→_
 intro b hbn
 refine hk b _ hbn (Hp.le_set hbn) (fun c hc=>Hp.set_other _ _ hc) ⟨l,c,c,c,#[],?_,Hp.set_same _ _ _,hn,hf,hs,hc,rfl,Nat.le_refl _,hlen,List.nodup_nil,fun x _=>by simp,fun a ha=>(by cases ha),fun a ha=>by cases ha⟩
 rw [Hp.set_other _ _ (Hp.ne hbn hb)]
 exact hb
theorem next_map {f:α→Option Value} {n:Nat} {ρ:Operand→Value} {o:Oper} {x:Operand} {it m:Nat} {ks:List α} {h:Hp} {K:Next→Hp→Prop}
  (ho:o.op=.next x false) (hx:ρ x=.pointer (some ⟨it,0,none⟩)) (i:Itr enc f n h it m ks)
  (hk:∀ a v h',f a=some v→a ∉ ks→ks.length<n→(∀ c,c≠it→h' c=h c)→Itr enc f n h' it m (ks++[a])→K (.value (.tuple #[.bool true,enc a,v])) h')
  (he:(∀ a,f a≠none→a ∈ ks)→K (.value (.tuple #[.bool false])) h):semK P (execOp ρ o) h K:=by
 have hcount:=i.count
 obtain ⟨l,c,since,last,seen,e1,e2,hn,hf,hs,hlt,hla,hlc,hlen,hkn,hks,hin,hlast⟩:=i
 refine ⟨?_⟩
 have e:execOp ρ o=(Instr.next (.pointer (some ⟨it,0,none⟩)) false o.type >>= fun v=>Pure.pure (Next.value v)):=by
  unfold execOp
  simp only [ho,hx]
 rw [e]
 refine mid_bind2 ?_
 unfold Instr.next
 simp only []
 refine mid_bind2 ?_
 unfold getObj
 simp only [mid,e2]
 refine mid_bind2 ?_
 simp only [mid,e1]
 have hall:¬ ((!seen.isEmpty && !(ents enc l).toArray.isEmpty && (ents enc l).toArray.all (fun e=>decide (e.born ≥ last)))=true):=by
  intro hh
  simp only [Bool.and_eq_true] at hh
  obtain ⟨⟨_,h2⟩,h3⟩:=hh
  cases l with
  | nil=>simp [ents] at h2
  | cons y l =>
   rw [Array.all_eq_true_iff_forall_mem] at h3
   have:=h3 ⟨enc y.1,y.2.1,y.2.2⟩ (by simp [ents])
   simp only [decide_eq_true_eq] at this
   have:=hlt y (by simp)
   omega
 rw [if_neg hall]
 have eNew:(((ents enc l).toArray.filter fun e=>!seen.contains e.born).filter fun e=>decide (e.born ≥ since))=#[]:=by
  apply Array.eq_empty_of_size_eq_zero
  rw [Array.size_eq_zero_iff,Array.filter_eq_empty_iff]
  intro x hx
  have hx:=(Array.mem_filter.1 hx).1
  simp only [ents,List.mem_toArray,List.mem_map] at hx
  obtain ⟨y,hy,rfl⟩:=hx
  have:=hlt y hy
  simp;omega
 simp only [eNew,Array.append_empty]
 obtain ⟨old,hold⟩:∃ old,old=(((ents enc l).toArray.filter fun e=>!seen.contains e.born).filter fun e=>decide (e.born<since)):=⟨_,rfl⟩
 rw [← hold]
 have hmem:∀ e,e ∈ old→∃ y ∈ l,e=⟨enc y.1,y.2.1,y.2.2⟩∧y.2.2 ∉ seen:=by
  intro e he
  rw [hold] at he
  have h1:=(Array.mem_filter.1 he).1
  have h2:=Array.mem_filter.1 h1
  have h3:=h2.1
  simp only [ents,List.mem_toArray,List.mem_map] at h3
  obtain ⟨y,hy,rfl⟩:=h3
  exact ⟨y,hy,rfl,by simpa using h2.2⟩
 have hmem2:∀ y ∈ l,y.2.2 ∉ seen→(⟨enc y.1,y.2.1,y.2.2⟩:MapEntry) ∈ old:=by
  intro y hy hns
  rw [hold]
  refine Array.mem_filter.2 ⟨Array.mem_filter.2 ⟨by simp only [ents,List.mem_toArray,List.mem_map];exact ⟨y,hy,rfl⟩,by simpa using hns⟩,?_⟩
  have:=hlt y hy
  simpa using this
 have step:∀ e,e ∈ old→mid P (match (some (some e):Option (Option MapEntry)) with
   | some (some e)=>(do
    setObj it (.mapIter (some m) since (seen.push e.born) c)
    pure (.tuple #[.bool true,e.key,e.val]):Sem Value)
   | some none=>pure (.tuple #[.bool false])
   | none => stuck "Next: no such candidate") h fun v g => mid P (Pure.pure (Next.value v)) g K := by
  intro e he
  obtain ⟨y,hy,rfl,hns⟩:=hmem e he
  simp only []
  refine mid_bind2 ?_
  unfold setObj
  simp only [mid,e2]
  have hny:y.1 ∉ ks:=fun hh=>hns ((hks y hy).1 hh)
  have hfy:f y.1=some y.2.1:=by rw [← hf];exact getL_of_mem hn hy
  have hne:m≠it:=fun hh=>by rw [hh,e2] at e1;cases e1
  have hsub:(ks++[y.1]).Nodup:=List.nodup_append.2 ⟨hkn,by simp,fun a ha b hb=>by simp only [List.mem_singleton] at hb;subst hb;exact fun e=>hny (e ▸ ha)⟩
  have hin2:∀ a ∈ ks++[y.1],a ∈ l.map (·.1):=fun a ha=>by
   rcases List.mem_append.1 ha with ha | ha
   ·exact hin a ha
   ·simp only [List.mem_singleton] at ha;subst ha;exact List.mem_map.2 ⟨y,hy,rfl⟩
  have hcnt:(ks++[y.1]).length≤l.length:=by
   have:=hsub.length_le_of_subset (l₂:=l.map (·.1)) (fun _=>hin2 _)
   rwa [List.length_map] at this
  rw [List.length_append] at hcnt
  refine hk y.1 y.2.1 _ hfy hny (by simp only [List.length_singleton] at hcnt;omega) (fun c hc=>Hp.set_other _ _ hc) ⟨l,c,since,c,seen.push y.2.2,by rw [Hp.set_other _ _ hne];exact e1,Hp.set_same _ _ _,hn,hf,hs,hlt,rfl,hlc,hlen,hsub,?_,hin2,fun a ha=>⟨y,hy,by rw [List.getLast?_append] at ha;simpa using ha,by simp⟩⟩
  ·intro x hx
   rw [List.mem_append,Array.mem_push,hks x hx,List.mem_singleton]
   constructor
   ·rintro (h1 | h1)
    ·exact .inl h1
    ·exact .inr (by rw [inj_of_nodup hn hx hy h1])
   ·rintro (h1 | h1)
    ·exact .inl h1
    ·exact .inr (by rw [inj_of_nodup hs hx hy h1])
 refine mid_bind2 ?_
 by_cases hemp:old=#[]
 ·subst hemp
  refine mid_chooseN (by simp) fun i hi=>?_
  have hi0:i=0:=by simp at hi;exact hi
  subst hi0
  have e0:((if (#[]:Array MapEntry).isEmpty=true then (#[none]:Array (Option MapEntry)) else #[])++Array.map some (#[]:Array MapEntry))[0]? = some none:=by simp
  rw [e0]
  show K (.value (.tuple #[.bool false])) h
  refine he fun a ha=>?_
  rw [← hf] at ha
  have hmm:a ∈ l.map (·.1):=Classical.byContradiction fun hh=>ha (getL_nil hh)
  obtain ⟨y,hy,rfl⟩:=List.mem_map.1 hmm
  refine (hks y hy).2 (Classical.byContradiction fun hh=>?_)
  have:=hmem2 y hy hh
  simp at this
 ·have hne2:old.isEmpty=false:=by simpa using hemp
  rw [hne2]
  simp only [Bool.false_eq_true,if_false,Array.empty_append]
  have hpos:0<old.size:=Array.size_pos_iff.2 hemp
  refine mid_chooseN (by simpa using hpos) fun i hi=>?_
  rw [Array.size_map] at hi
  have e5:(old.map some)[i]? = some (some old[i]):=by simp [hi]
  rw [e5]
  exact step _ (Array.getElem_mem hi)
theorem entry_map {f:α→Option Value} {n:Nat} {ρ:Operand→Value} {o:Oper} {x:Operand} {it m:Nat} {ks:List α} {a:α} {h:Hp} {K:Next→Hp→Prop}
  (ho:o.op=.entry x) (hx:ρ x=.pointer (some ⟨it,0,none⟩)) (i:Itr enc f n h it m (ks++[a])) (hk:∀ v,f a=some v→K (.value (.tuple #[enc a,v])) h):semK P (execOp ρ o) h K:=by
 obtain ⟨l,c,since,last,seen,e1,e2,hn,hf,hs,hlt,hla,hlc,hlen,hkn,hks,hin,hlast⟩:=i
 obtain ⟨y,hy,rfl,hback⟩:=hlast a (by simp)
 refine ⟨?_⟩
 have e:execOp ρ o=(Instr.entry (.pointer (some ⟨it,0,none⟩)) >>= fun v=>Pure.pure (Next.value v)):=by
  unfold execOp
  simp only [ho,hx]
 rw [e]
 refine mid_bind2 ?_
 unfold Instr.entry
 simp only []
 refine mid_bind2 ?_
 unfold getObj
 simp only [mid,e2]
 rw [hback]
 simp only []
 refine mid_bind2 ?_
 simp only [mid,e1]
 have hcl:(c != last)=false:=by simp [hla]
 rw [hcl]
 have hfind:(ents enc l).toArray.find? (fun e=>e.born==y.2.2)=some ⟨enc y.1,y.2.1,y.2.2⟩:=by
  rw [List.find?_toArray]
  exact find_born hs hy
 simp only [Bool.false_eq_true,if_false,hfind]
 exact hk y.2.1 (by rw [← hf];exact getL_of_mem hn hy)
end
theorem Owns.put {k h h':Hp} {el size n:Nat} {s:Value} {cs:List Value} {b:Nat} {o o':Obj} (w:Owns k h el size s n cs) (hb:k b=some o) (hat:h' b=some o') (hot:∀ c,c≠b→h' c=h c):Owns (k.set b o') h' el size s n cs:=by
 obtain ⟨ob,g,hle,hno⟩:=w
 have hne:∀ c,ob=some c→c≠b:=fun c hc e=>by
  have:=hno c hc
  rw [e,hb] at this;cases this
 refine ⟨ob,g.agree fun x hx=>hot x (hne x hx),fun c x e=>?_,fun c hc=>?_⟩
 ·by_cases hcb:c=b
  ·subst hcb;rw [Hp.set_same] at e;cases e;exact hat
  ·rw [Hp.set_other _ _ hcb] at e;rw [hot c hcb];exact hle _ _ e
 ·rw [Hp.set_other _ _ (hne c hc)];exact hno c hc
theorem storeCA {P:Program} {t el:TypeId} {k:Nat} {a:Addr} {b:Nat} (ha:a=⟨b,k,none⟩) (ht:sizeT P t=some 1) {h:Hp} {l l':List Value} {z:Value} (hb:h b=some (rowO el l)) (hk:k<l.length) (hl:l.set k z=l') (hz:z.cells.toList=[z]) (h1:z.oneCell'=true):storeH P t h a z=some (b,rowO el l'):=by
 subst ha hl
 exact storeH_row ht hb hk hz h1
end Go.Mid
