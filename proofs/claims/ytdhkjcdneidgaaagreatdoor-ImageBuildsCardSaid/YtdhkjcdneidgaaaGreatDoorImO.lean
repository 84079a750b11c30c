/-
  Images: parts that grow, the last one's bytes, too.
-/
import Derived.Test.YtdhkjcdneidgaaaGreatDoorImH
import Derived.Test.YtdhkjcdneidgaaaGreatDoorImN
import Derived.Test.YtdhkjcdneidgaaaGreatDoorImW
import Derived.Test.YtdhkjcdneidgaaaGreatDoorAsM
import Derived.Test.YtdhkjcdneidgaaaGreatDoorImS
set_option linter.unusedSimpArgs false
set_option linter.unusedVariables false
set_option maxHeartbeats 8000000
set_option maxRecDepth 10000
set_option linter.unusedSimpArgs false
set_option linter.unusedVariables false
namespace Go.Proofs.YtdhkjcdneidgaaaGreatDoor
open Go Go.Mid Go.RowKit Go.Bits
abbrev rfXImI0:Go.Mid.RF:=[(2,2),(19,2),(3,3),(10,3),(14,3),(25,3),(29,3),(33,3),(36,3),(38,3),(41,3),(45,3),(49,3),(52,3),(26,3),(50,3)]
attribute [local irreducible] mid
def insY (p:Pc) (k:Nat):Ins:=if p.nm=[] then p.x else { p.x with m:=i64N ((k+2 ^ 64 - p.at_) % 2 ^ 64) }
theorem rawP_none {l:List (Str×Nat)} {p:Pc} (h:p.nm≠[]) (h2:findL l p.nm=none):rawP l p=.error 6:=by
 unfold rawP
 rw [if_neg h,h2]
theorem rawP_some {l:List (Str×Nat)} {p:Pc} {k:Nat} (h:(if p.nm=[] then some 0 else findL l p.nm)=some k):rawP l p=if p.x.op=0 then .ok (eightN (if p.nm=[] then u64N p.num else k) p.n) else if (insY p k).chk=0 then .ok (eightN (encW (insY p k)) 4) else .error 3:=by
 unfold rawP
 rw [h]
 rfl
theorem i64N_in {w:Nat} (h:w<2 ^ 64) : -9223372036854775808≤i64N w∧i64N w≤9223372036854775807:=by
 unfold i64N
 split <;> omega
theorem i64_wrap {w:Nat} (h:w<2 ^ 64):IntKind.i64.wrap (w:Int)=i64N w:=by
 unfold IntKind.wrap i64N
 simp [IntKind.signed,IntKind.bits]
 split <;> split <;> omega
section
variable {h:Hp} {K:Value→Hp→Prop}
theorem rraw_x {k:Hp} {b:Bd} {sP sL sT:Value} {oP oL:Option Nat} (d:Dbo k h b sP sL sT oP oL) (hll:b.lbs.length≤2 ^ 19) (hlv:∀ l ∈ b.lbs,l.2<2 ^ 64) (p:Pc) (hp:POk p) (hk0:∀ e,rawP b.lbs p=.error e→K (.tuple #[.slice none 0 0,.int .i64 e]) h) (hk:∀ l s h',rawP b.lbs p=.ok l→Owns h h' 5 1 s l.length (l.map byV)→K (.tuple #[s,.int .i64 0]) h'):X Tryz.prog 26 #[rbV b sP sL sT,.agg (rpC p).toArray] h K:=by
 obtain ⟨pa,pc,rfl⟩:=grSl d.gP
 obtain ⟨ta,tc,rfl⟩:=rdSl d.rT
 obtain ⟨la,lc,rfl,fL⟩:=lb_load d.gL
 have hm1:=hp.m1
 have hm2:=hp.m2
 have hat:=hp.at_
 have hn:=hp.n
 refine fnv (args:=_) mixed rfXImI0 [] [] Tryz.func26 rfl (by kernel_rfl) (cw_ ?_)
 refine seq_intro (b:=[]) ?_
 by_cases hnm:p.nm=[]
 ·rw [decide_eq_true hnm]
  have HK:(if p.nm=[] then some 0 else findL b.lbs p.nm)=some 0:=if_pos hnm
  conv=>whnf
  rw [rawP_some HK] at hk0 hk
  rw [show insY p 0=p.x from if_pos hnm] at hk0 hk
  by_cases q1:p.x.op=0
  ·rw [if_pos q1,if_pos hnm] at hk
   refine bt_ ?_
   refine seq_intro (b:=[]) ?_
   rw [decide_eq_true hnm]
   conv=>whnf
   refine reight_x (u64N p.num) p.n (u64N_lt _) (by omega) fun s8 h8 hO8=>?_
   obtain ⟨sa,sc,rfl⟩:=hO8.shape
   conv=>whnf
   exact hk _ _ h8 rfl (by rw [eight_len];exact hO8)
  ·rw [if_neg q1] at hk hk0
   refine bf_ ?_
   refine seq_intro (b:=[]) ?_
   rw [decide_eq_true hnm]
   conv=>whnf
   obtain ⟨y,hy⟩:∃ y:Ins,y=p.x:=⟨_,rfl⟩
   rw [← hy] at hk hk0
   have hyr : -9223372036854775808≤y.m∧y.m≤9223372036854775807:=by rw [hy];exact ⟨hm1,hm2⟩
   have C:∀ {K:Value→Hp→Prop},K (.tuple #[uv (if y.chk=0 then encS y else 0),.int .i64 y.chk]) h→X Tryz.prog 55 #[.agg (p.x:Ins).cs.toArray] h K:=fun hK=>by rw [← hy];exact rencode_x y hyr.1 hyr.2 hK
   refine C ?_
   by_cases hc:y.chk=0
   ·rw [if_pos hc] at hk
    rw [if_pos hc,hc,enc_eq hc]
    have hlt:=enc_lt hc
    conv=>whnf
    refine reight_x (encW y) 4 (Nat.lt_of_lt_of_le hlt (by decide)) (by decide) fun s8 h8 hO8=>?_
    obtain ⟨sa,sc,rfl⟩:=hO8.shape
    conv=>whnf
    exact hk _ _ h8 rfl (by rw [eight_len];exact hO8)
   ·rw [if_neg hc] at hk0
    rw [if_neg hc]
    generalize y.chk=ck at hc ⊢
    conv=>whnf
    refine bt_ ?_
    exact hk0 3 rfl
 ·rw [decide_eq_false hnm]
  conv=>whnf
  refine rlabel_x d (by omega) p.nm ?_
  have hix:=idxL_find b.lbs p.nm
  cases hid:idxL b.lbs p.nm with
  | none =>
   rw [hid] at hix
   rw [show toI none = -1 from rfl]
   conv=>whnf
   exact hk0 6 (rawP_none hnm hix)
  | some j =>
   have hj:=idxL_lt _ _ _ hid
   obtain ⟨e,he⟩:∃ e,b.lbs[j]? = some e:=⟨_,List.getElem?_eq_getElem hj⟩
   rw [hid] at hix
   have hix:findL b.lbs p.nm=(b.lbs[j]?).map (·.2):=hix
   rw [he] at hix
   have hix:findL b.lbs p.nm=some e.2:=hix
   have hev:=hlv e (List.mem_of_getElem? he)
   obtain ⟨a,rfl,ca⟩:=fL j e he
   have HK:(if p.nm=[] then some 0 else findL b.lbs p.nm)=some e.2:=by rw [if_neg hnm,hix]
   rw [show toI (some j)=(j:Int) from rfl]
   conv=>whnf
   refine n_ ?_
   refine ⟨_,(loadH_cell aggU6 _ _).trans (ca 1 _ rfl),cw_ ?_⟩
   rw [rawP_some HK] at hk0 hk
   rw [show insY p e.2={ p.x with m:=i64N ((e.2+2 ^ 64 - p.at_) % 2 ^ 64) } from if_neg hnm] at hk0 hk
   by_cases q1:p.x.op=0
   ·rw [if_pos q1,if_neg hnm] at hk
    refine bt_ ?_
    refine seq_intro (b:=[]) ?_
    rw [decide_eq_false hnm]
    conv=>whnf
    refine reight_x e.2 p.n hev (by omega) fun s8 h8 hO8=>?_
    obtain ⟨sa,sc,rfl⟩:=hO8.shape
    conv=>whnf
    exact hk _ _ h8 rfl (by rw [eight_len];exact hO8)
   ·rw [if_neg q1] at hk hk0
    refine bf_ ?_
    refine seq_intro (b:=[]) ?_
    rw [decide_eq_false hnm]
    conv=>whnf
    refine ov_by (show IntKind.u64.wrap ((e.2:Int) - (p.at_:Int))=(((e.2+2 ^ 64 - p.at_) % 2 ^ 64:Nat):Int) by rw [toU64];omega) ?_
    conv=>whnf
    refine ov_by (i64_wrap (Nat.mod_lt _ (by decide))) (cw_ ?_)
    obtain ⟨y,hy⟩:∃ y:Ins,y={ p.x with m:=i64N ((e.2+2 ^ 64 - p.at_) % 2 ^ 64) }:=⟨_,rfl⟩
    rw [← hy] at hk hk0
    have hyr : -9223372036854775808≤y.m∧y.m≤9223372036854775807:=by rw [hy];exact ⟨(i64N_in (Nat.mod_lt _ (by decide))).1,(i64N_in (Nat.mod_lt _ (by decide))).2⟩
    have C:∀ {K:Value→Hp→Prop},K (.tuple #[uv (if y.chk=0 then encS y else 0),.int .i64 y.chk]) h→X Tryz.prog 55 #[.agg ({ p.x with m:=i64N ((e.2+2 ^ 64 - p.at_) % 2 ^ 64) }:Ins).cs.toArray] h K:=fun hK=>by rw [← hy];exact rencode_x y hyr.1 hyr.2 hK
    refine C ?_
    by_cases hc:y.chk=0
    ·rw [if_pos hc] at hk
     rw [if_pos hc,hc,enc_eq hc]
     have hlt:=enc_lt hc
     conv=>whnf
     refine reight_x (encW y) 4 (Nat.lt_of_lt_of_le hlt (by decide)) (by decide) fun s8 h8 hO8=>?_
     obtain ⟨sa,sc,rfl⟩:=hO8.shape
     conv=>whnf
     exact hk _ _ h8 rfl (by rw [eight_len];exact hO8)
    ·rw [if_neg hc] at hk0
     rw [if_neg hc]
     generalize y.chk=ck at hc ⊢
     conv=>whnf
     refine bt_ ?_
     exact hk0 3 rfl
end
end Go.Proofs.YtdhkjcdneidgaaaGreatDoor
namespace Go.Proofs.YtdhkjcdneidgaaaGreatDoor
open Go Go.Mid Go.RowKit Go.Bits
abbrev rfXImX0:Go.Mid.RF:=[(3,3),(11,3),(16,3),(24,3),(32,3),(36,3),(41,3),(44,3),(47,3),(50,3),(55,3),(59,3),(62,3),(33,3),(60,3),(5,5),(39,5),(53,5),(6,6)]
attribute [local irreducible] mid
section
variable {k h:Hp} {K:Value→Hp→Prop} {E:List PanicEntry→Hp→Prop}
theorem ibytes_x {b m tb:Nat} {x:Bd} {n:Int} {sP sL:Value} (hrow:h b=some (rowO blT (blC x n m tb sP sL))) (hmp:∃ o c,h m=some o∧MapB sv (labF x.lbs) c o) (hlv:∀ l ∈ x.lbs,l.2<2 ^ 64) (p:Pc) (hp:POk p)
  (he:∀ (e:Int) (h2:Hp),rawP x.lbs p=.error e→h2 b=some (rowO blT (blC x p.line m tb sP sL))→(∀ c,c≠b→h2 c=h c)→E [{ v:=istop e,recovered:=false }] h2)
  (hk:∀ (l:Str) (bl:Nat) (h2 h':Hp),rawP x.lbs p=.ok l→h2 b=some (rowO blT (blC x p.line m tb sP sL))→(∀ c,c≠b→h2 c=h c)→h2 bl=none→h2.le h'→(∀ c,c≠bl→h' c=h2 c)→h' bl=some (rowO 5 (l.map byV))→K (.slice (some ⟨bl,0,none⟩) l.length l.length) h'):XE Tryz.prog 47 #[.pointer (some ⟨b,0,none⟩),.agg (ipC p).toArray] h K E:=by
 have hm1:=hp.m1
 have hm2:=hp.m2
 have hat:=hp.at_
 have hn:=hp.n
 obtain ⟨om,cm,hm,hM⟩:=hmp
 have hbm:=mapNe hrow hm hM
 refine fnu (args:=_) mixed rfXImX0 [] [] [(999998,[5,14])] Tryz.func47 rfl (by kernel_rfl) (cw_ ?_)
 refine wr_intro (by exact storeC (i:=0) sizI6 hrow (show 0<6 by decide) rfl rfl) (fun h2 at_h2 ot_h2=>cw_ ?_)
 have r2:h2 b=some (rowO blT (blC x p.line m tb sP sL)):=at_h2
 have hm':h2 m=some om:=(ot_h2 m (Ne.symm hbm)).trans hm
 have he:=fun e hh=>he e h2 hh r2 ot_h2
 have hk:=fun l bl h' hh=>hk l bl h2 h' hh r2 ot_h2
 conv=>whnf
 refine seq_intro (b:=[]) ?_
 by_cases hnm:p.nm=[]
 ·rw [decide_eq_true hnm]
  have HK:(if p.nm=[] then some 0 else findL x.lbs p.nm)=some 0:=if_pos hnm
  conv=>whnf
  have he:=fun e hh=>he e hh
  rw [rawP_some HK] at he hk
  rw [show insY p 0=p.x from if_pos hnm] at he hk
  by_cases q1:p.x.op=0
  ·rw [if_pos q1,if_pos hnm] at hk
   refine bt_ ?_
   refine seq_intro (b:=[]) ?_
   rw [decide_eq_true hnm]
   conv=>whnf
   refine ov_by (show IntKind.u64.wrap p.num=((u64N p.num:Nat):Int) by rw [toU64];rfl) ?_
   conv=>whnf
   refine pgeight_x (u64N p.num) p.n (u64N_lt _) (by omega) fun bl h3 n1 l1 o1 a1=>?_
   have hK:=hk _ bl h3 rfl n1 l1 o1 a1
   rw [eight_len] at hK
   conv=>whnf
   exact hK
  ·rw [if_neg q1] at hk he
   refine bf_ ?_
   refine seq_intro (b:=[]) ?_
   rw [decide_eq_true hnm]
   conv=>whnf
   obtain ⟨y,hy⟩:∃ y:Ins,y=p.x:=⟨_,rfl⟩
   rw [← hy] at hk he
   have hyr : -9223372036854775808≤y.m∧y.m≤9223372036854775807:=by rw [hy];exact ⟨hm1,hm2⟩
   have C:∀ {K:Value→Hp→Prop},K (.tuple #[wx (if y.chk=0 then encW y else 0),.int .i64 y.chk]) h2→X Tryz.prog 82 #[.agg (p.x:Ins).cs.toArray] h2 K:=fun hK=>by rw [← hy];exact encode_x y hyr.1 hyr.2 hK
   refine C ?_
   by_cases hc:y.chk=0
   ·rw [if_pos hc] at hk
    rw [if_pos hc,hc]
    have hlt:=enc_lt hc
    conv=>whnf
    refine imust_x _ 3 (fun _=>?_) (fun hh=>(by cases hh))
    conv=>whnf
    refine ov_by (show IntKind.u64.wrap (encW y:Int)=(encW y:Int) from w64 (by omega)) (cw_ ?_)
    refine pgeight_x (encW y) 4 (by omega) (by decide) fun bl h3 n1 l1 o1 a1=>?_
    have hK:=hk _ bl h3 rfl n1 l1 o1 a1
    rw [eight_len] at hK
    conv=>whnf
    exact hK
   ·rw [if_neg hc] at he
    rw [if_neg hc]
    generalize y.chk=ck at hc ⊢
    conv=>whnf
    refine imust_x _ 3 (fun hh=>absurd (of_decide_eq_true hh) hc) (fun _=>?_)
    exact he 3 rfl
 ·rw [decide_eq_false hnm]
  have lk:=MapB.look mapLb lbZ svT hm' hM p.nm true
  unfold labF at lk
  conv=>whnf
  refine ⟨_,loadC (i:=3) aggLM r2 rfl,cw_ ?_⟩
  cases hf:findL x.lbs p.nm with
  | none =>
   rw [hf] at lk
   refine ⟨_,lk,cw_ ?_⟩
   refine imust_x _ 6 (fun hh=>(by cases hh)) (fun _=>?_)
   exact he 6 (rawP_none hnm hf)
  | some a =>
   rw [hf] at lk
   refine ⟨_,lk,cw_ ?_⟩
   refine imust_x _ 6 (fun _=>?_) (fun hh=>(by cases hh))
   conv=>whnf
   have hev:a<2 ^ 64:=by
    have hix:=idxL_find x.lbs p.nm
    rw [hf] at hix
    cases hid:idxL x.lbs p.nm with
    | none=>rw [hid] at hix;cases hix
    | some j =>
     rw [hid] at hix
     obtain ⟨e,he2⟩:∃ e,x.lbs[j]? = some e:=⟨_,List.getElem?_eq_getElem (idxL_lt _ _ _ hid)⟩
     have hix:some a=(x.lbs[j]?).map (·.2):=hix
     rw [he2] at hix
     have:=hlv e (List.mem_of_getElem? he2)
     cases hix
     exact this
   have HK:(if p.nm=[] then some 0 else findL x.lbs p.nm)=some a:=by rw [if_neg hnm,hf]
   have he:=fun e hh=>he e hh
   rw [rawP_some HK] at he hk
   rw [show insY p a={ p.x with m:=i64N ((a+2 ^ 64 - p.at_) % 2 ^ 64) } from if_neg hnm] at he hk
   by_cases q1:p.x.op=0
   ·rw [if_pos q1,if_neg hnm] at hk
    refine bt_ ?_
    refine seq_intro (b:=[]) ?_
    rw [decide_eq_false hnm]
    conv=>whnf
    refine pgeight_x a p.n hev (by omega) fun bl h3 n1 l1 o1 a1=>?_
    have hK:=hk _ bl h3 rfl n1 l1 o1 a1
    rw [eight_len] at hK
    conv=>whnf
    exact hK
   ·rw [if_neg q1] at hk he
    refine bf_ ?_
    refine seq_intro (b:=[]) ?_
    rw [decide_eq_false hnm]
    conv=>whnf
    refine ov_by (show IntKind.u64.wrap ((a:Int) - (p.at_:Int))=(((a+2 ^ 64 - p.at_) % 2 ^ 64:Nat):Int) by rw [toU64];omega) ?_
    conv=>whnf
    refine ov_by (i64_wrap (Nat.mod_lt _ (by decide))) (cw_ ?_)
    obtain ⟨y,hy⟩:∃ y:Ins,y={ p.x with m:=i64N ((a+2 ^ 64 - p.at_) % 2 ^ 64) }:=⟨_,rfl⟩
    rw [← hy] at hk he
    have hyr : -9223372036854775808≤y.m∧y.m≤9223372036854775807:=by rw [hy];exact ⟨(i64N_in (Nat.mod_lt _ (by decide))).1,(i64N_in (Nat.mod_lt _ (by decide))).2⟩
    have C:∀ {K:Value→Hp→Prop},K (.tuple #[wx (if y.chk=0 then encW y else 0),.int .i64 y.chk]) h2→X Tryz.prog 82 #[.agg ({ p.x with m:=i64N ((a+2 ^ 64 - p.at_) % 2 ^ 64) }:Ins).cs.toArray] h2 K:=fun hK=>by rw [← hy];exact encode_x y hyr.1 hyr.2 hK
    refine C ?_
    by_cases hc:y.chk=0
    ·rw [if_pos hc] at hk
     rw [if_pos hc,hc]
     have hlt:=enc_lt hc
     conv=>whnf
     refine imust_x _ 3 (fun _=>?_) (fun hh=>(by cases hh))
     conv=>whnf
     refine ov_by (show IntKind.u64.wrap (encW y:Int)=(encW y:Int) from w64 (by omega)) (cw_ ?_)
     refine pgeight_x (encW y) 4 (by omega) (by decide) fun bl h3 n1 l1 o1 a1=>?_
     have hK:=hk _ bl h3 rfl n1 l1 o1 a1
     rw [eight_len] at hK
     conv=>whnf
     exact hK
    ·rw [if_neg hc] at he
     rw [if_neg hc]
     generalize y.chk=ck at hc ⊢
     conv=>whnf
     refine imust_x _ 3 (fun hh=>absurd (of_decide_eq_true hh) hc) (fun _=>?_)
     exact he 3 rfl
end
end Go.Proofs.YtdhkjcdneidgaaaGreatDoor
namespace Go.Proofs.YtdhkjcdneidgaaaGreatDoor
open Go Go.Mid Go.RowKit Go.Bits
attribute [local irreducible] mid
abbrev u8T:TypeId:=5
structure OutS (el:TypeId) (k h:Hp) (s:Value) (A:List Pp) (z:Option Pp) (oO oZ:Option Nat):Prop where
 le:k.le h
 g:Gr h el 2 s (A++z.toList).length ((A++z.toList).flatMap Pp.cs) oO
 gz:∀ p,z=some p→Gr h u8T 1 p.sl p.b.length (p.b.map byV) oZ∧0<p.b.length∧p.at_<2 ^ 64∧p.b.length≤256
 z0:z=none→oZ=none∧A=[]
 nO:∀ c,oO=some c→k c=none
 nZ:∀ c,oZ=some c→k c=none
 okA:∀ p ∈ A,PpB k p
theorem OutS.nil {el:TypeId} {h:Hp}:OutS el h h (.slice none 0 0) [] none none none :=
 ⟨Hp.le_refl _,Gr.nil,fun p e=>(by cases e),fun _=>⟨rfl,rfl⟩,fun c e=>(by cases e),fun c e=>(by cases e),fun p hp=>(by cases hp)⟩
theorem OutS.weak0 {el:TypeId} {k h:Hp} (w:OutS el h h (.slice none 0 0) [] none none none) (hle:k.le h):OutS el k h (.slice none 0 0) [] none none none :=
 ⟨hle,w.g,w.gz,w.z0,fun c e=>(by cases e),fun c e=>(by cases e),fun p hp=>(by cases hp)⟩
theorem OutS.up {el:TypeId} {k h h':Hp} {s:Value} {A:List Pp} {z:Option Pp} {oO oZ:Option Nat} (w:OutS el k h s A z oO oZ) (hle:h.le h'):OutS el k h' s A z oO oZ :=
 ⟨Hp.le_trans w.le hle,w.g.le hle,fun p e=>⟨(w.gz p e).1.le hle,(w.gz p e).2⟩,w.z0,w.nO,w.nZ,w.okA⟩
theorem OutS.new {el:TypeId} {k h h':Hp} {s:Value} {A:List Pp} {z:Option Pp} {oO oZ:Option Nat} {b:Nat} {x:Obj} (w:OutS el k h s A z oO oZ) (hb:h b=none) (hle:h.le h') (hat:h' b=some x):k.le (k.set b x)∧OutS el (k.set b x) h' s A z oO oZ:=by
 have hkb:k b=none:=Hp.none_le w.le hb
 have w2:=w.up hle
 have off:∀ {e n s l cs o},Gr h e n s l cs o→∀ c,o=some c→c≠b:=fun g c hc e=>by
  subst e
  obtain ⟨_,⟨e,_⟩ | ⟨y,_,_,e,_,_,_,hy⟩⟩:=g
  ·rw [e] at hc;cases hc
  ·rw [e] at hc;cases hc;rw [hy] at hb;cases hb
 refine ⟨Hp.le_set' hkb,Hp.set_le w2.le hat,w2.g,w2.gz,w2.z0,fun c hc=>?_,fun c hc=>?_,fun p hp=>(w.okA p hp).le (Hp.le_set' hkb)⟩
 ·rw [Hp.set_other _ _ (off w.g c hc)];exact w.nO c hc
 ·cases z with
  | none=>rw [(w.z0 rfl).1] at hc;cases hc
  | some p=>rw [Hp.set_other _ _ (off (w.gz p rfl).1 c hc)];exact w.nZ c hc
theorem csA_len (A:List Pp):(A.flatMap Pp.cs).length=A.length*2:=lenPp A
theorem OutS.last {el:TypeId} {k h:Hp} {s:Value} {A:List Pp} {p:Pp} {oO oZ:Option Nat} (w:OutS el k h s A (some p) oO oZ):∃ b cap rest,s=.slice (some ⟨b,0,none⟩) (A.length+1) cap∧oO=some b∧A.length+1≤cap∧rest.length=(cap - (A.length+1))*2∧h b=some (rowO el (A.flatMap Pp.cs++([ux p.at_,p.sl]++rest)))∧k b=none:=by
 have hn:(A++(some p).toList).length=A.length+1:=by simp
 have hc:(A++(some p).toList).flatMap Pp.cs=A.flatMap Pp.cs++[ux p.at_,p.sl]:=by simp [Pp.cs]
 have g:=w.g
 rw [hn,hc] at g
 obtain ⟨_,⟨_,_,e⟩ | ⟨b,cap,rest,e1,e2,h1,h2,h3⟩⟩:=g
 ·omega
 ·exact ⟨b,cap,rest,e2,e1,h1,h2,by rw [List.append_assoc] at h3;exact h3,w.nO b e1⟩
theorem last_cell {el:TypeId} {h:Hp} {A:List Pp} {p:Pp} {b:Nat} {rest:List Value} (hb:h b=some (rowO el (A.flatMap Pp.cs++([ux p.at_,p.sl]++rest)))) {j:Int} (hj:j=(A.length:Int)):h.cell? (((⟨b,0,none⟩:Addr).add (j.toNat*2)).add 0)=some (ux p.at_)∧h.cell? (((⟨b,0,none⟩:Addr).add (j.toNat*2)).add 1)=some p.sl:=by
 subst hj
 rw [Int.toNat_natCast,add_add,add_add,addr_add,addr_add]
 have hl:=csA_len A
 refine ⟨cell_row hb ?_,cell_row hb ?_⟩
 ·rw [List.getElem?_append_right (by omega),hl,show 0+(A.length*2+0) - A.length*2=0 by omega];rfl
 ·rw [List.getElem?_append_right (by omega),hl,show 0+(A.length*2+1) - A.length*2=1 by omega];rfl
theorem last_addr {A:List Pp} {b:Nat} {j:Int} (hj:j=(A.length:Int)):((⟨b,0,none⟩:Addr).add (j.toNat*2)).add 1=⟨b,A.length*2+1,none⟩:=by
 subst hj
 rw [Int.toNat_natCast,add_add,addr_add,Nat.zero_add]
theorem last_set {A:List Pp} {a s s':Value} {rest:List Value}:(A.flatMap Pp.cs++([a,s]++rest)).set (A.length*2+1) s'=A.flatMap Pp.cs++([a,s']++rest):=by
 have hl:=csA_len A
 rw [List.set_append_right _ _ (by omega),hl,show A.length*2+1 - A.length*2=1 by omega]
 rfl
theorem OutS.grow {el:TypeId} (hel:el≠u8T) {k h h1 h2:Hp} {s s':Value} {A:List Pp} {p:Pp} {oO oZ oZ':Option Nat} {x:UInt8} {b cap:Nat} {rest:List Value} (w:OutS el k h s A (some p) oO oZ) (es:s=.slice (some ⟨b,0,none⟩) (A.length+1) cap) (eo:oO=some b) (hcap:A.length+1≤cap) (hrest:rest.length=(cap - (A.length+1))*2) (hp:p.b.length<256)
  (g:Gr h1 u8T 1 s' (p.b.length+1) (p.b.map byV++[byV x]) oZ') (t:Turn h h1 oZ oZ') (a:h2 b=some (rowO el (A.flatMap Pp.cs++([ux p.at_,s']++rest)))) (o:∀ c,c≠b→h2 c=h1 c) (hrow:h b=some (rowO el (A.flatMap Pp.cs++([ux p.at_,p.sl]++rest)))):OutS el k h2 s A (some ⟨p.at_,s',p.b++[x]⟩) oO oZ':=by
 have hkb:=w.nO b eo
 have gz:=(w.gz p rfl).1
 have hle:=t.le w.le w.nZ
 have hb1:=t.keep hrow (gz.offR hrow (Ne.symm hel))
 refine ⟨fun c y hc=>?_,?_,fun q e=>?_,fun e=>(by cases e),w.nO,hle.2,w.okA⟩
 ·rw [o c fun e=>by subst e;rw [hkb] at hc;cases hc];exact hle.1 _ _ hc
 ·have hn:(A++(some (⟨p.at_,s',p.b++[x]⟩:Pp)).toList).length=A.length+1:=by simp
  have hc:(A++(some (⟨p.at_,s',p.b++[x]⟩:Pp)).toList).flatMap Pp.cs=A.flatMap Pp.cs++[ux p.at_,s']:=by simp [Pp.cs]
  rw [hn,hc]
  refine ⟨by rw [List.length_append,csA_len];simp;omega,.inr ⟨b,cap,rest,eo,es,hcap,hrest,?_⟩⟩
  rw [a,List.append_assoc]
 ·cases e
  refine ⟨?_,by simp,(w.gz p rfl).2.2.1,by simp;omega⟩
  show Gr h2 u8T 1 s' (p.b++[x]).length ((p.b++[x]).map byV) oZ'
  rw [List.length_append,List.map_append]
  exact g.agree fun c hc=>o c (hb1.2 c hc)
theorem OutS.push {el:TypeId} (hel:el≠u8T) {k h h1 h2 h3:Hp} {s s':Value} {A:List Pp} {z:Option Pp} {oO oZ oO':Option Nat} {x:UInt8} {at_ z1:Nat} (w:OutS el k h s A z oO oZ) (hat:at_<2 ^ 64)
  (n1:h z1=none) (l1:h.le h1) (a1:h1 z1=some (rowO u8T [byV x])) (l2:h1.le h2)
  (t:Turn h2 h3 oO oO') (g:Gr h3 el 2 s' ((A++z.toList).length+1) ((A++z.toList).flatMap Pp.cs++[ux at_,.slice (some ⟨z1,0,none⟩) 1 1]) oO'):∃ k',k.le k'∧(∀ c l e2,h3 c=some (rowO e2 l)→e2≠u8T→k c=none→k' c=none)∧OutS el k' h3 s' (A++z.toList) (some ⟨at_,.slice (some ⟨z1,0,none⟩) 1 1,[x]⟩) oO' (some z1):=by
 have w2:=w.up (Hp.le_trans l1 l2)
 have hle:=t.le w2.le w2.nO
 have hz1:=(t.keep (l2 _ _ a1) (w2.g.offR (l2 _ _ a1) hel)).1
 have hG:Gr h3 el 2 s' ((A++z.toList)++(some (⟨at_,.slice (some ⟨z1,0,none⟩) 1 1,[x]⟩:Pp)).toList).length (((A++z.toList)++(some (⟨at_,.slice (some ⟨z1,0,none⟩) 1 1,[x]⟩:Pp)).toList).flatMap Pp.cs) oO':=by
  rw [List.length_append,List.flatMap_append]
  exact g
 have hZ:∀ p,(some (⟨at_,.slice (some ⟨z1,0,none⟩) 1 1,[x]⟩:Pp))=some p→Gr h3 u8T 1 p.sl p.b.length (p.b.map byV) (some z1)∧0<p.b.length∧p.at_<2 ^ 64∧p.b.length≤256:=fun p e=>by
  cases e
  exact ⟨⟨rfl,.inr ⟨z1,1,[],rfl,rfl,Nat.le_refl _,rfl,by rw [List.append_nil];exact hz1⟩⟩,Nat.one_pos,hat,by show 1≤256;decide⟩
 cases z with
 | none =>
  obtain ⟨_,rfl⟩:=w.z0 rfl
  exact ⟨k,Hp.le_refl _,fun _ _ _ _ _ h=>h,hle.1,hG,hZ,fun e=>(by cases e),hle.2,fun c e=>by cases e;exact Hp.none_le w.le n1,fun p hp=>(by cases hp)⟩
 | some p =>
  obtain ⟨gz,gpos,gat,gl⟩:=w.gz p rfl
  obtain ⟨_,⟨_,_,e⟩ | ⟨bZ,cap,rest,e1,e2,hcap,hrest,hb⟩⟩:=id gz
  ·omega
  have hkb:=w.nZ bZ e1
  have hb2:=Hp.le_trans l1 l2 _ _ hb
  have hb3:=(t.keep hb2 (w2.g.offR hb2 hel)).1
  refine ⟨k.set bZ (rowO u8T (p.b.map byV++rest)),Hp.le_set' hkb,fun c l e2 hc h2 h=>by rw [Hp.set_other _ _ (rowNe hc hb3 h2)];exact h,Hp.set_le hle.1 hb3,hG,hZ,fun e=>(by cases e),fun c hc=>?_,fun c e=>?_,fun q hq=>?_⟩
  ·rw [Hp.set_other _ _ (g.offR hb3 hel c hc)];exact hle.2 c hc
  ·cases e
   rw [Hp.set_other _ _ (fun e=>by rw [e,hb] at n1;cases n1)]
   exact Hp.none_le w.le n1
  ·rcases List.mem_append.1 hq with hq | hq
   ·exact (w.okA q hq).le (Hp.le_set' hkb)
   ·have:q=p:=by simpa using hq
    subst this
    exact ⟨gat,Nat.le_trans gl (by decide),bZ,cap,rest,e2,Hp.set_same _ _ _⟩
theorem OutS.done {el:TypeId} (ht:isAggT Tryz.prog el=some true) (hn:sizeT Tryz.prog el=some 2) {k h:Hp} {s:Value} {A:List Pp} {z:Option Pp} {oO oZ:Option Nat} (w:OutS el k h s A z oO oZ):Rd Tryz.prog el 2 h s ((A++z.toList).map Pp.v)∧∀ p ∈ A++z.toList,PpB h p:=by
 refine ⟨w.g.rdN (f:=Pp.cs) ht hn (fun _=>rfl),fun p hp=>?_⟩
 rcases List.mem_append.1 hp with hp | hp
 ·exact (w.okA p hp).le w.le
 ·cases z with
  | none=>cases hp
  | some q =>
   have:p=q:=by simpa using hp
   subst this
   obtain ⟨gz,gpos,gat,gl⟩:=w.gz p rfl
   obtain ⟨_,⟨_,_,e⟩ | ⟨bZ,cap,rest,e1,e2,hcap,hrest,hb⟩⟩:=id gz
   ·omega
   ·exact ⟨gat,Nat.le_trans gl (by decide),bZ,cap,rest,e2,hb⟩
theorem PpB.turn {el:TypeId} (hel:el≠u8T) {h h':Hp} {n l:Nat} {s:Value} {cs:List Value} {o o':Option Nat} {p:Pp} (i:PpB h p) (g:Gr h el n s l cs o) (t:Turn h h' o o'):PpB h' p:=by
 obtain ⟨h1,h2,c,cap,rest,e,hc⟩:=i
 exact ⟨h1,h2,c,cap,rest,e,(t.keep hc (g.offR hc hel)).1⟩
theorem flatPp_at:∀ (L:List Pp) (j:Nat) (v:Value),(L.flatMap Pp.cs)[j]? = some v→∃ i e k,L[i]? = some e∧e.cs[k]? = some v∧j=i*2+k
 | [],j,v,h=>by simp at h
 | e :: L,j,v,h=>by
  rw [List.flatMap_cons] at h
  rcases Nat.lt_or_ge j 2 with h1 | h1
  ·rw [List.getElem?_append_left (show j<e.cs.length from h1)] at h
   exact ⟨0,e,j,rfl,h,by omega⟩
  ·rw [List.getElem?_append_right (show e.cs.length≤j from h1)] at h
   obtain ⟨i,x,k,a,b,c⟩:=flatPp_at L (j - e.cs.length) v h
   have e4:e.cs.length=2:=rfl
   exact ⟨i+1,x,k,by simpa using a,b,by omega⟩
theorem pp_src {h:Hp} {base:Option Addr} {L:List Pp} (fE:∀ i e,L[i]? = some e→∃ a,base=some a∧∀ k v,e.cs[k]? = some v→h.cell? ((a.add (i*2)).add k)=some v):(∀ j v,(L.flatMap Pp.cs)[j]? = some v→∃ a,base=some a∧h.cell? (a.add j)=some v)∧(base=none→L.length=0):=by
 refine ⟨fun j v hj=>?_,fun hb=>?_⟩
 ·obtain ⟨i,e,k,h1,h2,rfl⟩:=flatPp_at L j v hj
  obtain ⟨a,h3,h4⟩:=fE i e h1
  refine ⟨a,h3,?_⟩
  have:=h4 k v h2
  rw [add_add] at this
  exact this
 ·cases L with
  | nil=>rfl
  | cons e L=>obtain ⟨a,h3,_⟩:=fE 0 e rfl;rw [hb] at h3;cases h3
theorem csP_one {L:List Pp} (h:∀ p ∈ L,∃ a n c,p.sl=.slice a n c):(L.flatMap Pp.cs).all Value.oneCell'=true:=by
 rw [List.all_eq_true]
 intro v hv
 obtain ⟨p,hp,hv⟩:=List.mem_flatMap.1 hv
 obtain ⟨a,n,c,e⟩:=h p hp
 unfold Pp.cs at hv
 rw [e] at hv
 rcases List.mem_cons.1 hv with rfl | hv
 ·rfl
 ·rw [List.mem_singleton.1 hv];rfl
theorem pushP_last {O:List (Nat×Str)} {q:Nat×Str} {a:Nat} {x:UInt8}:pushP (O++[q]) a x=if q.2.length<256∧(q.1+q.2.length) % 2 ^ 64=a then O++[(q.1,q.2++[x])] else O++[q]++[(a,[x])]:=by
 unfold pushP
 rw [List.getLast?_append]
 simp only [List.getLast?_singleton,Option.or_some,Option.some_or]
 rw [List.dropLast_concat]
end Go.Proofs.YtdhkjcdneidgaaaGreatDoor
