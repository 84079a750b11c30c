/-
  THE MIDDLE LAYER: maps whose entries bear stamps; a loop over a map, in whatever order Go draws.
-/
import Derived.Test.YtnjlneefddlaoaaGreatMidY
set_option linter.unusedSimpArgs false
set_option linter.unusedVariables false
set_option maxHeartbeats 8000000
set_option maxRecDepth 10000
set_option linter.unusedSimpArgs false
set_option linter.unusedVariables false
namespace Go.Mid
open Go Go.RowKit
section
variable {P:Program} {kt:TypeId} {α:Type} [DecidableEq α] {enc:α→Value}
def MapB (enc:α→Value) (f:α→Option Value) (n:Nat) (o:Obj):Prop :=
 ∃ (l:List (α×Value×Nat)) (c:Nat),o=.map (ents enc l).toArray c∧(l.map (·.1)).Nodup∧(∀ a,getL a l=f a)∧(l.map (·.2.2)).Nodup∧(∀ x ∈ l,x.2.2<c)∧l.length=n
theorem MapB.nil:MapB enc (fun _=>none) 0 (.map #[] 0):=⟨[],0,rfl,List.nodup_nil,fun _=>rfl,List.nodup_nil,fun _ h=>by (cases h),rfl⟩
theorem MapB.o {f:α→Option Value} {n:Nat} {o:Obj} (m:MapB enc f n o):MapO enc f o:=by
 obtain ⟨l,c,e,h1,h2,_⟩:=m
 exact ⟨l,c,e,h1,h2⟩
theorem MapB.len {t el:TypeId} {f:α→Option Value} {n:Nat} {h:Hp} {b:Nat} {o:Obj} (ht:P.underlying t=some (.map kt el)) (hb:h b=some o) (m:MapB enc f n o):lenH P t h (.map (some b))=some (.int .i64 n):=by
 obtain ⟨l,c,rfl,_,_,_,_,e⟩:=m
 unfold lenH
 simp only [ht,hb,ents,List.size_toArray,List.length_map,e]
omit [DecidableEq α] in
theorem stamp_set {l:List (α×Value×Nat)} {j:Nat} {a:α} {v v':Value} {n:Nat} (hj:l[j]? = some (a,v',n)):(l.set j (a,v,n)).map (·.2.2)=l.map (·.2.2):=by
 have hlt:j<l.length:=(List.getElem?_eq_some_iff.1 hj).1
 have hje:l[j]=(a,v',n):=by have:=List.getElem?_eq_getElem hlt;rw [hj] at this;exact (Option.some.inj this).symm
 rw [List.map_set]
 apply List.ext_getElem?
 intro i
 rw [List.getElem?_set]
 split
 ·rename_i h1;subst h1;simp [hlt,hje]
 ·rfl
omit [DecidableEq α] in
theorem key_set {l:List (α×Value×Nat)} {j:Nat} {a:α} {v v':Value} {n:Nat} (hj:l[j]? = some (a,v',n)):(l.set j (a,v,n)).map (·.1)=l.map (·.1):=by
 have hlt:j<l.length:=(List.getElem?_eq_some_iff.1 hj).1
 have hje:l[j]=(a,v',n):=by have:=List.getElem?_eq_getElem hlt;rw [hj] at this;exact (Option.some.inj this).symm
 rw [List.map_set]
 apply List.ext_getElem?
 intro i
 rw [List.getElem?_set]
 split
 ·rename_i h1;subst h1;simp [hlt,hje]
 ·rfl
def putN (f:α→Option Value) (a:α) (n:Nat):Nat:=if (f a).isSome then n else n+1
theorem MapB.upd {t:TypeId} {el:TypeId} {f:α→Option Value} {n:Nat} {h:Hp} {b:Nat} {o:Obj} (ht:P.underlying t=some (.map kt el)) (K:KeyT P kt enc) (hb:h b=some o) (m:MapB enc f n o) (a:α) (v:Value) :
  ∃ o',updH P t h (.map (some b)) (enc a) v=some (b,o')∧MapB enc (putF f a (some v)) (putN f a n) o':=by
 obtain ⟨l,c,rfl,hn,hf,hs,hc,hlen⟩:=m
 obtain ⟨d,hd⟩:=K.under
 unfold updH
 simp only [ht,hd,K.key,hb,findV_ents K]
 cases hq:findL a l 0 with
 | none =>
  have hnot:=findL_none a l 0 hq
  have hfa:f a=none:=by rw [← hf,getL_nil hnot]
  refine ⟨_,rfl,l++[(a,v,c)],c+1,?_,?_,fun x=>?_,?_,?_,?_⟩
  ·simp [ents]
  ·rw [List.map_append]
   exact List.nodup_append.2 ⟨hn,by simp,fun x hx y hy=>by simp only [List.map_cons,List.map_nil,List.mem_singleton] at hy;subst hy;exact fun e=>hnot (e ▸ hx)⟩
  ·rw [getL_app _ _ _ _ _ hnot,hf];rfl
  ·rw [List.map_append]
   refine List.nodup_append.2 ⟨hs,by simp,fun x hx y hy=>?_⟩
   simp only [List.map_cons,List.map_nil,List.mem_singleton] at hy
   subst hy
   obtain ⟨z,hz,rfl⟩:=List.mem_map.1 hx
   have:=hc z hz
   omega
  ·intro x hx
   rcases List.mem_append.1 hx with hx | hx
   ·have:=hc x hx;omega
   ·simp only [List.mem_singleton] at hx;subst hx;exact Nat.lt_succ_self _
  ·rw [List.length_append,hlen]
   unfold putN
   rw [hfa]
   rfl
 | some jv =>
  obtain ⟨j,v'⟩:=jv
  obtain ⟨_,n',hj⟩:=findL_spec a l 0 j v' hq
  rw [Nat.sub_zero] at hj
  have hlt:j<l.length:=(List.getElem?_eq_some_iff.1 hj).1
  have hje:l[j]=(a,v',n'):=by have:=List.getElem?_eq_getElem hlt;rw [hj] at this;exact (Option.some.inj this).symm
  have hej:(ents enc l).toArray[j]? = some ⟨enc a,v',n'⟩:=by simp [ents,hj]
  have hfa:f a=some v':=by rw [← hf,← findL_get a l 0,hq];rfl
  simp only [hej,Option.map_some,Option.getD_some,K.same,if_true]
  refine ⟨_,rfl,l.set j (a,v,n'),c,?_,?_,fun x=>?_,?_,?_,?_⟩
  ·congr 1
   apply Array.ext_getElem?
   intro i
   rw [Array.getElem?_modify]
   simp only [List.getElem?_toArray,ents,List.map_set,List.getElem?_set,List.getElem?_map,List.length_map]
   by_cases hij:j=i
   ·subst hij;simp [hlt,hje]
   ·simp [hij]
  ·rw [key_set hj];exact hn
  ·rw [getL_set x a v v' n' n' l j hn hj,hf];rfl
  ·rw [stamp_set hj];exact hs
  ·intro x hx
   rcases List.mem_or_eq_of_mem_set hx with hx | hx
   ·exact hc x hx
   ·subst hx;exact hc (a,v',n') (List.mem_of_getElem? hj)
  ·rw [List.length_set,hlen]
   unfold putN
   rw [hfa]
   rfl
omit [DecidableEq α] in
theorem ents_modify {l:List (α×Value×Nat)} {j:Nat} {a:α} {v v':Value} {n:Nat} (hj:l[j]? = some (a,v',n)) (g:MapEntry→MapEntry) (hg:g ⟨enc a,v',n⟩=⟨enc a,v,n⟩):(ents enc l).toArray.modify j g=(ents enc (l.set j (a,v,n))).toArray:=by
 have hlt:j<l.length:=(List.getElem?_eq_some_iff.1 hj).1
 have hje:l[j]=(a,v',n):=by have:=List.getElem?_eq_getElem hlt;rw [hj] at this;exact (Option.some.inj this).symm
 apply Array.ext_getElem?
 intro i
 rw [Array.getElem?_modify]
 simp only [List.getElem?_toArray,ents,List.map_set,List.getElem?_set,List.getElem?_map,List.length_map]
 by_cases hij:j=i
 ·subst hij;simp [hlt,hje,hg]
 ·simp [hij]
omit [DecidableEq α] in
theorem findIdx_born:∀ {l:List (α×Value×Nat)} {j:Nat} {x:α×Value×Nat},(l.map (·.2.2)).Nodup→l[j]? = some x→(ents enc l).findIdx? (fun e=>(e.born:Int)==(x.2.2:Int))=some j
 | [],j,x,_,h=>by simp at h
 | y :: l,0,x,hn,h=>by
  simp only [List.getElem?_cons_zero,Option.some.injEq] at h
  subst h
  simp [ents,List.findIdx?_cons]
 | y :: l,j+1,x,hn,h=>by
  simp only [List.getElem?_cons_succ] at h
  simp only [List.map_cons,List.nodup_cons] at hn
  have hne:¬ y.2.2=x.2.2:=fun e=>hn.1 (List.mem_map.2 ⟨x,List.mem_of_getElem? h,e.symm⟩)
  have ih:=findIdx_born hn.2 h
  unfold ents at ih ⊢
  rw [List.map_cons,List.findIdx?_cons]
  rw [if_neg (by simp only [beq_iff_eq];omega),ih]
  rfl
theorem MapB.ent {t:TypeId} {el:TypeId} {z:Value} {f:α→Option Value} {n:Nat} {h:Hp} {b:Nat} {o:Obj} (ht:P.underlying t=some (.map kt el)) (hz:zeroT P el=some z) (K:KeyT P kt enc) (hb:h b=some o) (m:MapB enc f n o) (a:α) :
  ∃ (st:Int) (o1:Obj),entH P t h (.map (some b)) (enc a)=some (.tuple #[(f a).getD z,.int .i64 st],some (b,o1))∧MapB enc (putF f a (some ((f a).getD z))) (putN f a n) o1 ∧
   ∀ (v:Value) (h':Hp),h' b=some o1→∃ o2,entS h' (.map (some b)) (.int .i64 st) v=some (b,o2)∧MapB enc (putF f a (some v)) (putN f a n) o2:=by
 obtain ⟨l,c,rfl,hn,hf,hs,hc,hlen⟩:=m
 obtain ⟨d,hd⟩:=K.under
 have key:∀ (l1:List (α×Value×Nat)) (c1 j st:Nat) (w:Value),l1[j]? = some (a,w,st)→(l1.map (·.1)).Nodup→(∀ x,getL x l1=putF f a (some w) x)→(l1.map (·.2.2)).Nodup→(∀ x ∈ l1,x.2.2<c1)→l1.length=putN f a n →
   MapB enc (putF f a (some w)) (putN f a n) (.map (ents enc l1).toArray c1)∧∀ (v:Value) (h':Hp),h' b=some (.map (ents enc l1).toArray c1)→∃ o2,entS h' (.map (some b)) (.int .i64 (st:Nat)) v=some (b,o2)∧MapB enc (putF f a (some v)) (putN f a n) o2:=by
  intro l1 c1 j st w hj k1 k2 k3 k4 k5
  refine ⟨⟨l1,c1,rfl,k1,k2,k3,k4,k5⟩,fun v h' hb'=>?_⟩
  unfold entS
  simp only [hb']
  have hi:(ents enc l1).toArray.findIdx? (fun e=>(e.born:Int)==(st:Int))=some j:=by
   rw [List.findIdx?_toArray]
   exact findIdx_born k3 hj
  rw [hi]
  refine ⟨_,rfl,l1.set j (a,v,st),c1,?_,?_,fun x=>?_,?_,?_,?_⟩
  ·rw [ents_modify hj (fun e=>{ e with val:=v }) rfl]
  ·rw [key_set hj];exact k1
  ·rw [getL_set x a v w st st l1 j k1 hj,k2]
   unfold putF
   by_cases hx:x=a <;> simp [hx]
  ·rw [stamp_set hj];exact k3
  ·intro x hx
   rcases List.mem_or_eq_of_mem_set hx with hx | hx
   ·exact k4 x hx
   ·subst hx;exact k4 (a,w,st) (List.mem_of_getElem? hj)
  ·rw [List.length_set,k5]
 unfold entH
 simp only [ht,hd,K.key,hz,hb,findV_ents K]
 cases hq:findL a l 0 with
 | none =>
  have hnot:=findL_none a l 0 hq
  have hfa:f a=none:=by rw [← hf,getL_nil hnot]
  have e1:(ents enc l).toArray.push { key:=enc a,val:=z,born:=c }=(ents enc (l++[(a,z,c)])).toArray:=by simp [ents]
  have k:=key (l++[(a,z,c)]) (c+1) l.length c z (by simp) (by
   rw [List.map_append]
   exact List.nodup_append.2 ⟨hn,by simp,fun x hx y hy=>by simp only [List.map_cons,List.map_nil,List.mem_singleton] at hy;subst hy;exact fun e=>hnot (e ▸ hx)⟩) (fun x=>by rw [getL_app _ _ _ _ _ hnot,hf];rfl) (by
   rw [List.map_append]
   refine List.nodup_append.2 ⟨hs,by simp,fun x hx y hy=>?_⟩
   simp only [List.map_cons,List.map_nil,List.mem_singleton] at hy
   subst hy
   obtain ⟨z,hz,rfl⟩:=List.mem_map.1 hx
   have:=hc z hz
   omega) (fun x hx=>by
   rcases List.mem_append.1 hx with hx | hx
   ·have:=hc x hx;omega
   ·simp only [List.mem_singleton] at hx;subst hx;exact Nat.lt_succ_self _) (by
   rw [List.length_append,hlen]
   unfold putN
   rw [hfa]
   rfl)
  rw [hfa]
  simp only [e1,Option.getD_none]
  exact ⟨_,_,rfl,k.1,k.2⟩
 | some jv =>
  obtain ⟨j,v'⟩:=jv
  obtain ⟨_,n',hj⟩:=findL_spec a l 0 j v' hq
  rw [Nat.sub_zero] at hj
  have hej:(ents enc l).toArray[j]? = some ⟨enc a,v',n'⟩:=by simp [ents,hj]
  have hfa:f a=some v':=by rw [← hf,← findL_get a l 0,hq];rfl
  have e1:(ents enc l).toArray.modify j (fun e=>{ e with key:=enc a })=(ents enc l).toArray:=by
   rw [ents_modify (v:=v') hj _ rfl]
   congr 2
   apply List.ext_getElem?
   intro i
   rw [List.getElem?_set]
   split
   ·rename_i hji
    subst hji
    rw [hj]
    simp [(List.getElem?_eq_some_iff.1 hj).1]
   ·rfl
  have k:=key l c j n' v' hj hn (fun x=>by
   rw [hf]
   unfold putF
   split
   ·rename_i hx;rw [hx,hfa]
   ·rfl) hs hc (by rw [hlen];unfold putN;rw [hfa];rfl)
  rw [hfa]
  simp only [hej,Option.map_some,Option.getD_some,K.same,if_true,e1]
  exact ⟨_,_,rfl,k.1,k.2⟩
def Itr (enc:α→Value) (f:α→Option Value) (n:Nat) (h:Hp) (it m:Nat) (ks:List α):Prop :=
 ∃ (l:List (α×Value×Nat)) (c since last:Nat) (seen:Array Nat),h m=some (.map (ents enc l).toArray c)∧h it=some (.mapIter (some m) since seen last)∧(l.map (·.1)).Nodup∧(∀ a,getL a l=f a)∧(l.map (·.2.2)).Nodup ∧
  (∀ x ∈ l,x.2.2<since)∧c=last∧since≤c∧l.length=n∧ks.Nodup∧(∀ x ∈ l,x.1 ∈ ks↔x.2.2 ∈ seen)∧(∀ a ∈ ks,a ∈ l.map (·.1))∧∀ a,ks.getLast? = some a→∃ x ∈ l,x.1=a∧seen.back? = some x.2.2
theorem Itr.agree {f:α→Option Value} {n:Nat} {h h':Hp} {it m:Nat} {ks:List α} (i:Itr enc f n h it m ks) (h1:h' it=h it) (h2:h' m=h m):Itr enc f n h' it m ks:=by
 obtain ⟨l,c,s,la,se,e1,e2,r⟩:=i
 exact ⟨l,c,s,la,se,h2.trans e1,h1.trans e2,r⟩
theorem Itr.le {f:α→Option Value} {n:Nat} {h h':Hp} {it m:Nat} {ks:List α} (i:Itr enc f n h it m ks) (hle:h.le h'):Itr enc f n h' it m ks:=by
 obtain ⟨l,c,s,la,se,e1,e2,r⟩:=i
 exact ⟨l,c,s,la,se,hle _ _ e1,hle _ _ e2,r⟩
theorem Itr.known {f:α→Option Value} {n:Nat} {h:Hp} {it m:Nat} {ks:List α} (i:Itr enc f n h it m ks):∃ o1 o2,h it=some o1∧h m=some o2:=by
 obtain ⟨l,c,s,la,se,e1,e2,r⟩:=i
 exact ⟨_,_,e2,e1⟩
end
theorem Owns.put {k h h':Hp} {el size n:Nat} {s:Value} {cs:List Value} {b:Nat} {o o':Obj} (w:Owns k h el size s n cs) (hb:k b=some o) (hat:h' b=some o') (hot:∀ c,c≠b→h' c=h c):Owns (k.set b o') h' el size s n cs:=by
 obtain ⟨ob,g,hle,hno⟩:=w
 have hne:∀ c,ob=some c→c≠b:=fun c hc e=>by
  have:=hno c hc
  rw [e,hb] at this;cases this
 refine ⟨ob,g.agree fun x hx=>hot x (hne x hx),fun c x e=>?_,fun c hc=>?_⟩
 ·by_cases hcb:c=b
  ·subst hcb;rw [Hp.set_same] at e;cases e;exact hat
  ·rw [Hp.set_other _ _ hcb] at e;rw [hot c hcb];exact hle _ _ e
 ·rw [Hp.set_other _ _ (hne c hc)];exact hno c hc
theorem Owns.also {P:Program} {t:TypeId} (ht:isAggT P t=some false) {k h h':Hp} {el size n el2 m:Nat} {s sx:Value} {cs cx:List Value} (w:Owns k h el size s n cs) (x:Owns h h' el2 1 sx m cx):∃ k',k.le k'∧Owns k' h' el size s n cs∧Rd P t 1 k' sx cx:=by
 have hle:=x.le
 obtain ⟨ob,⟨h1,⟨_,rfl,h0⟩ | ⟨b,cap,rest,e1,rfl,hcap,hrest,hb⟩⟩,_,hno⟩:=x
 ·have:cx=[]:=List.eq_nil_of_length_eq_zero (by omega)
  subst this
  exact ⟨k,Hp.le_refl _,w.up hle,Rd.nil⟩
 ·have hn:=hno b e1
  have hkb:k b=none:=Hp.none_le w.le hn
  refine ⟨k.set b (rowO el2 (cx++rest)),Hp.le_set' hkb,w.new hn hle hb,⟨_,cap,by rw [h1,Nat.mul_one],fun i v hv=>⟨_,rfl,?_⟩⟩⟩
  exact loadC1 ht (Hp.set_same _ _ _) (by rw [List.getElem?_append_left (List.getElem?_eq_some_iff.1 hv).1];exact hv)
theorem rowO_el {t1 t2:TypeId} {l1 l2:List Value} (h:rowO t1 l1=rowO t2 l2):t1=t2:=(Obj.cells.inj h).2.1
theorem storePA {P:Program} {t el:TypeId} {n k:Nat} {a:Addr} {b:Nat} (ha:a=⟨b,k,none⟩) (hn:sizeT P t=some n) {h:Hp} {l l':List Value} {z:Value} (hb:h b=some (rowO el l)) (hk:k+n≤l.length) (hl:setL l k z.cells.toList=l') (hz:z.cells.toList.length=n) (h1:z.cells.toList.all Value.oneCell'=true):storeH P t h a z=some (b,rowO el l'):=by
 subst ha
 subst hl
 unfold storeH
 rw [hn]
 simp only [hb]
 have e1:z.cells.size=n:=by rw [← Array.length_toList];exact hz
 rw [if_pos (by
  simp only [Option.isNone_none,Bool.and_true,Bool.and_eq_true,beq_iff_eq,decide_eq_true_eq,List.size_toArray,h1,and_true]
  exact ⟨⟨e1,hk⟩,Nat.le_refl _⟩)]
theorem storeCA {P:Program} {t el:TypeId} {k:Nat} {a:Addr} {b:Nat} (ha:a=⟨b,k,none⟩) (ht:sizeT P t=some 1) {h:Hp} {l l':List Value} {z:Value} (hb:h b=some (rowO el l)) (hk:k<l.length) (hl:l.set k z=l') (hz:z.cells.toList=[z]) (h1:z.oneCell'=true):storeH P t h a z=some (b,rowO el l'):=by
 subst ha hl
 exact storeH_row ht hb hk hz h1
end Go.Mid
