/-
  Words by their bits: numbers laid into words, by formats: plain laws.
-/
import Derived.Test.YtdhlpighdlnohaaGreatEvD
import Derived.Test.YtdhlpighdlnohaaGreatBitP
set_option linter.unusedSimpArgs false
set_option linter.unusedVariables false
set_option maxHeartbeats 8000000
set_option maxRecDepth 10000
set_option linter.unusedSimpArgs false
set_option linter.unusedVariables false
namespace Go.Proofs.YtdhlpighdlnohaaGreat
open Go Go.Bits
structure Qu where
 lines:Int
 root:Nat
 va:Nat
 access:Int
 priv:Int
 sum:Bool
 mxr:Bool
structure Wk where
 made:Bool
 q:Qu
 fin:Int
 level:Nat
 place:Nat
 entry:Nat
 mark:Bool
 again:Int
def Qu.zero:Qu:=⟨0,0,0,0,0,false,false⟩
def Wk.zero:Wk:=⟨false,.zero,0,0,0,0,false,0⟩
def entryN (ppn va l:Nat):Nat:=ppn % 2 ^ 44*2 ^ 12+placeN va l*8
def hasB (lines:Int) (a:Nat):Bool:=decide (1≤lines∧lines≤4096∧2147483648≤a∧(a:Int) - 2147483648+8≤64*lines)
def letsP (p:Nat) (access priv:Int) (sum mxr:Bool):Bool :=
 (if access=0 then decide (bitN p 3=1) else if access=1 then decide (bitN p 1=1) || (mxr && decide (bitN p 3=1)) else if access=2 then decide (bitN p 2=1) else false) &&
 (if priv=0 then decide (bitN p 4=1) else !decide (bitN p 4=1) || (sum && !decide (access=0)))
def markN (p:Nat) (access:Int):Nat:=if access=2 then p ||| 64 ||| 128 else p ||| 64
def Wk.look (w:Wk) (ppn l:Nat):Wk:={ w with mark:=false,entry:=0,level:=l,place:=entryN ppn w.q.va l,fin:=if hasB w.q.lines (entryN ppn w.q.va l) then w.fin else 3 }
def Wk.start (w:Wk):Wk:=w.look w.q.root 2
def Wk.begin (q:Qu):Wk:=if mayN q.va then ({ Wk.zero with made:=true,q:=q }).start else { Wk.zero with made:=true,q:=q,fin:=2 }
def Wk.ended (w:Wk):Bool:=!w.made || decide (w.fin≠0)
def Ak.zero:Ak:=⟨0,0,0,0,0,0,0,0,false,0,.zero,⟨0,0,0,0⟩⟩
def Wk.ask (w:Wk):Ak:=if w.ended then .zero else if w.mark then { Ak.zero with kind:=8,addr:=w.place,size:=8,old:=w.entry,data:=markN w.entry w.q.access } else { Ak.zero with kind:=7,addr:=w.place,size:=8 }
def Wk.tell (w:Wk) (data:Nat) (good:Bool):Wk :=
 if w.ended then w
 else if w.mark then (if good then { w with entry:=markN w.entry w.q.access,fin:=1,mark:=false } else ({ w with again:=IntKind.i64.wrap (w.again+1) }).start)
 else if kindN data w.level=0 then { w with entry:=data,fin:=2 }
 else if kindN data w.level=1 then ({ w with entry:=data }).look (ppnN data) (w.level - 1)
 else if ¬ letsP data w.q.access w.q.priv w.q.sum w.q.mxr then { w with entry:=data,fin:=2 }
 else if markN data w.q.access≠data then { w with entry:=data,mark:=true }
 else { w with entry:=data,fin:=1,mark:=false }
def pageN (va l:Nat):Nat:=va / sizeN l*sizeN l
def Wk.end_ (w:Wk):Int:=if w.made then w.fin else 2
def Wk.found (w:Wk):En:=if w.made∧w.fin=1 then ⟨0,pageN w.q.va w.level,w.level,w.entry⟩ else ⟨0,0,0,0⟩
end Go.Proofs.YtdhlpighdlnohaaGreat
namespace Go.Mid
open Go Go.RowKit
section
variable {P:Program} {kt:TypeId} {α:Type} [DecidableEq α] {enc:α→Value}
def MapB (enc:α→Value) (f:α→Option Value) (n:Nat) (o:Obj):Prop :=
 ∃ (l:List (α×Value×Nat)) (c:Nat),o=.map (ents enc l).toArray c∧(l.map (·.1)).Nodup∧(∀ a,getL a l=f a)∧(l.map (·.2.2)).Nodup∧(∀ x ∈ l,x.2.2<c)∧l.length=n
theorem MapB.nil:MapB enc (fun _=>none) 0 (.map #[] 0):=⟨[],0,rfl,List.nodup_nil,fun _=>rfl,List.nodup_nil,fun _ h=>by (cases h),rfl⟩
theorem MapB.o {f:α→Option Value} {n:Nat} {o:Obj} (m:MapB enc f n o):MapO enc f o:=by
 obtain ⟨l,c,e,h1,h2,_⟩:=m
 exact ⟨l,c,e,h1,h2⟩
theorem MapB.look {t:TypeId} {el:TypeId} {z:Value} {f:α→Option Value} {n:Nat} {h:Hp} {b:Nat} {o:Obj} (ht:P.underlying t=some (.map kt el)) (hz:zeroT P el=some z) (K:KeyT P kt enc) (hb:h b=some o) (m:MapB enc f n o) (a:α) (ok:Bool) :
  lookH P t h (.map (some b)) (enc a) ok=some (lookR ok (f a) z):=m.o.look ht hz K hb a ok
theorem MapB.len {t el:TypeId} {f:α→Option Value} {n:Nat} {h:Hp} {b:Nat} {o:Obj} (ht:P.underlying t=some (.map kt el)) (hb:h b=some o) (m:MapB enc f n o):lenH P t h (.map (some b))=some (.int .i64 n):=by
 obtain ⟨l,c,rfl,_,_,_,_,e⟩:=m
 unfold lenH
 simp only [ht,hb,ents,List.size_toArray,List.length_map,e]
omit [DecidableEq α] in
theorem stamp_set {l:List (α×Value×Nat)} {j:Nat} {a:α} {v v':Value} {n:Nat} (hj:l[j]? = some (a,v',n)):(l.set j (a,v,n)).map (·.2.2)=l.map (·.2.2):=by
 have hlt:j<l.length:=(List.getElem?_eq_some_iff.1 hj).1
 have hje:l[j]=(a,v',n):=by have:=List.getElem?_eq_getElem hlt;rw [hj] at this;exact (Option.some.inj this).symm
 rw [List.map_set]
 apply List.ext_getElem?
 intro i
 rw [List.getElem?_set]
 split
 ·rename_i h1;subst h1;simp [hlt,hje]
 ·rfl
omit [DecidableEq α] in
theorem key_set {l:List (α×Value×Nat)} {j:Nat} {a:α} {v v':Value} {n:Nat} (hj:l[j]? = some (a,v',n)):(l.set j (a,v,n)).map (·.1)=l.map (·.1):=by
 have hlt:j<l.length:=(List.getElem?_eq_some_iff.1 hj).1
 have hje:l[j]=(a,v',n):=by have:=List.getElem?_eq_getElem hlt;rw [hj] at this;exact (Option.some.inj this).symm
 rw [List.map_set]
 apply List.ext_getElem?
 intro i
 rw [List.getElem?_set]
 split
 ·rename_i h1;subst h1;simp [hlt,hje]
 ·rfl
def putN (f:α→Option Value) (a:α) (n:Nat):Nat:=if (f a).isSome then n else n+1
theorem MapB.upd {t:TypeId} {el:TypeId} {f:α→Option Value} {n:Nat} {h:Hp} {b:Nat} {o:Obj} (ht:P.underlying t=some (.map kt el)) (K:KeyT P kt enc) (hb:h b=some o) (m:MapB enc f n o) (a:α) (v:Value) :
  ∃ o',updH P t h (.map (some b)) (enc a) v=some (b,o')∧MapB enc (putF f a (some v)) (putN f a n) o':=by
 obtain ⟨l,c,rfl,hn,hf,hs,hc,hlen⟩:=m
 obtain ⟨d,hd⟩:=K.under
 unfold updH
 simp only [ht,hd,K.key,hb,findV_ents K]
 cases hq:findL a l 0 with
 | none =>
  have hnot:=findL_none a l 0 hq
  have hfa:f a=none:=by rw [← hf,getL_nil hnot]
  refine ⟨_,rfl,l++[(a,v,c)],c+1,?_,?_,fun x=>?_,?_,?_,?_⟩
  ·simp [ents]
  ·rw [List.map_append]
   exact List.nodup_append.2 ⟨hn,by simp,fun x hx y hy=>by simp only [List.map_cons,List.map_nil,List.mem_singleton] at hy;subst hy;exact fun e=>hnot (e ▸ hx)⟩
  ·rw [getL_app _ _ _ _ _ hnot,hf];rfl
  ·rw [List.map_append]
   refine List.nodup_append.2 ⟨hs,by simp,fun x hx y hy=>?_⟩
   simp only [List.map_cons,List.map_nil,List.mem_singleton] at hy
   subst hy
   obtain ⟨z,hz,rfl⟩:=List.mem_map.1 hx
   have:=hc z hz
   omega
  ·intro x hx
   rcases List.mem_append.1 hx with hx | hx
   ·have:=hc x hx;omega
   ·simp only [List.mem_singleton] at hx;subst hx;exact Nat.lt_succ_self _
  ·rw [List.length_append,hlen]
   unfold putN
   rw [hfa]
   rfl
 | some jv =>
  obtain ⟨j,v'⟩:=jv
  obtain ⟨_,n',hj⟩:=findL_spec a l 0 j v' hq
  rw [Nat.sub_zero] at hj
  have hlt:j<l.length:=(List.getElem?_eq_some_iff.1 hj).1
  have hje:l[j]=(a,v',n'):=by have:=List.getElem?_eq_getElem hlt;rw [hj] at this;exact (Option.some.inj this).symm
  have hej:(ents enc l).toArray[j]? = some ⟨enc a,v',n'⟩:=by simp [ents,hj]
  have hfa:f a=some v':=by rw [← hf,← findL_get a l 0,hq];rfl
  simp only [hej,Option.map_some,Option.getD_some,K.same,if_true]
  refine ⟨_,rfl,l.set j (a,v,n'),c,?_,?_,fun x=>?_,?_,?_,?_⟩
  ·congr 1
   apply Array.ext_getElem?
   intro i
   rw [Array.getElem?_modify]
   simp only [List.getElem?_toArray,ents,List.map_set,List.getElem?_set,List.getElem?_map,List.length_map]
   by_cases hij:j=i
   ·subst hij;simp [hlt,hje]
   ·simp [hij]
  ·rw [key_set hj];exact hn
  ·rw [getL_set x a v v' n' n' l j hn hj,hf];rfl
  ·rw [stamp_set hj];exact hs
  ·intro x hx
   rcases List.mem_or_eq_of_mem_set hx with hx | hx
   ·exact hc x hx
   ·subst hx;exact hc (a,v',n') (List.mem_of_getElem? hj)
  ·rw [List.length_set,hlen]
   unfold putN
   rw [hfa]
   rfl
omit [DecidableEq α] in
theorem ents_modify {l:List (α×Value×Nat)} {j:Nat} {a:α} {v v':Value} {n:Nat} (hj:l[j]? = some (a,v',n)) (g:MapEntry→MapEntry) (hg:g ⟨enc a,v',n⟩=⟨enc a,v,n⟩):(ents enc l).toArray.modify j g=(ents enc (l.set j (a,v,n))).toArray:=by
 have hlt:j<l.length:=(List.getElem?_eq_some_iff.1 hj).1
 have hje:l[j]=(a,v',n):=by have:=List.getElem?_eq_getElem hlt;rw [hj] at this;exact (Option.some.inj this).symm
 apply Array.ext_getElem?
 intro i
 rw [Array.getElem?_modify]
 simp only [List.getElem?_toArray,ents,List.map_set,List.getElem?_set,List.getElem?_map,List.length_map]
 by_cases hij:j=i
 ·subst hij;simp [hlt,hje,hg]
 ·simp [hij]
omit [DecidableEq α] in
theorem findIdx_born:∀ {l:List (α×Value×Nat)} {j:Nat} {x:α×Value×Nat},(l.map (·.2.2)).Nodup→l[j]? = some x→(ents enc l).findIdx? (fun e=>(e.born:Int)==(x.2.2:Int))=some j
 | [],j,x,_,h=>by simp at h
 | y :: l,0,x,hn,h=>by
  simp only [List.getElem?_cons_zero,Option.some.injEq] at h
  subst h
  simp [ents,List.findIdx?_cons]
 | y :: l,j+1,x,hn,h=>by
  simp only [List.getElem?_cons_succ] at h
  simp only [List.map_cons,List.nodup_cons] at hn
  have hne:¬ y.2.2=x.2.2:=fun e=>hn.1 (List.mem_map.2 ⟨x,List.mem_of_getElem? h,e.symm⟩)
  have ih:=findIdx_born hn.2 h
  unfold ents at ih ⊢
  rw [List.map_cons,List.findIdx?_cons]
  rw [if_neg (by simp only [beq_iff_eq];omega),ih]
  rfl
theorem MapB.ent {t:TypeId} {el:TypeId} {z:Value} {f:α→Option Value} {n:Nat} {h:Hp} {b:Nat} {o:Obj} (ht:P.underlying t=some (.map kt el)) (hz:zeroT P el=some z) (K:KeyT P kt enc) (hb:h b=some o) (m:MapB enc f n o) (a:α) :
  ∃ (st:Int) (o1:Obj),entH P t h (.map (some b)) (enc a)=some (.tuple #[(f a).getD z,.int .i64 st],some (b,o1))∧MapB enc (putF f a (some ((f a).getD z))) (putN f a n) o1 ∧
   ∀ (v:Value) (h':Hp),h' b=some o1→∃ o2,entS h' (.map (some b)) (.int .i64 st) v=some (b,o2)∧MapB enc (putF f a (some v)) (putN f a n) o2:=by
 obtain ⟨l,c,rfl,hn,hf,hs,hc,hlen⟩:=m
 obtain ⟨d,hd⟩:=K.under
 have key:∀ (l1:List (α×Value×Nat)) (c1 j st:Nat) (w:Value),l1[j]? = some (a,w,st)→(l1.map (·.1)).Nodup→(∀ x,getL x l1=putF f a (some w) x)→(l1.map (·.2.2)).Nodup→(∀ x ∈ l1,x.2.2<c1)→l1.length=putN f a n →
   MapB enc (putF f a (some w)) (putN f a n) (.map (ents enc l1).toArray c1)∧∀ (v:Value) (h':Hp),h' b=some (.map (ents enc l1).toArray c1)→∃ o2,entS h' (.map (some b)) (.int .i64 (st:Nat)) v=some (b,o2)∧MapB enc (putF f a (some v)) (putN f a n) o2:=by
  intro l1 c1 j st w hj k1 k2 k3 k4 k5
  refine ⟨⟨l1,c1,rfl,k1,k2,k3,k4,k5⟩,fun v h' hb'=>?_⟩
  unfold entS
  simp only [hb']
  have hi:(ents enc l1).toArray.findIdx? (fun e=>(e.born:Int)==(st:Int))=some j:=by
   rw [List.findIdx?_toArray]
   exact findIdx_born k3 hj
  rw [hi]
  refine ⟨_,rfl,l1.set j (a,v,st),c1,?_,?_,fun x=>?_,?_,?_,?_⟩
  ·rw [ents_modify hj (fun e=>{ e with val:=v }) rfl]
  ·rw [key_set hj];exact k1
  ·rw [getL_set x a v w st st l1 j k1 hj,k2]
   unfold putF
   by_cases hx:x=a <;> simp [hx]
  ·rw [stamp_set hj];exact k3
  ·intro x hx
   rcases List.mem_or_eq_of_mem_set hx with hx | hx
   ·exact k4 x hx
   ·subst hx;exact k4 (a,w,st) (List.mem_of_getElem? hj)
  ·rw [List.length_set,k5]
 unfold entH
 simp only [ht,hd,K.key,hz,hb,findV_ents K]
 cases hq:findL a l 0 with
 | none =>
  have hnot:=findL_none a l 0 hq
  have hfa:f a=none:=by rw [← hf,getL_nil hnot]
  have e1:(ents enc l).toArray.push { key:=enc a,val:=z,born:=c }=(ents enc (l++[(a,z,c)])).toArray:=by simp [ents]
  have k:=key (l++[(a,z,c)]) (c+1) l.length c z (by simp) (by
   rw [List.map_append]
   exact List.nodup_append.2 ⟨hn,by simp,fun x hx y hy=>by simp only [List.map_cons,List.map_nil,List.mem_singleton] at hy;subst hy;exact fun e=>hnot (e ▸ hx)⟩) (fun x=>by rw [getL_app _ _ _ _ _ hnot,hf];rfl) (by
   rw [List.map_append]
   refine List.nodup_append.2 ⟨hs,by simp,fun x hx y hy=>?_⟩
   simp only [List.map_cons,List.map_nil,List.mem_singleton] at hy
   subst hy
   obtain ⟨z,hz,rfl⟩:=List.mem_map.1 hx
   have:=hc z hz
   omega) (fun x hx=>by
   rcases List.mem_append.1 hx with hx | hx
   ·have:=hc x hx;omega
   ·simp only [List.mem_singleton] at hx;subst hx;exact Nat.lt_succ_self _) (by
   rw [List.length_append,hlen]
   unfold putN
   rw [hfa]
   rfl)
  rw [hfa]
  simp only [e1,Option.getD_none]
  exact ⟨_,_,rfl,k.1,k.2⟩
 | some jv =>
  obtain ⟨j,v'⟩:=jv
  obtain ⟨_,n',hj⟩:=findL_spec a l 0 j v' hq
  rw [Nat.sub_zero] at hj
  have hej:(ents enc l).toArray[j]? = some ⟨enc a,v',n'⟩:=by simp [ents,hj]
  have hfa:f a=some v':=by rw [← hf,← findL_get a l 0,hq];rfl
  have e1:(ents enc l).toArray.modify j (fun e=>{ e with key:=enc a })=(ents enc l).toArray:=by
   rw [ents_modify (v:=v') hj _ rfl]
   congr 2
   apply List.ext_getElem?
   intro i
   rw [List.getElem?_set]
   split
   ·rename_i hji
    subst hji
    rw [hj]
    simp [(List.getElem?_eq_some_iff.1 hj).1]
   ·rfl
  have k:=key l c j n' v' hj hn (fun x=>by
   rw [hf]
   unfold putF
   split
   ·rename_i hx;rw [hx,hfa]
   ·rfl) hs hc (by rw [hlen];unfold putN;rw [hfa];rfl)
  rw [hfa]
  simp only [hej,Option.map_some,Option.getD_some,K.same,if_true,e1]
  exact ⟨_,_,rfl,k.1,k.2⟩
def Itr (enc:α→Value) (f:α→Option Value) (n:Nat) (h:Hp) (it m:Nat) (ks:List α):Prop :=
 ∃ (l:List (α×Value×Nat)) (c since last:Nat) (seen:Array Nat),h m=some (.map (ents enc l).toArray c)∧h it=some (.mapIter (some m) since seen last)∧(l.map (·.1)).Nodup∧(∀ a,getL a l=f a)∧(l.map (·.2.2)).Nodup ∧
  (∀ x ∈ l,x.2.2<since)∧c=last∧since≤c∧l.length=n∧ks.Nodup∧(∀ x ∈ l,x.1 ∈ ks↔x.2.2 ∈ seen)∧(∀ a ∈ ks,a ∈ l.map (·.1))∧∀ a,ks.getLast? = some a→∃ x ∈ l,x.1=a∧seen.back? = some x.2.2
theorem Itr.agree {f:α→Option Value} {n:Nat} {h h':Hp} {it m:Nat} {ks:List α} (i:Itr enc f n h it m ks) (h1:h' it=h it) (h2:h' m=h m):Itr enc f n h' it m ks:=by
 obtain ⟨l,c,s,la,se,e1,e2,r⟩:=i
 exact ⟨l,c,s,la,se,h2.trans e1,h1.trans e2,r⟩
theorem Itr.le {f:α→Option Value} {n:Nat} {h h':Hp} {it m:Nat} {ks:List α} (i:Itr enc f n h it m ks) (hle:h.le h'):Itr enc f n h' it m ks:=by
 obtain ⟨l,c,s,la,se,e1,e2,r⟩:=i
 exact ⟨l,c,s,la,se,hle _ _ e1,hle _ _ e2,r⟩
theorem Itr.known {f:α→Option Value} {n:Nat} {h:Hp} {it m:Nat} {ks:List α} (i:Itr enc f n h it m ks):∃ o1 o2,h it=some o1∧h m=some o2:=by
 obtain ⟨l,c,s,la,se,e1,e2,r⟩:=i
 exact ⟨_,_,e2,e1⟩
theorem getL_mem {a:α}:∀ {l:List (α×Value×Nat)},a ∈ l.map (·.1)→getL a l≠none
 | [],h=>by cases h
 | y :: l,h=>by
  unfold getL
  split
  ·simp
  ·rename_i hne
   simp only [List.map_cons,List.mem_cons] at h
   exact getL_mem (h.resolve_left hne)
theorem Itr.told {f:α→Option Value} {n:Nat} {h:Hp} {it m:Nat} {ks:List α} (i:Itr enc f n h it m ks):ks.Nodup∧∀ a ∈ ks,f a≠none:=by
 obtain ⟨l,c,s,la,se,e1,e2,hn,hf,hs,hlt,hla,hlc,hlen,hk,hks,hin,hlast⟩:=i
 exact ⟨hk,fun a ha=>by rw [← hf];exact getL_mem (hin a ha)⟩
end
theorem Owns.put {k h h':Hp} {el size n:Nat} {s:Value} {cs:List Value} {b:Nat} {o o':Obj} (w:Owns k h el size s n cs) (hb:k b=some o) (hat:h' b=some o') (hot:∀ c,c≠b→h' c=h c):Owns (k.set b o') h' el size s n cs:=by
 obtain ⟨ob,g,hle,hno⟩:=w
 have hne:∀ c,ob=some c→c≠b:=fun c hc e=>by
  have:=hno c hc
  rw [e,hb] at this;cases this
 refine ⟨ob,g.agree fun x hx=>hot x (hne x hx),fun c x e=>?_,fun c hc=>?_⟩
 ·by_cases hcb:c=b
  ·subst hcb;rw [Hp.set_same] at e;cases e;exact hat
  ·rw [Hp.set_other _ _ hcb] at e;rw [hot c hcb];exact hle _ _ e
 ·rw [Hp.set_other _ _ (hne c hc)];exact hno c hc
theorem storePA {P:Program} {t el:TypeId} {n k:Nat} {a:Addr} {b:Nat} (ha:a=⟨b,k,none⟩) (hn:sizeT P t=some n) {h:Hp} {l l':List Value} {z:Value} (hb:h b=some (rowO el l)) (hk:k+n≤l.length) (hl:setL l k z.cells.toList=l') (hz:z.cells.toList.length=n) (h1:z.cells.toList.all Value.oneCell'=true):storeH P t h a z=some (b,rowO el l'):=by
 subst ha
 subst hl
 unfold storeH
 rw [hn]
 simp only [hb]
 have e1:z.cells.size=n:=by rw [← Array.length_toList];exact hz
 rw [if_pos (by
  simp only [Option.isNone_none,Bool.and_true,Bool.and_eq_true,beq_iff_eq,decide_eq_true_eq,List.size_toArray,h1,and_true]
  exact ⟨⟨e1,hk⟩,Nat.le_refl _⟩)]
theorem storeCA {P:Program} {t el:TypeId} {k:Nat} {a:Addr} {b:Nat} (ha:a=⟨b,k,none⟩) (ht:sizeT P t=some 1) {h:Hp} {l l':List Value} {z:Value} (hb:h b=some (rowO el l)) (hk:k<l.length) (hl:l.set k z=l') (hz:z.cells.toList=[z]) (h1:z.oneCell'=true):storeH P t h a z=some (b,rowO el l'):=by
 subst ha hl
 exact storeH_row ht hb hk hz h1
end Go.Mid
namespace Go.Proofs.YtdhlpighdlnohaaGreat
open Go Go.Mid Go.RowKit
attribute [local irreducible] mid
structure Cn where
 harts:Int
 stripes:Int
 lines:Int
 tlb:Int
def Cn.cs (c:Cn):List Value:=[.int .i64 c.harts,.int .i64 c.stripes,.int .i64 c.lines,.int .i64 c.tlb]
def wrightB (c:Cn):Bool:=decide (1≤c.harts∧c.harts≤8) && decide (1≤c.stripes∧c.stripes≤64) && decide (1≤c.lines∧c.lines≤4096) && decide (1≤c.tlb∧c.tlb≤32)
section
variable {h:Hp} {K:Value→Hp→Prop}
theorem wwithin_x (n m:Int) (hk:K (.bool (decide (1≤n∧n≤m))) h):X Tryz.prog 76 #[.int .i64 n,.int .i64 m] h K:=by
 refine fnv (args:=_) mixed [] [] [] Tryz.func76 rfl (by kernel_rfl) (cw_ ?_)
 refine br_ (fun q1=>?_) fun q1=>?_
 ·conv=>whnf
  exact kq hk (bI (by rw [Bool.eq_iff_iff];simp;omega))
 ·conv=>whnf
  exact kq hk (bI (by rw [Bool.eq_iff_iff];simp;omega))
theorem wright_x (c:Cn) (hk:K (.bool (wrightB c)) h):X Tryz.prog 33 #[.agg c.cs.toArray] h K:=by
 obtain ⟨a,b,d,e⟩:=c
 unfold wrightB at hk
 refine fnv (args:=_) mixed [(1,1),(3,1),(7,1),(12,1),(17,1)] [] [] Tryz.func33 rfl (by kernel_rfl) (cw_ ?_)
 refine wwithin_x a 8 (cw_ ?_)
 cases h1:decide (1≤a∧a≤8) with
 | false=>rw [h1] at hk;exact hk
 | true =>
  rw [h1] at hk
  conv=>whnf
  refine wwithin_x b 64 (cw_ ?_)
  cases h2:decide (1≤b∧b≤64) with
  | false=>rw [h2] at hk;exact hk
  | true =>
   rw [h2] at hk
   conv=>whnf
   refine wwithin_x d 4096 (cw_ ?_)
   cases h3:decide (1≤d∧d≤4096) with
   | false=>rw [h3] at hk;exact hk
   | true =>
    rw [h3] at hk
    conv=>whnf
    refine wwithin_x e 32 (cw_ ?_)
    exact hk
end
end Go.Proofs.YtdhlpighdlnohaaGreat
namespace Go.Proofs.YtdhlpighdlnohaaGreat
open Go Go.Bits
structure Sho where
 req:Rq
 mask:Nat
 next:Int
structure Tn where
 at_:Int
 lines:Nat
 wk:Wk
 word:Nat
 x:Ins
 e:Ef
 ask:Ak
 shot:Sho
def Ins.zero:Ins:=⟨0,0,0,0,0,0,false,false⟩
def Sho.zero:Sho:=⟨.zero,0,0⟩
def Tn.zero:Tn:=⟨0,0,.zero,0,.zero,.zero,.zero,.zero⟩
structure Hd where
 id:Int
 c:Cn
 r:List Nat
 f:Csf
 pc:Nat
 priv:Int
 L:List En
 live:Bool
 parked:Bool
 turns:Int
 retired:Int
 t:Tn
 told:List Ak
structure TlbF where
 find:List En→Int→Nat→Option En
 add:Int→List En→En→List En
 forgets:Rq→En→Bool
section
variable (T:TlbF)
def setR (r:List Nat) (i:Int) (v:Nat):List Nat:=if 1≤i∧i<32 then r.set i.toNat v else r
def Hd.note (h:Hd) (a:Ak):Hd:={ h with told:=h.told++[a] }
def Hd.forget (h:Hd) (q:Rq):Hd:=({ h with L:=h.L.filter fun e=>!T.forgets q e }).note { Ak.zero with kind:=17,req:=q }
def Hd.drain (h:Hd) (m:List Rq):Hd:=m.foldl (fun h q=>if q.s then h.forget T q else h) h
def Hd.fin (h:Hd) (ret:Bool):Hd:={ h with f:=h.f.turn ret,turns:=IntKind.i64.wrap (h.turns+1),retired:=if ret then IntKind.i64.wrap (h.retired+1) else h.retired,t:=.zero }
def Hd.retire (h:Hd) (next:Nat):Hd:=({ h with pc:=next }).fin true
def Hd.trap (h:Hd) (c:Cau) (tval:Nat):Hd:=({ h with priv:=trapTo h.f c h.priv,pc:=trapPc h.f c h.priv h.pc tval,f:=trapF h.f c h.priv h.pc tval,live:=false }).fin false
def Hd.illegal (h:Hd):Hd:=h.trap ⟨false,2⟩ h.t.word
def rootN (satp:Nat):Nat:=satp % 2 ^ 44
def asidN (satp:Nat):Nat:=satp / 2 ^ 44 % 65536
def transB (satp:Nat) (priv:Int):Bool:=decide (satp / 2 ^ 60=8) && decide (priv=0∨priv=1)
def Hd.quest (h:Hd) (va:Nat) (access priv:Int):Qu:=⟨h.c.lines,rootN (h.f.at 384),va,access,priv,bitB (h.f.at 768) 18,bitB (h.f.at 768) 19⟩
def usableB (e:En) (q:Qu):Bool:=decide (markN e.pte q.access=e.pte) && letsP e.pte q.access q.priv q.sum q.mxr
def frameN (p:Nat) (l:Int) (va:Nat):Nat:=if 0≤l∧l≤2 then ppnN p*2 ^ 12 / 2 ^ (12+9*l.toNat)*2 ^ (12+9*l.toNat)+va % 2 ^ (12+9*l.toNat) else 0
def Hd.use (h:Hd) (e:En) (va:Nat):Hd:=h.note { Ak.zero with kind:=16,addr:=va,ent:=e }
def Hd.beginW (h:Hd) (va:Nat) (access priv:Int):Hd:={ h with t:={ h.t with wk:=.begin (h.quest va access priv) } }
def Hd.translate (h:Hd) (va:Nat) (access priv:Int):Hd×Option Nat :=
 if !transB (h.f.at 384) priv then (h,some va)
 else match T.find h.L (asidN (h.f.at 384)) va with
  | some e=>if usableB e (h.quest va access priv) then (h.use e va,some (frameN e.pte e.level va)) else (h.beginW va access priv,none)
  | none=>(h.beginW va access priv,none)
def accCode (access:Int) (a b c:Int):Cau:=⟨false,if access=0 then a else if access=1 then b else c⟩
def Hd.filled (h:Hd):En:={ h.t.wk.found with asid:=asidN (h.f.at 384) }
def Hd.walked (h:Hd):Hd×Option Nat :=
 if h.t.wk.end_=0 then (h,none)
 else if h.t.wk.end_=2 then (h.trap (accCode h.t.wk.q.access 12 13 15) h.t.wk.q.va,none)
 else if h.t.wk.end_=3 then (h.trap (accCode h.t.wk.q.access 1 5 7) h.t.wk.q.va,none)
 else ((({ h with L:=T.add h.c.tlb h.L h.filled }).note { Ak.zero with kind:=15,addr:=h.t.wk.q.va,ent:=h.filled }).use h.filled h.t.wk.q.va,some (frameN h.filled.pte h.filled.level h.t.wk.q.va))
def memB (lines:Int) (addr:Nat) (n:Int):Bool:=decide (2147483648≤addr∧(addr:Int) - 2147483648<64*lines∧n≤64*lines - ((addr:Int) - 2147483648))
def Hd.fetchAt (h:Hd) (pa:Nat):Hd :=
 if memB h.c.lines pa 4 then { h with t:={ h.t with at_:=3,ask:={ Ak.zero with kind:=1,addr:=pa,size:=4 } } } else h.trap ⟨false,1⟩ h.pc
def Hd.fetchWalked (h:Hd):Hd:=match h.walked T with
 | (h,some pa)=>h.fetchAt pa
 | (h,none)=>h
def Hd.fetch (h:Hd):Hd:=match h.translate T h.pc 0 h.priv with
 | (h,some pa)=>h.fetchAt pa
 | (h,none)=>({ h with t:={ h.t with at_:=2 } }).fetchWalked T
def splN (va:Nat) (size:Int):Nat:=if size<1∨8<size∨size≤((4096 - va % 4096:Nat):Int) then 0 else 4096 - va % 4096
def fitsB (fits:Int→Nat→Int→Bool) (c:Cn) (a:Ak):Bool:=decide (a.cut=0) && fits c.harts a.addr a.size
variable (fits:Int→Nat→Int→Bool)
def Hd.inMem (h:Hd):Bool:=memB h.c.lines h.t.ask.addr (if 0<h.t.ask.cut then h.t.ask.cut else h.t.ask.size) && (decide (h.t.ask.cut=0) || memB h.c.lines h.t.ask.next (h.t.ask.size - h.t.ask.cut))
def Hd.opAsk (h:Hd):Ak:=if h.t.ask.kind=6 then { h.t.ask with live:=h.live,op:=h.t.x.op } else if h.t.ask.kind=4∨h.t.ask.kind=5 then { h.t.ask with op:=h.t.x.op } else h.t.ask
def Hd.reach (h:Hd):Hd :=
 let a:=h.t.ask
 if h.inMem then
  { h with t:={ h.t with at_:=5,ask:=h.opAsk } }
 else if a.kind=2∧fitsB fits h.c a=true then { h with t:={ h.t with at_:=5,ask:={ a with kind:=9 } } }
 else if a.kind=3∧fitsB fits h.c a=true then { h with t:={ h.t with at_:=5,ask:={ a with kind:=10 } } }
 else h.trap (accCode h.t.e.access 1 5 7) h.t.e.va
def Hd.partAt2 (h:Hd) (pa:Nat):Hd:=({ h with t:={ h.t with ask:={ h.t.ask with next:=pa } } }).reach fits
def Hd.dataWalked2 (h:Hd):Hd:=match h.walked T with
 | (h,some pa)=>h.partAt2 fits pa
 | (h,none)=>h
def Hd.part2 (h:Hd) (va:Nat):Hd:=match h.translate T va h.t.e.access (dataP (h.f.at 768) h.priv) with
 | (h,some pa)=>h.partAt2 fits pa
 | (h,none)=>({ h with t:={ h.t with at_:=4 } }).dataWalked2 T fits
def Hd.partAt (h:Hd) (pa:Nat):Hd :=
 if 0<h.t.ask.cut then h.partAt2 fits pa
 else if 0<splN h.t.e.va h.t.e.size then ({ h with t:={ h.t with ask:={ h.t.ask with addr:=pa,cut:=splN h.t.e.va h.t.e.size } } }).part2 T fits ((h.t.e.va+splN h.t.e.va h.t.e.size) % 18446744073709551616)
 else ({ h with t:={ h.t with ask:={ h.t.ask with addr:=pa } } }).reach fits
def Hd.dataWalked (h:Hd):Hd:=match h.walked T with
 | (h,some pa)=>h.partAt T fits pa
 | (h,none)=>h
def Hd.part (h:Hd) (va:Nat):Hd:=match h.translate T va h.t.e.access (dataP (h.f.at 768) h.priv) with
 | (h,some pa)=>h.partAt T fits pa
 | (h,none)=>({ h with t:={ h.t with at_:=4 } }).dataWalked T fits
def Hd.access (h:Hd):Hd:=({ h with t:={ h.t with ask:={ Ak.zero with kind:=h.t.e.ask,size:=h.t.e.size,data:=h.t.e.data } } }).part T fits h.t.e.va
def Hd.landed (h:Hd) (data:Nat) (good:Bool):Hd :=
 let h1:={ h with r:=setR h.r h.t.e.rd (landsN h.t.x.op data good),live:=if h.t.ask.kind=5 then true else if h.t.ask.kind=6 then false else h.live }
 h1.retire h.t.e.next
def afterN (mask:Nat):Nat→Nat→Option Nat
 | 0,_=>none
 | f+1,g=>if mask / 2 ^ g % 2=1 then some g else afterN mask f (g+1)
def Sho.after (s:Sho) (g:Nat):Option Nat:=afterN s.mask (8 - g) g
def Hd.hit (h:Hd):Hd:=({ h with r:=setR h.r h.t.x.rd 0 }).retire (n4 h.pc)
def plainQ (r:Rq):Rq:={ r with va:=if r.v then r.va else 0,asid:=if r.a then r.asid else 0 }
def Hd.operand (h:Hd):Nat:=if 92≤h.t.x.op∧h.t.x.op≤94 then (h.t.x.rs1 % 18446744073709551616).toNat else regN h.r h.t.x.rs1
def Hd.shootM (h:Hd):Nat:=if h.t.x.op=91∨h.t.x.op=94 then 0 else h.operand
def Hd.shootR (h:Hd):Rq:=plainQ ⟨true,decide (h.shootM / 2 ^ 8 % 2=1),decide (h.shootM / 2 ^ 9 % 2=1),h.f.at 1472,IntKind.i64.wrap (h.f.at 1473:Nat)⟩
def Hd.shoot (h:Hd):Hd :=
 let h1:=if h.shootM / 2 ^ h.id.toNat % 2=1 then h.forget T h.shootR else h
 let s:Sho:=⟨h.shootR,andN (h.shootM % 2 ^ h.c.harts.toNat) (2 ^ h.id.toNat),0⟩
 match s.after 0 with
 | none=>({ h1 with t:={ h1.t with shot:=s } }).hit
 | some g=>{ h1 with t:={ h1.t with shot:={ s with next:=g },at_:=7 } }
def Hd.posted (h:Hd):Hd:=match h.t.shot.after (h.t.shot.next+1).toNat with
 | some g=>{ h with t:={ h.t with shot:={ h.t.shot with next:=g } } }
 | none=>match h.t.shot.after 0 with
  | some g=>{ h with t:={ h.t with shot:={ h.t.shot with next:=g },at_:=8 } }
  | none=>{ h with t:={ h.t with at_:=8 } }
def Hd.checked (h:Hd) (good:Bool):Hd :=
 if good then match h.t.shot.after (h.t.shot.next+1).toNat with
  | some g=>{ h with t:={ h.t with shot:={ h.t.shot with next:=g },at_:=8 } }
  | none=>h.hit
 else { h with t:={ h.t with at_:=8 } }
def Hd.control (h:Hd):Hd :=
 let wr:=writesB h.t.x.op h.t.x.rs1
 if !h.f.may h.t.x.csr h.priv wr then h.illegal
 else if h.t.x.csr=3073 then { h with t:={ h.t with at_:=6,ask:={ Ak.zero with kind:=9,addr:=33603576,size:=8 } } }
 else if h.t.x.csr=1474∧wr=true then h.shoot T
 else ({ h with r:=setR h.r h.t.x.rd (h.f.doR h.t.x.op h.t.x.csr h.t.lines),f:=h.f.doF h.t.x.op h.t.x.csr h.t.x.rs1 h.operand }).retire (n4 h.pc)
def Hd.leave (h:Hd) (a:Int):Hd :=
 let f:=h.f.set 768 (leaveW (h.f.at 768) a)
 ({ h with priv:=leaveP (h.f.at 768) a,f:=f,pc:=f.at (if a=1 then 321 else 833) }).fin true
def Hd.fence (h:Hd):Hd:=(h.forget T (plainQ ⟨true,decide (h.t.x.rs1≠0),decide (h.t.x.rs2≠0),regN h.r h.t.x.rs1,(regN h.r h.t.x.rs2 % 65536:Nat)⟩)).retire (n4 h.pc)
def Hd.lets (h:Hd) (bit:Nat):Bool:=decide (h.priv=3) || (decide (h.priv=1) && !bitB (h.f.at 768) bit)
def Hd.system (h:Hd):Hd :=
 if csrOpB h.t.x.op then h.control T
 else if h.t.x.op=95∧h.priv=3 then h.leave 3
 else if h.t.x.op=96∧h.lets 22=true then h.leave 1
 else if h.t.x.op=97∧h.lets 21=true then ({ h with parked:=true }).retire (n4 h.pc)
 else if h.t.x.op=98∧h.lets 20=true then h.fence T
 else h.illegal
variable (dec:Nat→Option Ins)
def Hd.decode (h:Hd):Hd:=match dec h.t.word with
 | none=>h.illegal
 | some x =>
  let e:=execE x h.pc h.r h.priv
  let h1:={ h with t:={ h.t with x:=x,e:=e } }
  if e.kind=1 then ({ h1 with r:=setR h.r e.rd e.value }).retire e.next
  else if e.kind=2 then h1.trap e.cause e.tval
  else if e.kind=3 then h1.access T fits
  else h1.system T
def Hd.wake (h:Hd):Hd :=
 if h.parked && decide (waitN h.f h.t.lines=0) then { h with t:=.zero }
 else match irqN h.f h.priv h.t.lines with
  | some c=>({ h with parked:=false }).trap c 0
  | none=>({ h with parked:=false }).fetch T
def Hd.ask (h:Hd):Ak :=
 if h.t.at_=0∨h.t.at_=8 then { Ak.zero with kind:=12 }
 else if h.t.at_=1 then { Ak.zero with kind:=11 }
 else if h.t.at_=2∨h.t.at_=4 then h.t.wk.ask
 else if h.t.at_=7 then { Ak.zero with kind:=13,hart:=h.t.shot.next,req:=h.t.shot.req }
 else if h.t.at_=9 then { Ak.zero with kind:=14,hart:=h.t.shot.next }
 else h.t.ask
def Hd.go (h:Hd) (b:An):Hd :=
 if h.t.at_=0 then (let h1:=h.drain T b.ms;{ h1 with t:={ h1.t with at_:=1 } })
 else if h.t.at_=1 then ({ h with t:={ h.t with lines:=b.data } }).wake T
 else if h.t.at_=2 then ({ h with t:={ h.t with wk:=h.t.wk.tell b.data b.good } }).fetchWalked T
 else if h.t.at_=3 then ({ h with t:={ h.t with word:=b.data % 4294967296 } }).decode T fits dec
 else if h.t.at_=4 then ({ h with t:={ h.t with wk:=h.t.wk.tell b.data b.good } }).dataWalked T fits
 else if h.t.at_=5 then h.landed b.data b.good
 else if h.t.at_=6 then ({ h with r:=setR h.r h.t.x.rd b.data }).retire (n4 h.pc)
 else if h.t.at_=7 then h.posted
 else if h.t.at_=8 then (let h1:=h.drain T b.ms;{ h1 with t:={ h1.t with at_:=9 } })
 else h.checked b.good
def Hd.tell (h:Hd) (b:An):Hd×List Ak:=let h1:=h.go T fits dec b;({ h1 with told:=[] },h1.told)
end
end Go.Proofs.YtdhlpighdlnohaaGreat
namespace Go.Proofs.YtdhlpighdlnohaaGreat
open Go Go.Mid Go.RowKit
attribute [local irreducible] mid
structure Pa (h:Hp) (b o:Nat) (el:TypeId) (A cs B:List Value):Prop where
 row:h b=some (rowO el (A++(cs++B)))
 len:A.length=o
theorem Pa.le {h h':Hp} {b o:Nat} {el:TypeId} {A cs B:List Value} (p:Pa h b o el A cs B) (hle:h.le h'):Pa h' b o el A cs B:=⟨hle _ _ p.row,p.len⟩
theorem pa_get {A cs B:List Value} {o i:Nat} {v:Value} (hA:A.length=o) (hi:cs[i]? = some v):(A++(cs++B))[o+i]? = some v:=by
 subst hA
 rw [List.getElem?_append_right (by omega),Nat.add_sub_cancel_left,List.getElem?_append_left (List.getElem?_eq_some_iff.1 hi).1,hi]
theorem pa_set {A cs B:List Value} {o i:Nat} {v:Value} (hA:A.length=o) (hi:i<cs.length):(A++(cs++B)).set (o+i) v=A++(cs.set i v++B):=by
 subst hA
 rw [List.set_append_right _ _ (by omega),Nat.add_sub_cancel_left,List.set_append_left _ _ hi]
theorem pa_cut {A cs B x:List Value} {o i n:Nat} (hA:A.length=o) (hx:(cs.drop i).take n=x) (hl:x.length=n):((A++(cs++B)).drop (o+i)).take n=x:=by
 subst hA
 rw [← List.drop_drop,List.drop_left,List.drop_append,List.take_append]
 have h1:(cs.drop i).length=cs.length - i:=List.length_drop ..
 by_cases hn:i≤cs.length
 ·have:n≤cs.length - i:=by rw [← hx,List.length_take,h1] at hl;omega
  rw [hx,show n - (cs.drop i).length=0 by omega,List.take_zero,List.append_nil]
 ·have h0:n=0:=by rw [← hx,List.length_take,h1] at hl;omega
  subst h0
  rw [List.take_zero] at hx
  rw [← hx]
  simp
theorem setL_in {A cs B y:List Value} {i:Nat} (h:i+y.length≤cs.length):setL (A++(cs++B)) (A.length+i) y=A++(setL cs i y++B):=by
 induction y generalizing i cs with
 | nil=>rfl
 | cons v y ih =>
  simp only [List.length_cons] at h
  rw [setL,setL,pa_set rfl (by omega),Nat.add_assoc,ih (by rw [List.length_set];omega)]
theorem pa_setL {A cs B y cs':List Value} {o i:Nat} (hA:A.length=o) (h:i+y.length≤cs.length) (e:setL cs i y=cs'):setL (A++(cs++B)) (o+i) y=A++(cs'++B):=by
 subst hA
 rw [setL_in h,e]
section
variable {P:Program} {t el:TypeId} {h:Hp} {b o:Nat} {A cs B:List Value}
theorem Pa.ld (p:Pa h b o el A cs B) (i:Nat) {v:Value} {a:Addr} (ht:isAggT P t=some false) (hi:cs[i]? = some v) (ha:a=⟨b,o+i,none⟩:=by first | rfl | (simp [addr_add];done) | (simp [addr_add];omega)):loadH P t h a=some v :=
 loadCA ha ht p.row (pa_get p.len hi)
theorem Pa.ldA (p:Pa h b o el A cs B) (i:Nat) {n:Nat} {x:List Value} {a:Addr} (ht:isAggT P t=some true) (hn:sizeT P t=some n) (hx:(cs.drop i).take n=x) (hl:x.length=n) (hpos:0<n:=by decide) (ha:a=⟨b,o+i,none⟩:=by first | rfl | (simp [addr_add];done) | (simp [addr_add];omega)):loadH P t h a=some (.agg x.toArray) :=
 loadPA ha ht hn p.row (pa_cut p.len hx hl) hl hpos
theorem Pa.st (p:Pa h b o el A cs B) (i:Nat) {z:Value} {a:Addr} (ht:sizeT P t=some 1) (hi:i<cs.length) (hz:z.cells.toList=[z]) (h1:z.oneCell'=true) (ha:a=⟨b,o+i,none⟩:=by first | rfl | (simp [addr_add];done) | (simp [addr_add];omega)):storeH P t h a z=some (b,rowO el (A++(cs.set i z++B))) :=
 storeCA ha ht p.row (by rw [List.length_append,List.length_append,p.len];omega) (pa_set p.len hi) hz h1
theorem Pa.stA (p:Pa h b o el A cs B) (i:Nat) {n:Nat} {z:Value} {cs':List Value} {a:Addr} (hn:sizeT P t=some n) (hi:i+n≤cs.length) (e:setL cs i z.cells.toList=cs') (hz:z.cells.toList.length=n) (h1:z.cells.toList.all Value.oneCell'=true) (ha:a=⟨b,o+i,none⟩:=by first | rfl | (simp [addr_add];done) | (simp [addr_add];omega)):storeH P t h a z=some (b,rowO el (A++(cs'++B))) :=
 storePA ha hn p.row (by rw [List.length_append,List.length_append,p.len];omega) (pa_setL p.len (by rw [hz];exact hi) e) hz h1
end
end Go.Proofs.YtdhlpighdlnohaaGreat
namespace Go.Bits
def placesL:Nat→List Int
 | 2=>[20,21,22,23,24,25,26,27,28,29,30,31]
 | 3=>[7,8,9,10,11,25,26,27,28,29,30,31]
 | 4=>[-1,8,9,10,11,25,26,27,28,29,30,7,31]
 | 5=>[-1,-1,-1,-1,-1,-1,-1,-1,-1,-1,-1,-1,12,13,14,15,16,17,18,19,20,21,22,23,24,25,26,27,28,29,30,31]
 | 6=>[-1,21,22,23,24,25,26,27,28,29,30,20,12,13,14,15,16,17,18,19,31]
 | 7=>[20,21,22,23,24,25]
 | 8=>[20,21,22,23,24]
 | _=>[]
def signedB:Nat→Bool
 | 2 | 3 | 4 | 5 | 6=>true
 | _=>false
def immBits (ps:List Int) (w:Nat):List Nat:=ps.map fun p=>if 0≤p then bitN w p.toNat else 0
def immN (f w:Nat):Nat:=if signedB f then signN (ofL (immBits (placesL f) w)) (placesL f).length else ofL (immBits (placesL f) w)
def once:List Int→Bool
 | []=>true
 | p :: ps=>(decide (p<0) || !(ps.contains p)) && decide (p<64) && once ps
theorem immBits_lt (ps:List Int) (w:Nat):ofL (immBits ps w)<2 ^ ps.length:=by
 have:=ofL_lt (immBits ps w) (fun b hb=>by obtain ⟨p,_,rfl⟩:=List.mem_map.1 hb;split <;> first | exact bitN_lt _ _ | decide)
 unfold immBits at this ⊢
 rwa [List.length_map] at this
def i64N (w:Nat):Int:=if w<9223372036854775808 then w else (w:Int) - 18446744073709551616
def fits (f:Nat) (n:Int):Bool:=match f with
 | 2 | 3=>decide (-2048≤n∧n≤2047)
 | 4=>decide (-4096≤n∧n≤4095∧n % 2=0)
 | 5=>decide (-2147483648≤n∧n≤2147483647∧n % 4096=0)
 | 6=>decide (-1048576≤n∧n<1048576∧n % 2=0)
 | 7=>decide (0≤n∧n≤63)
 | 8=>decide (0≤n∧n≤31)
 | _=>true
end Go.Bits
