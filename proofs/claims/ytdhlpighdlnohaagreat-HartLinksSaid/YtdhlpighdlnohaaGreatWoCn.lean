/-
  Worlds: configurations.
-/
import Derived.Test.YtdhlpighdlnohaaGreatBitP
import Derived.Test.YtdhlpighdlnohaaGreatLib0
set_option linter.unusedSimpArgs false
set_option linter.unusedVariables false
set_option maxHeartbeats 8000000
set_option maxRecDepth 10000
set_option linter.unusedSimpArgs false
set_option linter.unusedVariables false
namespace Go.Proofs.YtdhlpighdlnohaaGreat
open Go Go.Mid Go.RowKit
attribute [local irreducible] mid
structure Rq where
 s:Bool
 v:Bool
 a:Bool
 va:Nat
 asid:Int
structure En where
 asid:Int
 page:Nat
 level:Int
 pte:Nat
structure Ak where
 kind:Int
 addr:Nat
 next:Nat
 cut:Int
 size:Int
 op:Int
 data:Nat
 old:Nat
 live:Bool
 hart:Int
 req:Rq
 ent:En
structure An where
 data:Nat
 good:Bool
 m0:Rq
 m1:Rq
 m2:Rq
 m3:Rq
 m4:Rq
 m5:Rq
 m6:Rq
 m7:Rq
structure Ev where
 hart:Int
 ask:Ak
 ans:An
 from_:Int
 at_:Int
 to:Int
abbrev Rq.cs (q:Rq):List Value:=[.bool q.s,.bool q.v,.bool q.a,.int .u64 q.va,.int .i64 q.asid]
abbrev En.cs (q:En):List Value:=[.int .i64 q.asid,.int .u64 q.page,.int .i64 q.level,.int .u64 q.pte]
def Ak.cs (a:Ak):List Value:=[.int .i64 a.kind,.int .u64 a.addr,.int .u64 a.next,.int .i64 a.cut,.int .i64 a.size,.int .i64 a.op,.int .u64 a.data,.int .u64 a.old,.bool a.live,.int .i64 a.hart]++(a.req.cs++a.ent.cs)
def An.ms (b:An):List Rq:=[b.m0,b.m1,b.m2,b.m3,b.m4,b.m5,b.m6,b.m7]
def An.cs (b:An):List Value:=[.int .u64 b.data,.bool b.good]++b.ms.flatMap Rq.cs
def Ev.cs (e:Ev):List Value:=[.int .i64 e.hart]++(e.ask.cs++(e.ans.cs++[.int .i64 e.from_,.int .i64 e.at_,.int .i64 e.to]))
def Rq.val (q:Rq):Value:=.agg q.cs.toArray
def Ak.val (a:Ak):Value:=.agg a.cs.toArray
def An.val (b:An):Value:=.agg b.cs.toArray
def Ev.val (e:Ev):Value:=.agg e.cs.toArray
attribute [irreducible] Ak.val An.val Ev.val Rq.val
structure Rq.ok (q:Rq):Prop where
 va:q.va<18446744073709551616
 lo : -9223372036854775808≤q.asid
 hi:q.asid≤9223372036854775807
abbrev Rq.zero:Rq:=⟨false,false,false,0,0⟩
abbrev En.zero:En:=⟨0,0,0,0⟩
abbrev An.zero:An:=⟨0,false,Rq.zero,Rq.zero,Rq.zero,Rq.zero,Rq.zero,Rq.zero,Rq.zero,Rq.zero⟩
theorem aggRq:isAggT Tryz.prog 60 = some true:=by kernel_rfl
theorem sizRq:sizeT Tryz.prog 60 = some 5:=by kernel_rfl
theorem aggAk:isAggT Tryz.prog 80 = some true:=by kernel_rfl
theorem sizAk:sizeT Tryz.prog 80 = some 19:=by kernel_rfl
theorem aggAn:isAggT Tryz.prog 86 = some true:=by kernel_rfl
theorem sizAn:sizeT Tryz.prog 86 = some 42:=by kernel_rfl
structure En.ok (q:En):Prop where
 lo : -9223372036854775808≤q.asid
 hi:q.asid≤9223372036854775807
 pg:q.page<18446744073709551616
 lo2 : -9223372036854775808≤q.level
 hi2:q.level≤9223372036854775807
 pt:q.pte<18446744073709551616
structure Ak.ok (a:Ak):Prop where
 addr:a.addr<18446744073709551616
 next:a.next<18446744073709551616
 cut0 : -9223372036854775808≤a.cut
 cut1:a.cut≤9223372036854775807
 size0 : -9223372036854775808≤a.size
 size1:a.size≤9223372036854775807
 data:a.data<18446744073709551616
 old:a.old<18446744073709551616
 hart0 : -9223372036854775808≤a.hart
 hart1:a.hart≤9223372036854775807
 req:a.req.ok
 ent:a.ent.ok
structure An.ok (b:An):Prop where
 data:b.data<18446744073709551616
 ms:∀ q ∈ b.ms,q.ok
structure Ev.ok (e:Ev):Prop where
 hart0 : -9223372036854775808≤e.hart
 hart1:e.hart≤9223372036854775807
 ask:e.ask.ok
 ans:e.ans.ok
 from0 : -9223372036854775808≤e.from_
 from1:e.from_≤9223372036854775807
 at0 : -9223372036854775808≤e.at_
 at1:e.at_≤9223372036854775807
 to0 : -9223372036854775808≤e.to
 to1:e.to≤9223372036854775807
section
variable {h:Hp} {K:Value→Hp→Prop}
abbrev shRq:Sh:=.struct [.bool,.bool,.bool,(.int .u64),(.int .i64)]
abbrev shEn:Sh:=.struct [(.int .i64),(.int .u64),(.int .i64),(.int .u64)]
abbrev shAn:Sh:=.struct [(.int .u64),.bool,(.array 8 shRq)]
theorem rq_of {cs:List Value} (w:Wf h shRq cs):∃ q:Rq,q.ok∧cs=q.cs:=by
 obtain ⟨a1,b1,rfl,w1,w⟩:=wfC (wfS w)
 obtain ⟨a2,b2,rfl,w2,w⟩:=wfC w
 obtain ⟨a3,b3,rfl,w3,w⟩:=wfC w
 obtain ⟨a4,b4,rfl,w4,w⟩:=wfC w
 obtain ⟨a5,b5,rfl,w5,w⟩:=wfC w
 obtain rfl:=wfN w
 obtain ⟨x1,rfl⟩:=wfB w1
 obtain ⟨x2,rfl⟩:=wfB w2
 obtain ⟨x3,rfl⟩:=wfB w3
 obtain ⟨x4,rfl,p4⟩:=wfU w4
 obtain ⟨x5,rfl,p5,q5⟩:=wfI w5
 exact ⟨⟨x1,x2,x3,x4,x5⟩,⟨p4,p5,q5⟩,rfl⟩
theorem en_of {cs:List Value} (w:Wf h shEn cs):∃ q:En,q.ok∧cs=q.cs:=by
 obtain ⟨a1,b1,rfl,w1,w⟩:=wfC (wfS w)
 obtain ⟨a2,b2,rfl,w2,w⟩:=wfC w
 obtain ⟨a3,b3,rfl,w3,w⟩:=wfC w
 obtain ⟨a4,b4,rfl,w4,w⟩:=wfC w
 obtain rfl:=wfN w
 obtain ⟨x1,rfl,p1,q1⟩:=wfI w1
 obtain ⟨x2,rfl,p2⟩:=wfU w2
 obtain ⟨x3,rfl,p3,q3⟩:=wfI w3
 obtain ⟨x4,rfl,p4⟩:=wfU w4
 exact ⟨⟨x1,x2,x3,x4⟩,⟨p1,q1,p2,p3,q3,p4⟩,rfl⟩
theorem an_of {cs:List Value} (w:Wf h shAn cs):∃ q:An,q.ok∧cs=q.cs:=by
 obtain ⟨a1,b1,rfl,w1,w⟩:=wfC (wfS w)
 obtain ⟨a2,b2,rfl,w2,w⟩:=wfC w
 obtain ⟨a3,b3,rfl,w3,w⟩:=wfC w
 obtain rfl:=wfN w
 obtain ⟨x1,rfl,p1⟩:=wfU w1
 obtain ⟨x2,rfl⟩:=wfB w2
 obtain ⟨l,hl,ho,rfl⟩:=wfA (fun _=>rq_of) w3
 match l,hl with
 | [m0,m1,m2,m3,m4,m5,m6,m7],_=>exact ⟨⟨x1,x2,m0,m1,m2,m3,m4,m5,m6,m7⟩,⟨p1,ho⟩,by simp [An.cs,An.ms]⟩
end
end Go.Proofs.YtdhlpighdlnohaaGreat
namespace Go.Proofs.YtdhlpighdlnohaaGreat
open Go Go.Bits
structure Qu where
 lines:Int
 root:Nat
 va:Nat
 access:Int
 priv:Int
 sum:Bool
 mxr:Bool
structure Wk where
 made:Bool
 q:Qu
 fin:Int
 level:Nat
 place:Nat
 entry:Nat
 mark:Bool
 again:Int
def Qu.zero:Qu:=⟨0,0,0,0,0,false,false⟩
def Wk.zero:Wk:=⟨false,.zero,0,0,0,0,false,0⟩
def entryN (ppn va l:Nat):Nat:=ppn % 2 ^ 44*2 ^ 12+placeN va l*8
def hasB (lines:Int) (a:Nat):Bool:=decide (1≤lines∧lines≤4096∧2147483648≤a∧(a:Int) - 2147483648+8≤64*lines)
def letsP (p:Nat) (access priv:Int) (sum mxr:Bool):Bool :=
 (if access=0 then decide (bitN p 3=1) else if access=1 then decide (bitN p 1=1) || (mxr && decide (bitN p 3=1)) else if access=2 then decide (bitN p 2=1) else false) &&
 (if priv=0 then decide (bitN p 4=1) else !decide (bitN p 4=1) || (sum && !decide (access=0)))
def markN (p:Nat) (access:Int):Nat:=if access=2 then p ||| 64 ||| 128 else p ||| 64
def Wk.look (w:Wk) (ppn l:Nat):Wk:={ w with mark:=false,entry:=0,level:=l,place:=entryN ppn w.q.va l,fin:=if hasB w.q.lines (entryN ppn w.q.va l) then w.fin else 3 }
def Wk.start (w:Wk):Wk:=w.look w.q.root 2
def Wk.begin (q:Qu):Wk:=if mayN q.va then ({ Wk.zero with made:=true,q:=q }).start else { Wk.zero with made:=true,q:=q,fin:=2 }
def Wk.ended (w:Wk):Bool:=!w.made || decide (w.fin≠0)
def Ak.zero:Ak:=⟨0,0,0,0,0,0,0,0,false,0,.zero,⟨0,0,0,0⟩⟩
def Wk.ask (w:Wk):Ak:=if w.ended then .zero else if w.mark then { Ak.zero with kind:=8,addr:=w.place,size:=8,old:=w.entry,data:=markN w.entry w.q.access } else { Ak.zero with kind:=7,addr:=w.place,size:=8 }
def Wk.tell (w:Wk) (data:Nat) (good:Bool):Wk :=
 if w.ended then w
 else if w.mark then (if good then { w with entry:=markN w.entry w.q.access,fin:=1,mark:=false } else ({ w with again:=IntKind.i64.wrap (w.again+1) }).start)
 else if kindN data w.level=0 then { w with entry:=data,fin:=2 }
 else if kindN data w.level=1 then ({ w with entry:=data }).look (ppnN data) (w.level - 1)
 else if ¬ letsP data w.q.access w.q.priv w.q.sum w.q.mxr then { w with entry:=data,fin:=2 }
 else if markN data w.q.access≠data then { w with entry:=data,mark:=true }
 else { w with entry:=data,fin:=1,mark:=false }
def pageN (va l:Nat):Nat:=va / sizeN l*sizeN l
def Wk.end_ (w:Wk):Int:=if w.made then w.fin else 2
def Wk.found (w:Wk):En:=if w.made∧w.fin=1 then ⟨0,pageN w.q.va w.level,w.level,w.entry⟩ else ⟨0,0,0,0⟩
end Go.Proofs.YtdhlpighdlnohaaGreat
namespace Go.Mid
open Go Go.RowKit
section
variable {P:Program} {kt:TypeId} {α:Type} [DecidableEq α] {enc:α→Value}
def MapB (enc:α→Value) (f:α→Option Value) (n:Nat) (o:Obj):Prop :=
 ∃ (l:List (α×Value×Nat)) (c:Nat),o=.map (ents enc l).toArray c∧(l.map (·.1)).Nodup∧(∀ a,getL a l=f a)∧(l.map (·.2.2)).Nodup∧(∀ x ∈ l,x.2.2<c)∧l.length=n
theorem MapB.nil:MapB enc (fun _=>none) 0 (.map #[] 0):=⟨[],0,rfl,List.nodup_nil,fun _=>rfl,List.nodup_nil,fun _ h=>by (cases h),rfl⟩
theorem MapB.o {f:α→Option Value} {n:Nat} {o:Obj} (m:MapB enc f n o):MapO enc f o:=by
 obtain ⟨l,c,e,h1,h2,_⟩:=m
 exact ⟨l,c,e,h1,h2⟩
theorem MapB.look {t:TypeId} {el:TypeId} {z:Value} {f:α→Option Value} {n:Nat} {h:Hp} {b:Nat} {o:Obj} (ht:P.underlying t=some (.map kt el)) (hz:zeroT P el=some z) (K:KeyT P kt enc) (hb:h b=some o) (m:MapB enc f n o) (a:α) (ok:Bool) :
  lookH P t h (.map (some b)) (enc a) ok=some (lookR ok (f a) z):=m.o.look ht hz K hb a ok
theorem MapB.len {t el:TypeId} {f:α→Option Value} {n:Nat} {h:Hp} {b:Nat} {o:Obj} (ht:P.underlying t=some (.map kt el)) (hb:h b=some o) (m:MapB enc f n o):lenH P t h (.map (some b))=some (.int .i64 n):=by
 obtain ⟨l,c,rfl,_,_,_,_,e⟩:=m
 unfold lenH
 simp only [ht,hb,ents,List.size_toArray,List.length_map,e]
omit [DecidableEq α] in
theorem stamp_set {l:List (α×Value×Nat)} {j:Nat} {a:α} {v v':Value} {n:Nat} (hj:l[j]? = some (a,v',n)):(l.set j (a,v,n)).map (·.2.2)=l.map (·.2.2):=by
 have hlt:j<l.length:=(List.getElem?_eq_some_iff.1 hj).1
 have hje:l[j]=(a,v',n):=by have:=List.getElem?_eq_getElem hlt;rw [hj] at this;exact (Option.some.inj this).symm
 rw [List.map_set]
 apply List.ext_getElem?
 intro i
 rw [List.getElem?_set]
 split
 ·rename_i h1;subst h1;simp [hlt,hje]
 ·rfl
omit [DecidableEq α] in
theorem key_set {l:List (α×Value×Nat)} {j:Nat} {a:α} {v v':Value} {n:Nat} (hj:l[j]? = some (a,v',n)):(l.set j (a,v,n)).map (·.1)=l.map (·.1):=by
 have hlt:j<l.length:=(List.getElem?_eq_some_iff.1 hj).1
 have hje:l[j]=(a,v',n):=by have:=List.getElem?_eq_getElem hlt;rw [hj] at this;exact (Option.some.inj this).symm
 rw [List.map_set]
 apply List.ext_getElem?
 intro i
 rw [List.getElem?_set]
 split
 ·rename_i h1;subst h1;simp [hlt,hje]
 ·rfl
def putN (f:α→Option Value) (a:α) (n:Nat):Nat:=if (f a).isSome then n else n+1
theorem MapB.upd {t:TypeId} {el:TypeId} {f:α→Option Value} {n:Nat} {h:Hp} {b:Nat} {o:Obj} (ht:P.underlying t=some (.map kt el)) (K:KeyT P kt enc) (hb:h b=some o) (m:MapB enc f n o) (a:α) (v:Value) :
  ∃ o',updH P t h (.map (some b)) (enc a) v=some (b,o')∧MapB enc (putF f a (some v)) (putN f a n) o':=by
 obtain ⟨l,c,rfl,hn,hf,hs,hc,hlen⟩:=m
 obtain ⟨d,hd⟩:=K.under
 unfold updH
 simp only [ht,hd,K.key,hb,findV_ents K]
 cases hq:findL a l 0 with
 | none =>
  have hnot:=findL_none a l 0 hq
  have hfa:f a=none:=by rw [← hf,getL_nil hnot]
  refine ⟨_,rfl,l++[(a,v,c)],c+1,?_,?_,fun x=>?_,?_,?_,?_⟩
  ·simp [ents]
  ·rw [List.map_append]
   exact List.nodup_append.2 ⟨hn,by simp,fun x hx y hy=>by simp only [List.map_cons,List.map_nil,List.mem_singleton] at hy;subst hy;exact fun e=>hnot (e ▸ hx)⟩
  ·rw [getL_app _ _ _ _ _ hnot,hf];rfl
  ·rw [List.map_append]
   refine List.nodup_append.2 ⟨hs,by simp,fun x hx y hy=>?_⟩
   simp only [List.map_cons,List.map_nil,List.mem_singleton] at hy
   subst hy
   obtain ⟨z,hz,rfl⟩:=List.mem_map.1 hx
   have:=hc z hz
   omega
  ·intro x hx
   rcases List.mem_append.1 hx with hx | hx
   ·have:=hc x hx;omega
   ·simp only [List.mem_singleton] at hx;subst hx;exact Nat.lt_succ_self _
  ·rw [List.length_append,hlen]
   unfold putN
   rw [hfa]
   rfl
 | some jv =>
  obtain ⟨j,v'⟩:=jv
  obtain ⟨_,n',hj⟩:=findL_spec a l 0 j v' hq
  rw [Nat.sub_zero] at hj
  have hlt:j<l.length:=(List.getElem?_eq_some_iff.1 hj).1
  have hje:l[j]=(a,v',n'):=by have:=List.getElem?_eq_getElem hlt;rw [hj] at this;exact (Option.some.inj this).symm
  have hej:(ents enc l).toArray[j]? = some ⟨enc a,v',n'⟩:=by simp [ents,hj]
  have hfa:f a=some v':=by rw [← hf,← findL_get a l 0,hq];rfl
  simp only [hej,Option.map_some,Option.getD_some,K.same,if_true]
  refine ⟨_,rfl,l.set j (a,v,n'),c,?_,?_,fun x=>?_,?_,?_,?_⟩
  ·congr 1
   apply Array.ext_getElem?
   intro i
   rw [Array.getElem?_modify]
   simp only [List.getElem?_toArray,ents,List.map_set,List.getElem?_set,List.getElem?_map,List.length_map]
   by_cases hij:j=i
   ·subst hij;simp [hlt,hje]
   ·simp [hij]
  ·rw [key_set hj];exact hn
  ·rw [getL_set x a v v' n' n' l j hn hj,hf];rfl
  ·rw [stamp_set hj];exact hs
  ·intro x hx
   rcases List.mem_or_eq_of_mem_set hx with hx | hx
   ·exact hc x hx
   ·subst hx;exact hc (a,v',n') (List.mem_of_getElem? hj)
  ·rw [List.length_set,hlen]
   unfold putN
   rw [hfa]
   rfl
omit [DecidableEq α] in
theorem ents_modify {l:List (α×Value×Nat)} {j:Nat} {a:α} {v v':Value} {n:Nat} (hj:l[j]? = some (a,v',n)) (g:MapEntry→MapEntry) (hg:g ⟨enc a,v',n⟩=⟨enc a,v,n⟩):(ents enc l).toArray.modify j g=(ents enc (l.set j (a,v,n))).toArray:=by
 have hlt:j<l.length:=(List.getElem?_eq_some_iff.1 hj).1
 have hje:l[j]=(a,v',n):=by have:=List.getElem?_eq_getElem hlt;rw [hj] at this;exact (Option.some.inj this).symm
 apply Array.ext_getElem?
 intro i
 rw [Array.getElem?_modify]
 simp only [List.getElem?_toArray,ents,List.map_set,List.getElem?_set,List.getElem?_map,List.length_map]
 by_cases hij:j=i
 ·subst hij;simp [hlt,hje,hg]
 ·simp [hij]
omit [DecidableEq α] in
theorem findIdx_born:∀ {l:List (α×Value×Nat)} {j:Nat} {x:α×Value×Nat},(l.map (·.2.2)).Nodup→l[j]? = some x→(ents enc l).findIdx? (fun e=>(e.born:Int)==(x.2.2:Int))=some j
 | [],j,x,_,h=>by simp at h
 | y :: l,0,x,hn,h=>by
  simp only [List.getElem?_cons_zero,Option.some.injEq] at h
  subst h
  simp [ents,List.findIdx?_cons]
 | y :: l,j+1,x,hn,h=>by
  simp only [List.getElem?_cons_succ] at h
  simp only [List.map_cons,List.nodup_cons] at hn
  have hne:¬ y.2.2=x.2.2:=fun e=>hn.1 (List.mem_map.2 ⟨x,List.mem_of_getElem? h,e.symm⟩)
  have ih:=findIdx_born hn.2 h
  unfold ents at ih ⊢
  rw [List.map_cons,List.findIdx?_cons]
  rw [if_neg (by simp only [beq_iff_eq];omega),ih]
  rfl
theorem MapB.ent {t:TypeId} {el:TypeId} {z:Value} {f:α→Option Value} {n:Nat} {h:Hp} {b:Nat} {o:Obj} (ht:P.underlying t=some (.map kt el)) (hz:zeroT P el=some z) (K:KeyT P kt enc) (hb:h b=some o) (m:MapB enc f n o) (a:α) :
  ∃ (st:Int) (o1:Obj),entH P t h (.map (some b)) (enc a)=some (.tuple #[(f a).getD z,.int .i64 st],some (b,o1))∧MapB enc (putF f a (some ((f a).getD z))) (putN f a n) o1 ∧
   ∀ (v:Value) (h':Hp),h' b=some o1→∃ o2,entS h' (.map (some b)) (.int .i64 st) v=some (b,o2)∧MapB enc (putF f a (some v)) (putN f a n) o2:=by
 obtain ⟨l,c,rfl,hn,hf,hs,hc,hlen⟩:=m
 obtain ⟨d,hd⟩:=K.under
 have key:∀ (l1:List (α×Value×Nat)) (c1 j st:Nat) (w:Value),l1[j]? = some (a,w,st)→(l1.map (·.1)).Nodup→(∀ x,getL x l1=putF f a (some w) x)→(l1.map (·.2.2)).Nodup→(∀ x ∈ l1,x.2.2<c1)→l1.length=putN f a n →
   MapB enc (putF f a (some w)) (putN f a n) (.map (ents enc l1).toArray c1)∧∀ (v:Value) (h':Hp),h' b=some (.map (ents enc l1).toArray c1)→∃ o2,entS h' (.map (some b)) (.int .i64 (st:Nat)) v=some (b,o2)∧MapB enc (putF f a (some v)) (putN f a n) o2:=by
  intro l1 c1 j st w hj k1 k2 k3 k4 k5
  refine ⟨⟨l1,c1,rfl,k1,k2,k3,k4,k5⟩,fun v h' hb'=>?_⟩
  unfold entS
  simp only [hb']
  have hi:(ents enc l1).toArray.findIdx? (fun e=>(e.born:Int)==(st:Int))=some j:=by
   rw [List.findIdx?_toArray]
   exact findIdx_born k3 hj
  rw [hi]
  refine ⟨_,rfl,l1.set j (a,v,st),c1,?_,?_,fun x=>?_,?_,?_,?_⟩
  ·rw [ents_modify hj (fun e=>{ e with val:=v }) rfl]
  ·rw [key_set hj];exact k1
  ·rw [getL_set x a v w st st l1 j k1 hj,k2]
   unfold putF
   by_cases hx:x=a <;> simp [hx]
  ·rw [stamp_set hj];exact k3
  ·intro x hx
   rcases List.mem_or_eq_of_mem_set hx with hx | hx
   ·exact k4 x hx
   ·subst hx;exact k4 (a,w,st) (List.mem_of_getElem? hj)
  ·rw [List.length_set,k5]
 unfold entH
 simp only [ht,hd,K.key,hz,hb,findV_ents K]
 cases hq:findL a l 0 with
 | none =>
  have hnot:=findL_none a l 0 hq
  have hfa:f a=none:=by rw [← hf,getL_nil hnot]
  have e1:(ents enc l).toArray.push { key:=enc a,val:=z,born:=c }=(ents enc (l++[(a,z,c)])).toArray:=by simp [ents]
  have k:=key (l++[(a,z,c)]) (c+1) l.length c z (by simp) (by
   rw [List.map_append]
   exact List.nodup_append.2 ⟨hn,by simp,fun x hx y hy=>by simp only [List.map_cons,List.map_nil,List.mem_singleton] at hy;subst hy;exact fun e=>hnot (e ▸ hx)⟩) (fun x=>by rw [getL_app _ _ _ _ _ hnot,hf];rfl) (by
   rw [List.map_append]
   refine List.nodup_append.2 ⟨hs,by simp,fun x hx y hy=>?_⟩
   simp only [List.map_cons,List.map_nil,List.mem_singleton] at hy
   subst hy
   obtain ⟨z,hz,rfl⟩:=List.mem_map.1 hx
   have:=hc z hz
   omega) (fun x hx=>by
   rcases List.mem_append.1 hx with hx | hx
   ·have:=hc x hx;omega
   ·simp only [List.mem_singleton] at hx;subst hx;exact Nat.lt_succ_self _) (by
   rw [List.length_append,hlen]
   unfold putN
   rw [hfa]
   rfl)
  rw [hfa]
  simp only [e1,Option.getD_none]
  exact ⟨_,_,rfl,k.1,k.2⟩
 | some jv =>
  obtain ⟨j,v'⟩:=jv
  obtain ⟨_,n',hj⟩:=findL_spec a l 0 j v' hq
  rw [Nat.sub_zero] at hj
  have hej:(ents enc l).toArray[j]? = some ⟨enc a,v',n'⟩:=by simp [ents,hj]
  have hfa:f a=some v':=by rw [← hf,← findL_get a l 0,hq];rfl
  have e1:(ents enc l).toArray.modify j (fun e=>{ e with key:=enc a })=(ents enc l).toArray:=by
   rw [ents_modify (v:=v') hj _ rfl]
   congr 2
   apply List.ext_getElem?
   intro i
   rw [List.getElem?_set]
   split
   ·rename_i hji
    subst hji
    rw [hj]
    simp [(List.getElem?_eq_some_iff.1 hj).1]
   ·rfl
  have k:=key l c j n' v' hj hn (fun x=>by
   rw [hf]
   unfold putF
   split
   ·rename_i hx;rw [hx,hfa]
   ·rfl) hs hc (by rw [hlen];unfold putN;rw [hfa];rfl)
  rw [hfa]
  simp only [hej,Option.map_some,Option.getD_some,K.same,if_true,e1]
  exact ⟨_,_,rfl,k.1,k.2⟩
def Itr (enc:α→Value) (f:α→Option Value) (n:Nat) (h:Hp) (it m:Nat) (ks:List α):Prop :=
 ∃ (l:List (α×Value×Nat)) (c since last:Nat) (seen:Array Nat),h m=some (.map (ents enc l).toArray c)∧h it=some (.mapIter (some m) since seen last)∧(l.map (·.1)).Nodup∧(∀ a,getL a l=f a)∧(l.map (·.2.2)).Nodup ∧
  (∀ x ∈ l,x.2.2<since)∧c=last∧since≤c∧l.length=n∧ks.Nodup∧(∀ x ∈ l,x.1 ∈ ks↔x.2.2 ∈ seen)∧(∀ a ∈ ks,a ∈ l.map (·.1))∧∀ a,ks.getLast? = some a→∃ x ∈ l,x.1=a∧seen.back? = some x.2.2
theorem Itr.agree {f:α→Option Value} {n:Nat} {h h':Hp} {it m:Nat} {ks:List α} (i:Itr enc f n h it m ks) (h1:h' it=h it) (h2:h' m=h m):Itr enc f n h' it m ks:=by
 obtain ⟨l,c,s,la,se,e1,e2,r⟩:=i
 exact ⟨l,c,s,la,se,h2.trans e1,h1.trans e2,r⟩
theorem Itr.le {f:α→Option Value} {n:Nat} {h h':Hp} {it m:Nat} {ks:List α} (i:Itr enc f n h it m ks) (hle:h.le h'):Itr enc f n h' it m ks:=by
 obtain ⟨l,c,s,la,se,e1,e2,r⟩:=i
 exact ⟨l,c,s,la,se,hle _ _ e1,hle _ _ e2,r⟩
theorem Itr.known {f:α→Option Value} {n:Nat} {h:Hp} {it m:Nat} {ks:List α} (i:Itr enc f n h it m ks):∃ o1 o2,h it=some o1∧h m=some o2:=by
 obtain ⟨l,c,s,la,se,e1,e2,r⟩:=i
 exact ⟨_,_,e2,e1⟩
theorem getL_mem {a:α}:∀ {l:List (α×Value×Nat)},a ∈ l.map (·.1)→getL a l≠none
 | [],h=>by cases h
 | y :: l,h=>by
  unfold getL
  split
  ·simp
  ·rename_i hne
   simp only [List.map_cons,List.mem_cons] at h
   exact getL_mem (h.resolve_left hne)
theorem Itr.told {f:α→Option Value} {n:Nat} {h:Hp} {it m:Nat} {ks:List α} (i:Itr enc f n h it m ks):ks.Nodup∧∀ a ∈ ks,f a≠none:=by
 obtain ⟨l,c,s,la,se,e1,e2,hn,hf,hs,hlt,hla,hlc,hlen,hk,hks,hin,hlast⟩:=i
 exact ⟨hk,fun a ha=>by rw [← hf];exact getL_mem (hin a ha)⟩
end
theorem Owns.put {k h h':Hp} {el size n:Nat} {s:Value} {cs:List Value} {b:Nat} {o o':Obj} (w:Owns k h el size s n cs) (hb:k b=some o) (hat:h' b=some o') (hot:∀ c,c≠b→h' c=h c):Owns (k.set b o') h' el size s n cs:=by
 obtain ⟨ob,g,hle,hno⟩:=w
 have hne:∀ c,ob=some c→c≠b:=fun c hc e=>by
  have:=hno c hc
  rw [e,hb] at this;cases this
 refine ⟨ob,g.agree fun x hx=>hot x (hne x hx),fun c x e=>?_,fun c hc=>?_⟩
 ·by_cases hcb:c=b
  ·subst hcb;rw [Hp.set_same] at e;cases e;exact hat
  ·rw [Hp.set_other _ _ hcb] at e;rw [hot c hcb];exact hle _ _ e
 ·rw [Hp.set_other _ _ (hne c hc)];exact hno c hc
theorem storePA {P:Program} {t el:TypeId} {n k:Nat} {a:Addr} {b:Nat} (ha:a=⟨b,k,none⟩) (hn:sizeT P t=some n) {h:Hp} {l l':List Value} {z:Value} (hb:h b=some (rowO el l)) (hk:k+n≤l.length) (hl:setL l k z.cells.toList=l') (hz:z.cells.toList.length=n) (h1:z.cells.toList.all Value.oneCell'=true):storeH P t h a z=some (b,rowO el l'):=by
 subst ha
 subst hl
 unfold storeH
 rw [hn]
 simp only [hb]
 have e1:z.cells.size=n:=by rw [← Array.length_toList];exact hz
 rw [if_pos (by
  simp only [Option.isNone_none,Bool.and_true,Bool.and_eq_true,beq_iff_eq,decide_eq_true_eq,List.size_toArray,h1,and_true]
  exact ⟨⟨e1,hk⟩,Nat.le_refl _⟩)]
theorem storeCA {P:Program} {t el:TypeId} {k:Nat} {a:Addr} {b:Nat} (ha:a=⟨b,k,none⟩) (ht:sizeT P t=some 1) {h:Hp} {l l':List Value} {z:Value} (hb:h b=some (rowO el l)) (hk:k<l.length) (hl:l.set k z=l') (hz:z.cells.toList=[z]) (h1:z.oneCell'=true):storeH P t h a z=some (b,rowO el l'):=by
 subst ha hl
 exact storeH_row ht hb hk hz h1
end Go.Mid
namespace Go.Proofs.YtdhlpighdlnohaaGreat
open Go Go.Mid Go.RowKit
attribute [local irreducible] mid
structure Cn where
 harts:Int
 stripes:Int
 lines:Int
 tlb:Int
def Cn.cs (c:Cn):List Value:=[.int .i64 c.harts,.int .i64 c.stripes,.int .i64 c.lines,.int .i64 c.tlb]
def wrightB (c:Cn):Bool:=decide (1≤c.harts∧c.harts≤8) && decide (1≤c.stripes∧c.stripes≤64) && decide (1≤c.lines∧c.lines≤4096) && decide (1≤c.tlb∧c.tlb≤32)
section
variable {h:Hp} {K:Value→Hp→Prop}
theorem wwithin_x (n m:Int) (hk:K (.bool (decide (1≤n∧n≤m))) h):X Tryz.prog 76 #[.int .i64 n,.int .i64 m] h K:=by
 refine fnv (args:=_) mixed [] [] [] Tryz.func76 rfl (by kernel_rfl) (cw_ ?_)
 refine br_ (fun q1=>?_) fun q1=>?_
 ·conv=>whnf
  exact kq hk (bI (by rw [Bool.eq_iff_iff];simp;omega))
 ·conv=>whnf
  exact kq hk (bI (by rw [Bool.eq_iff_iff];simp;omega))
theorem wright_x (c:Cn) (hk:K (.bool (wrightB c)) h):X Tryz.prog 33 #[.agg c.cs.toArray] h K:=by
 obtain ⟨a,b,d,e⟩:=c
 unfold wrightB at hk
 refine fnv (args:=_) mixed [(1,1),(3,1),(7,1),(12,1),(17,1)] [] [] Tryz.func33 rfl (by kernel_rfl) (cw_ ?_)
 refine wwithin_x a 8 (cw_ ?_)
 cases h1:decide (1≤a∧a≤8) with
 | false=>rw [h1] at hk;exact hk
 | true =>
  rw [h1] at hk
  conv=>whnf
  refine wwithin_x b 64 (cw_ ?_)
  cases h2:decide (1≤b∧b≤64) with
  | false=>rw [h2] at hk;exact hk
  | true =>
   rw [h2] at hk
   conv=>whnf
   refine wwithin_x d 4096 (cw_ ?_)
   cases h3:decide (1≤d∧d≤4096) with
   | false=>rw [h3] at hk;exact hk
   | true =>
    rw [h3] at hk
    conv=>whnf
    refine wwithin_x e 32 (cw_ ?_)
    exact hk
end
end Go.Proofs.YtdhlpighdlnohaaGreat
