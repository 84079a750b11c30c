/-
  THE MIDDLE LAYER: maps whose entries bear stamps; a loop over a map, in whatever order Go draws.
-/
import Derived.Test.YtdhkjcdneidgaaaGreatDoorLinS
set_option linter.unusedSimpArgs false
set_option linter.unusedVariables false
set_option maxHeartbeats 8000000
set_option maxRecDepth 10000
set_option linter.unusedSimpArgs false
set_option linter.unusedVariables false
namespace Go.Mid
open Go Go.RowKit
section
variable {P:Program} {kt:TypeId} {α:Type} [DecidableEq α] {enc:α→Value}
def MapB (enc:α→Value) (f:α→Option Value) (n:Nat) (o:Obj):Prop :=
 ∃ (l:List (α×Value×Nat)) (c:Nat),o=.map (ents enc l).toArray c∧(l.map (·.1)).Nodup∧(∀ a,getL a l=f a)∧(l.map (·.2.2)).Nodup∧(∀ x ∈ l,x.2.2<c)∧l.length=n
theorem MapB.nil:MapB enc (fun _=>none) 0 (.map #[] 0):=⟨[],0,rfl,List.nodup_nil,fun _=>rfl,List.nodup_nil,fun _ h=>by (cases h),rfl⟩
theorem MapB.o {f:α→Option Value} {n:Nat} {o:Obj} (m:MapB enc f n o):MapO enc f o:=by
 obtain ⟨l,c,e,h1,h2,_⟩:=m
 exact ⟨l,c,e,h1,h2⟩
theorem MapB.look {t:TypeId} {el:TypeId} {z:Value} {f:α→Option Value} {n:Nat} {h:Hp} {b:Nat} {o:Obj} (ht:P.underlying t=some (.map kt el)) (hz:zeroT P el=some z) (K:KeyT P kt enc) (hb:h b=some o) (m:MapB enc f n o) (a:α) (ok:Bool) :
  lookH P t h (.map (some b)) (enc a) ok=some (lookR ok (f a) z):=m.o.look ht hz K hb a ok
theorem MapB.len {t el:TypeId} {f:α→Option Value} {n:Nat} {h:Hp} {b:Nat} {o:Obj} (ht:P.underlying t=some (.map kt el)) (hb:h b=some o) (m:MapB enc f n o):lenH P t h (.map (some b))=some (.int .i64 n):=by
 obtain ⟨l,c,rfl,_,_,_,_,e⟩:=m
 unfold lenH
 simp only [ht,hb,ents,List.size_toArray,List.length_map,e]
omit [DecidableEq α] in
theorem stamp_set {l:List (α×Value×Nat)} {j:Nat} {a:α} {v v':Value} {n:Nat} (hj:l[j]? = some (a,v',n)):(l.set j (a,v,n)).map (·.2.2)=l.map (·.2.2):=by
 have hlt:j<l.length:=(List.getElem?_eq_some_iff.1 hj).1
 have hje:l[j]=(a,v',n):=by have:=List.getElem?_eq_getElem hlt;rw [hj] at this;exact (Option.some.inj this).symm
 rw [List.map_set]
 apply List.ext_getElem?
 intro i
 rw [List.getElem?_set]
 split
 ·rename_i h1;subst h1;simp [hlt,hje]
 ·rfl
omit [DecidableEq α] in
theorem key_set {l:List (α×Value×Nat)} {j:Nat} {a:α} {v v':Value} {n:Nat} (hj:l[j]? = some (a,v',n)):(l.set j (a,v,n)).map (·.1)=l.map (·.1):=by
 have hlt:j<l.length:=(List.getElem?_eq_some_iff.1 hj).1
 have hje:l[j]=(a,v',n):=by have:=List.getElem?_eq_getElem hlt;rw [hj] at this;exact (Option.some.inj this).symm
 rw [List.map_set]
 apply List.ext_getElem?
 intro i
 rw [List.getElem?_set]
 split
 ·rename_i h1;subst h1;simp [hlt,hje]
 ·rfl
def putN (f:α→Option Value) (a:α) (n:Nat):Nat:=if (f a).isSome then n else n+1
theorem MapB.upd {t:TypeId} {el:TypeId} {f:α→Option Value} {n:Nat} {h:Hp} {b:Nat} {o:Obj} (ht:P.underlying t=some (.map kt el)) (K:KeyT P kt enc) (hb:h b=some o) (m:MapB enc f n o) (a:α) (v:Value) :
  ∃ o',updH P t h (.map (some b)) (enc a) v=some (b,o')∧MapB enc (putF f a (some v)) (putN f a n) o':=by
 obtain ⟨l,c,rfl,hn,hf,hs,hc,hlen⟩:=m
 obtain ⟨d,hd⟩:=K.under
 unfold updH
 simp only [ht,hd,K.key,hb,findV_ents K]
 cases hq:findL a l 0 with
 | none =>
  have hnot:=findL_none a l 0 hq
  have hfa:f a=none:=by rw [← hf,getL_nil hnot]
  refine ⟨_,rfl,l++[(a,v,c)],c+1,?_,?_,fun x=>?_,?_,?_,?_⟩
  ·simp [ents]
  ·rw [List.map_append]
   exact List.nodup_append.2 ⟨hn,by simp,fun x hx y hy=>by simp only [List.map_cons,List.map_nil,List.mem_singleton] at hy;subst hy;exact fun e=>hnot (e ▸ hx)⟩
  ·rw [getL_app _ _ _ _ _ hnot,hf];rfl
  ·rw [List.map_append]
   refine List.nodup_append.2 ⟨hs,by simp,fun x hx y hy=>?_⟩
   simp only [List.map_cons,List.map_nil,List.mem_singleton] at hy
   subst hy
   obtain ⟨z,hz,rfl⟩:=List.mem_map.1 hx
   have:=hc z hz
   omega
  ·intro x hx
   rcases List.mem_append.1 hx with hx | hx
   ·have:=hc x hx;omega
   ·simp only [List.mem_singleton] at hx;subst hx;exact Nat.lt_succ_self _
  ·rw [List.length_append,hlen]
   unfold putN
   rw [hfa]
   rfl
 | some jv =>
  obtain ⟨j,v'⟩:=jv
  obtain ⟨_,n',hj⟩:=findL_spec a l 0 j v' hq
  rw [Nat.sub_zero] at hj
  have hlt:j<l.length:=(List.getElem?_eq_some_iff.1 hj).1
  have hje:l[j]=(a,v',n'):=by have:=List.getElem?_eq_getElem hlt;rw [hj] at this;exact (Option.some.inj this).symm
  have hej:(ents enc l).toArray[j]? = some ⟨enc a,v',n'⟩:=by simp [ents,hj]
  have hfa:f a=some v':=by rw [← hf,← findL_get a l 0,hq];rfl
  simp only [hej,Option.map_some,Option.getD_some,K.same,if_true]
  refine ⟨_,rfl,l.set j (a,v,n'),c,?_,?_,fun x=>?_,?_,?_,?_⟩
  ·congr 1
   apply Array.ext_getElem?
   intro i
   rw [Array.getElem?_modify]
   simp only [List.getElem?_toArray,ents,List.map_set,List.getElem?_set,List.getElem?_map,List.length_map]
   by_cases hij:j=i
   ·subst hij;simp [hlt,hje]
   ·simp [hij]
  ·rw [key_set hj];exact hn
  ·rw [getL_set x a v v' n' n' l j hn hj,hf];rfl
  ·rw [stamp_set hj];exact hs
  ·intro x hx
   rcases List.mem_or_eq_of_mem_set hx with hx | hx
   ·exact hc x hx
   ·subst hx;exact hc (a,v',n') (List.mem_of_getElem? hj)
  ·rw [List.length_set,hlen]
   unfold putN
   rw [hfa]
   rfl
omit [DecidableEq α] in
omit [DecidableEq α] in
omit [DecidableEq α] in
theorem find_born:∀ {l:List (α×Value×Nat)} {x:α×Value×Nat},(l.map (·.2.2)).Nodup→x ∈ l→(ents enc l).find? (fun e=>e.born==x.2.2)=some ⟨enc x.1,x.2.1,x.2.2⟩
 | [],x,_,h=>by cases h
 | y :: l,x,hn,h=>by
  simp only [List.map_cons,List.nodup_cons] at hn
  unfold ents
  rw [List.map_cons,List.find?_cons]
  rcases List.mem_cons.1 h with rfl | h
  ·simp
  ·have hne:¬ y.2.2=x.2.2:=fun e=>hn.1 (List.mem_map.2 ⟨x,h,e.symm⟩)
   have e1:((y.2.2:Nat)==x.2.2)=false:=by simpa using hne
   simp only [e1]
   exact find_born hn.2 h
def Itr (enc:α→Value) (f:α→Option Value) (n:Nat) (h:Hp) (it m:Nat) (ks:List α):Prop :=
 ∃ (l:List (α×Value×Nat)) (c since last:Nat) (seen:Array Nat),h m=some (.map (ents enc l).toArray c)∧h it=some (.mapIter (some m) since seen last)∧(l.map (·.1)).Nodup∧(∀ a,getL a l=f a)∧(l.map (·.2.2)).Nodup ∧
  (∀ x ∈ l,x.2.2<since)∧c=last∧since≤c∧l.length=n∧ks.Nodup∧(∀ x ∈ l,x.1 ∈ ks↔x.2.2 ∈ seen)∧(∀ a ∈ ks,a ∈ l.map (·.1))∧∀ a,ks.getLast? = some a→∃ x ∈ l,x.1=a∧seen.back? = some x.2.2
theorem Itr.agree {f:α→Option Value} {n:Nat} {h h':Hp} {it m:Nat} {ks:List α} (i:Itr enc f n h it m ks) (h1:h' it=h it) (h2:h' m=h m):Itr enc f n h' it m ks:=by
 obtain ⟨l,c,s,la,se,e1,e2,r⟩:=i
 exact ⟨l,c,s,la,se,h2.trans e1,h1.trans e2,r⟩
theorem Itr.le {f:α→Option Value} {n:Nat} {h h':Hp} {it m:Nat} {ks:List α} (i:Itr enc f n h it m ks) (hle:h.le h'):Itr enc f n h' it m ks:=by
 obtain ⟨l,c,s,la,se,e1,e2,r⟩:=i
 exact ⟨l,c,s,la,se,hle _ _ e1,hle _ _ e2,r⟩
theorem Itr.known {f:α→Option Value} {n:Nat} {h:Hp} {it m:Nat} {ks:List α} (i:Itr enc f n h it m ks):∃ o1 o2,h it=some o1∧h m=some o2:=by
 obtain ⟨l,c,s,la,se,e1,e2,r⟩:=i
 exact ⟨_,_,e2,e1⟩
theorem getL_of_mem {l:List (α×Value×Nat)} (hn:(l.map (·.1)).Nodup) {x:α×Value×Nat} (hx:x ∈ l):getL x.1 l=some x.2.1:=by
 induction l with
 | nil=>cases hx
 | cons y l ih =>
  simp only [List.map_cons,List.nodup_cons] at hn
  unfold getL
  rcases List.mem_cons.1 hx with rfl | hx
  ·rw [if_pos rfl]
  ·rw [if_neg (fun e=>hn.1 (by rw [← e];exact List.mem_map.2 ⟨x,hx,rfl⟩))]
   exact ih hn.2 hx
theorem getL_mem {a:α}:∀ {l:List (α×Value×Nat)},a ∈ l.map (·.1)→getL a l≠none
 | [],h=>by cases h
 | y :: l,h=>by
  unfold getL
  split
  ·simp
  ·rename_i hne
   simp only [List.map_cons,List.mem_cons] at h
   exact getL_mem (h.resolve_left hne)
theorem Itr.told {f:α→Option Value} {n:Nat} {h:Hp} {it m:Nat} {ks:List α} (i:Itr enc f n h it m ks):ks.Nodup∧∀ a ∈ ks,f a≠none:=by
 obtain ⟨l,c,s,la,se,e1,e2,hn,hf,hs,hlt,hla,hlc,hlen,hk,hks,hin,hlast⟩:=i
 exact ⟨hk,fun a ha=>by rw [← hf];exact getL_mem (hin a ha)⟩
theorem Itr.count {f:α→Option Value} {n:Nat} {h:Hp} {it m:Nat} {ks:List α} (i:Itr enc f n h it m ks):ks.length≤n:=by
 obtain ⟨l,c,s,la,se,e1,e2,hn,hf,hs,hlt,hla,hlc,hlen,hk,hks,hin,hlast⟩:=i
 have:=hk.length_le_of_subset (l₂:=l.map (·.1)) (fun _=>hin _)
 rw [List.length_map] at this
 omega
theorem inj_of_nodup {β γ:Type} {g:β→γ}:∀ {l:List β},(l.map g).Nodup→∀ {x y:β},x ∈ l→y ∈ l→g x=g y→x=y
 | [],_,_,_,hx,_,_=>by cases hx
 | z :: l,hn,x,y,hx,hy,e=>by
  simp only [List.map_cons,List.nodup_cons] at hn
  rcases List.mem_cons.1 hx with h1 | h1
  ·rcases List.mem_cons.1 hy with h2 | h2
   ·rw [h1,h2]
   ·exact absurd (List.mem_map.2 ⟨y,h2,by rw [← e,h1]⟩) hn.1
  ·rcases List.mem_cons.1 hy with h2 | h2
   ·exact absurd (List.mem_map.2 ⟨x,h1,by rw [e,h2]⟩) hn.1
   ·exact inj_of_nodup hn.2 h1 h2 e
theorem mid_chooseN {P:Program} {n:Nat} {h:Hp} {K:Nat→Hp→Prop} (hn:0<n) (hk:∀ i,i<n→K i h):mid P (choose (.mapNext n)) h K:=by
 unfold choose
 simp only [mid]
 split
 ·exact hk 0 hn
 ·exact fun t=>hk (t % n) (Nat.mod_lt _ hn)
theorem range_map {t el:TypeId} {f:α→Option Value} {n:Nat} {ρ:Operand→Value} {o:Oper} {x:Operand} {m:Nat} {ob:Obj} {h:Hp} {K:Next→Hp→Prop}
  (ho:o.op=.range t x) (ht:P.underlying t=some (.map kt el)) (hx:ρ x=.map (some m)) (hb:h m=some ob) (hm:MapB enc f n ob)
  (hk:∀ it h',h it=none→h.le h'→(∀ c,c≠it→h' c=h c)→Itr enc f n h' it m []→K (.value (.pointer (some ⟨it,0,none⟩))) h'):semK P (execOp ρ o) h K:=by
 obtain ⟨l,c,rfl,hn,hf,hs,hc,hlen⟩:=hm
 refine ⟨?_⟩
 have e:execOp ρ o=(Instr.range t (.map (some m)) >>= fun v=>Pure.pure (Next.value v)):=by
  unfold execOp
  simp only [ho,hx]
 rw [e]
 refine mid_bind2 ?_
 unfold Instr.range
 refine mid_bind2 ?_
 refine mid_bind2 (mid_underlying ht ?_)
 refine mid_bind2 ?_
 show mid P (getObj m) h _
 unfold getObj
 simp only [mid,hb]
 refine mid_bind2 ?_
 show ∀ b,h b=none→_
 intro b hbn
 refine hk b _ hbn (Hp.le_set hbn) (fun c hc=>Hp.set_other _ _ hc) ⟨l,c,c,c,#[],?_,Hp.set_same _ _ _,hn,hf,hs,hc,rfl,Nat.le_refl _,hlen,List.nodup_nil,fun x _=>by simp,fun a ha=>(by cases ha),fun a ha=>by cases ha⟩
 rw [Hp.set_other _ _ (Hp.ne hbn hb)]
 exact hb
theorem next_map {f:α→Option Value} {n:Nat} {ρ:Operand→Value} {o:Oper} {x:Operand} {it m:Nat} {ks:List α} {h:Hp} {K:Next→Hp→Prop}
  (ho:o.op=.next x false) (hx:ρ x=.pointer (some ⟨it,0,none⟩)) (i:Itr enc f n h it m ks)
  (hk:∀ a v h',f a=some v→a ∉ ks→ks.length<n→(∀ c,c≠it→h' c=h c)→Itr enc f n h' it m (ks++[a])→K (.value (.tuple #[.bool true,enc a,v])) h')
  (he:(∀ a,f a≠none→a ∈ ks)→K (.value (.tuple #[.bool false])) h):semK P (execOp ρ o) h K:=by
 have hcount:=i.count
 obtain ⟨l,c,since,last,seen,e1,e2,hn,hf,hs,hlt,hla,hlc,hlen,hkn,hks,hin,hlast⟩:=i
 refine ⟨?_⟩
 have e:execOp ρ o=(Instr.next (.pointer (some ⟨it,0,none⟩)) false o.type >>= fun v=>Pure.pure (Next.value v)):=by
  unfold execOp
  simp only [ho,hx]
 rw [e]
 refine mid_bind2 ?_
 unfold Instr.next
 simp only []
 refine mid_bind2 ?_
 unfold getObj
 simp only [mid,e2]
 refine mid_bind2 ?_
 simp only [mid,e1]
 have hall:¬ ((!seen.isEmpty && !(ents enc l).toArray.isEmpty && (ents enc l).toArray.all (fun e=>decide (e.born ≥ last)))=true):=by
  intro hh
  simp only [Bool.and_eq_true] at hh
  obtain ⟨⟨_,h2⟩,h3⟩:=hh
  cases l with
  | nil=>simp [ents] at h2
  | cons y l =>
   rw [Array.all_eq_true_iff_forall_mem] at h3
   have:=h3 ⟨enc y.1,y.2.1,y.2.2⟩ (by simp [ents])
   simp only [decide_eq_true_eq] at this
   have:=hlt y (by simp)
   omega
 rw [if_neg hall]
 have eNew:(((ents enc l).toArray.filter fun e=>!seen.contains e.born).filter fun e=>decide (e.born ≥ since))=#[]:=by
  apply Array.eq_empty_of_size_eq_zero
  rw [Array.size_eq_zero_iff,Array.filter_eq_empty_iff]
  intro x hx
  have hx:=(Array.mem_filter.1 hx).1
  simp only [ents,List.mem_toArray,List.mem_map] at hx
  obtain ⟨y,hy,rfl⟩:=hx
  have:=hlt y hy
  simp;omega
 simp only [eNew,Array.append_empty]
 obtain ⟨old,hold⟩:∃ old,old=(((ents enc l).toArray.filter fun e=>!seen.contains e.born).filter fun e=>decide (e.born<since)):=⟨_,rfl⟩
 rw [← hold]
 have hmem:∀ e,e ∈ old→∃ y ∈ l,e=⟨enc y.1,y.2.1,y.2.2⟩∧y.2.2 ∉ seen:=by
  intro e he
  rw [hold] at he
  have h1:=(Array.mem_filter.1 he).1
  have h2:=Array.mem_filter.1 h1
  have h3:=h2.1
  simp only [ents,List.mem_toArray,List.mem_map] at h3
  obtain ⟨y,hy,rfl⟩:=h3
  exact ⟨y,hy,rfl,by simpa using h2.2⟩
 have hmem2:∀ y ∈ l,y.2.2 ∉ seen→(⟨enc y.1,y.2.1,y.2.2⟩:MapEntry) ∈ old:=by
  intro y hy hns
  rw [hold]
  refine Array.mem_filter.2 ⟨Array.mem_filter.2 ⟨by simp only [ents,List.mem_toArray,List.mem_map];exact ⟨y,hy,rfl⟩,by simpa using hns⟩,?_⟩
  have:=hlt y hy
  simpa using this
 have step:∀ e,e ∈ old→mid P (match (some (some e):Option (Option MapEntry)) with
   | some (some e)=>(do
    setObj it (.mapIter (some m) since (seen.push e.born) c)
    pure (.tuple #[.bool true,e.key,e.val]):Sem Value)
   | some none=>pure (.tuple #[.bool false])
   | none => stuck "Next: no such candidate") h fun v g => mid P (Pure.pure (Next.value v)) g K := by
  intro e he
  obtain ⟨y,hy,rfl,hns⟩:=hmem e he
  simp only []
  refine mid_bind2 ?_
  unfold setObj
  simp only [mid,e2]
  have hny:y.1 ∉ ks:=fun hh=>hns ((hks y hy).1 hh)
  have hfy:f y.1=some y.2.1:=by rw [← hf];exact getL_of_mem hn hy
  have hne:m≠it:=fun hh=>by rw [hh,e2] at e1;cases e1
  have hsub:(ks++[y.1]).Nodup:=List.nodup_append.2 ⟨hkn,by simp,fun a ha b hb=>by simp only [List.mem_singleton] at hb;subst hb;exact fun e=>hny (e ▸ ha)⟩
  have hin2:∀ a ∈ ks++[y.1],a ∈ l.map (·.1):=fun a ha=>by
   rcases List.mem_append.1 ha with ha | ha
   ·exact hin a ha
   ·simp only [List.mem_singleton] at ha;subst ha;exact List.mem_map.2 ⟨y,hy,rfl⟩
  have hcnt:(ks++[y.1]).length≤l.length:=by
   have:=hsub.length_le_of_subset (l₂:=l.map (·.1)) (fun _=>hin2 _)
   rwa [List.length_map] at this
  rw [List.length_append] at hcnt
  refine hk y.1 y.2.1 _ hfy hny (by simp only [List.length_singleton] at hcnt;omega) (fun c hc=>Hp.set_other _ _ hc) ⟨l,c,since,c,seen.push y.2.2,by rw [Hp.set_other _ _ hne];exact e1,Hp.set_same _ _ _,hn,hf,hs,hlt,rfl,hlc,hlen,hsub,?_,hin2,fun a ha=>⟨y,hy,by rw [List.getLast?_append] at ha;simpa using ha,by simp⟩⟩
  ·intro x hx
   rw [List.mem_append,Array.mem_push,hks x hx,List.mem_singleton]
   constructor
   ·rintro (h1 | h1)
    ·exact .inl h1
    ·exact .inr (by rw [inj_of_nodup hn hx hy h1])
   ·rintro (h1 | h1)
    ·exact .inl h1
    ·exact .inr (by rw [inj_of_nodup hs hx hy h1])
 refine mid_bind2 ?_
 by_cases hemp:old=#[]
 ·subst hemp
  refine mid_chooseN (by simp) fun i hi=>?_
  have hi0:i=0:=by simp at hi;exact hi
  subst hi0
  have e0:((if (#[]:Array MapEntry).isEmpty=true then (#[none]:Array (Option MapEntry)) else #[])++Array.map some (#[]:Array MapEntry))[0]? = some none:=by simp
  rw [e0]
  show K (.value (.tuple #[.bool false])) h
  refine he fun a ha=>?_
  rw [← hf] at ha
  have hmm:a ∈ l.map (·.1):=Classical.byContradiction fun hh=>ha (getL_nil hh)
  obtain ⟨y,hy,rfl⟩:=List.mem_map.1 hmm
  refine (hks y hy).2 (Classical.byContradiction fun hh=>?_)
  have:=hmem2 y hy hh
  simp at this
 ·have hne2:old.isEmpty=false:=by simpa using hemp
  rw [hne2]
  simp only [Bool.false_eq_true,if_false,Array.empty_append]
  have hpos:0<old.size:=Array.size_pos_iff.2 hemp
  refine mid_chooseN (by simpa using hpos) fun i hi=>?_
  rw [Array.size_map] at hi
  have e5:(old.map some)[i]? = some (some old[i]):=by simp [hi]
  rw [e5]
  exact step _ (Array.getElem_mem hi)
theorem entry_map {f:α→Option Value} {n:Nat} {ρ:Operand→Value} {o:Oper} {x:Operand} {it m:Nat} {ks:List α} {a:α} {h:Hp} {K:Next→Hp→Prop}
  (ho:o.op=.entry x) (hx:ρ x=.pointer (some ⟨it,0,none⟩)) (i:Itr enc f n h it m (ks++[a])) (hk:∀ v,f a=some v→K (.value (.tuple #[enc a,v])) h):semK P (execOp ρ o) h K:=by
 obtain ⟨l,c,since,last,seen,e1,e2,hn,hf,hs,hlt,hla,hlc,hlen,hkn,hks,hin,hlast⟩:=i
 obtain ⟨y,hy,rfl,hback⟩:=hlast a (by simp)
 refine ⟨?_⟩
 have e:execOp ρ o=(Instr.entry (.pointer (some ⟨it,0,none⟩)) >>= fun v=>Pure.pure (Next.value v)):=by
  unfold execOp
  simp only [ho,hx]
 rw [e]
 refine mid_bind2 ?_
 unfold Instr.entry
 simp only []
 refine mid_bind2 ?_
 unfold getObj
 simp only [mid,e2]
 rw [hback]
 simp only []
 refine mid_bind2 ?_
 simp only [mid,e1]
 have hcl:(c != last)=false:=by simp [hla]
 rw [hcl]
 have hfind:(ents enc l).toArray.find? (fun e=>e.born==y.2.2)=some ⟨enc y.1,y.2.1,y.2.2⟩:=by
  rw [List.find?_toArray]
  exact find_born hs hy
 simp only [Bool.false_eq_true,if_false,hfind]
 exact hk y.2.1 (by rw [← hf];exact getL_of_mem hn hy)
end
theorem Owns.put {k h h':Hp} {el size n:Nat} {s:Value} {cs:List Value} {b:Nat} {o o':Obj} (w:Owns k h el size s n cs) (hb:k b=some o) (hat:h' b=some o') (hot:∀ c,c≠b→h' c=h c):Owns (k.set b o') h' el size s n cs:=by
 obtain ⟨ob,g,hle,hno⟩:=w
 have hne:∀ c,ob=some c→c≠b:=fun c hc e=>by
  have:=hno c hc
  rw [e,hb] at this;cases this
 refine ⟨ob,g.agree fun x hx=>hot x (hne x hx),fun c x e=>?_,fun c hc=>?_⟩
 ·by_cases hcb:c=b
  ·subst hcb;rw [Hp.set_same] at e;cases e;exact hat
  ·rw [Hp.set_other _ _ hcb] at e;rw [hot c hcb];exact hle _ _ e
 ·rw [Hp.set_other _ _ (hne c hc)];exact hno c hc
theorem storeCA {P:Program} {t el:TypeId} {k:Nat} {a:Addr} {b:Nat} (ha:a=⟨b,k,none⟩) (ht:sizeT P t=some 1) {h:Hp} {l l':List Value} {z:Value} (hb:h b=some (rowO el l)) (hk:k<l.length) (hl:l.set k z=l') (hz:z.cells.toList=[z]) (h1:z.oneCell'=true):storeH P t h a z=some (b,rowO el l'):=by
 subst ha hl
 exact storeH_row ht hb hk hz h1
end Go.Mid
