/-
  THE MIDDLE LAYER: that the model's operations come to what the plain functions say.
-/
import Derived.Test.YtdhlpighdlnohaaGreatMidK
set_option linter.unusedSimpArgs false
set_option linter.unusedVariables false
set_option maxHeartbeats 8000000
set_option maxRecDepth 10000
set_option linter.unusedSimpArgs false
set_option linter.unusedVariables false
namespace Go.Mid
open Go Go.RowKit
section
variable {P:Program} {w:World} {ρ:Operand→Value}
theorem intV_run {op:BinOp} {k:IntKind} {t:TypeId} {a b:Int} {v:Value} (hs:isShift op=false) (h:intV op k a b=some v):(binOp op t (.int k a) (.int k b)).run P w=.ok v w:=by
 cases op <;> first
  | (cases hs;done)
  | (simp only [intV] at h;cases h;simp [binOp,Op.intArith,Op.intBits,Op.intCmp])
  | (simp only [intV] at h;split at h <;> cases h;rename_i hb;simp [binOp,Op.intDiv,hb])
  | (simp [intV] at h;done)
theorem shiftV_run {op:BinOp} {k k':IntKind} {t:TypeId} {a b:Int} {v:Value} (h:shiftV op k a b=some v):(binOp op t (.int k a) (.int k' b)).run P w=.ok v w:=by
 unfold shiftV at h
 split at h
 ·cases h
 ·rename_i hb
  cases op <;> first
   | (cases h;simp [binOp,Op.shift,hb])
   | cases h
theorem strV_run {op:BinOp} {t:TypeId} {a b:ByteArray} {v:Value} (h:strV op a b=some v):(binOp op t (.string a) (.string b)).run P w=.ok v w:=by
 unfold strV at h
 cases op <;> first
  | (simp only at h;split at h <;> cases h;rename_i hb;simp only [binOp,Op.stringOp];rw [if_neg hb];rfl)
  | (cases h;simp [binOp,Op.stringOp])
  | cases h
theorem eqOf_run {op:BinOp} {t:TypeId} {x y v:Value} (hb:∀ o:BinOp,o=.eql∨o=.neq→binOp o t x y=(if o=.eql then (do pure (.bool (← Op.equal t x y))) else (do pure (.bool (!(← Op.equal t x y)))))) (h:eqOf op (eqV P 10000 t x y)=some v):(binOp op t x y).run P w=.ok v w:=by
 unfold eqOf at h
 split at h
 ·rename_i b he
  cases h
  have:=eqV_run (w:=w) _ _ _ _ _ he
  rw [hb .eql (.inl rfl)]
  simp [Op.equal,Op.maxDepth,this]
 ·rename_i b he
  cases h
  have:=eqV_run (w:=w) _ _ _ _ _ he
  rw [hb .neq (.inr rfl)]
  simp [Op.equal,Op.maxDepth,this]
 ·cases h
theorem binV_run {op:BinOp} {t:TypeId} {x y:Value} {ox oy:Operand} {v:Value} (h:binV P op t x y=some v):(do eqGuard op t ox oy x y;binOp op t x y:Sem Value).run P w=.ok v w:=by
 unfold binV at h
 have plain:∀ {x y:Value},(eqGuard op t ox oy x y).run P w=.ok () w→(binOp op t x y).run P w=.ok v w→(do eqGuard op t ox oy x y;binOp op t x y:Sem Value).run P w=.ok v w:=fun h1 h2=>by
  simp only [Sem.run_bind,h1,Result.andThen_ok,h2]
 have both:∀ (o:BinOp) {α:Type} (a b:α),(o=.eql∨o=.neq)→True:=fun _ _ _ _ _=>trivial
 split at h
 ·refine plain (by cases op <;> rfl) ?_
  split at h
  ·exact shiftV_run h
  ·rename_i hs
   split at h
   ·rename_i hk;subst hk;exact intV_run (by simpa using hs) h
   ·cases h
 ·exact plain (by cases op <;> rfl) (strV_run h)
 ·exact plain (by cases op <;> rfl) (eqOf_run (fun o ho=>by rcases ho with rfl | rfl <;> rfl) h)
 ·exact plain (by cases op <;> rfl) (eqOf_run (fun o ho=>by rcases ho with rfl | rfl <;> rfl) h)
 ·exact plain (by cases op <;> rfl) (eqOf_run (fun o ho=>by rcases ho with rfl | rfl <;> rfl) h)
 ·exact plain (by cases op <;> rfl) (eqOf_run (fun o ho=>by rcases ho with rfl | rfl <;> rfl) h)
 ·exact plain (by cases op <;> rfl) (eqOf_run (fun o ho=>by rcases ho with rfl | rfl <;> rfl) h)
 ·exact plain (by cases op <;> rfl) (eqOf_run (fun o ho=>by rcases ho with rfl | rfl <;> rfl) h)
 ·exact plain (by cases op <;> rfl) (eqOf_run (fun o ho=>by rcases ho with rfl | rfl <;> rfl) h)
 ·exact plain (by cases op <;> rfl) (eqOf_run (fun o ho=>by rcases ho with rfl | rfl <;> rfl) h)
 ·exact plain (by cases op <;> rfl) (eqOf_run (fun o ho=>by rcases ho with rfl | rfl <;> rfl) h)
 ·split at h
  ·rename_i hg
   exact plain (run_eqGuard_agg w op t ox oy _ _ hg) (eqOf_run (fun o ho=>by rcases ho with rfl | rfl <;> rfl) h)
  ·cases h
 ·cases h
theorem binW_run {op:BinOp} {t:TypeId} {x y:Value} {ox oy:Operand} {v:Value} (h:binW P op t ox oy x y=some v):(do eqGuard op t ox oy x y;binOp op t x y:Sem Value).run P w=.ok v w:=by
 unfold binW at h
 split at h
 ·split at h
  ·rename_i hc
   have g:(eqGuard op t ox oy .nilIface .nilIface).run P w=.ok () w:=by
    unfold eqGuard
    cases op <;> first
     | rfl
     | (cases ox <;> cases oy <;> first | rfl | cases hc)
   have e:(binOp op t .nilIface .nilIface).run P w=.ok v w:=eqOf_run (fun o ho=>by rcases ho with rfl | rfl <;> rfl) h
   simp only [Sem.run_bind,g,Result.andThen_ok,e]
  ·cases h
 ·exact binV_run h
theorem places_run:∀ {fs:List Field} {pl:List (Nat×Nat)},placesV P fs=some pl→(fs.mapM fun f=>do pure (f.offset,← sizeOf f.type):Sem (List (Nat×Nat))).run P w=.ok pl w
 | [],pl,h=>by cases h;rfl
 | f :: fs,pl,h=>by
  unfold placesV at h
  split at h
  ·rename_i n r hn hr
   cases h
   have:=places_run hr
   simp only [List.mapM_cons,Sem.run_bind,sizeOf_run hn,Result.andThen_ok,Sem.run_pure,this]
  ·cases h
theorem setC_fold:∀ (vs:List Value) (cs:List Value) (off i:Nat),(vs.zipIdx i).foldl (fun (cs:Array Value) (c,j)=>cs.setIfInBounds (off+j) c) cs.toArray=(fillV.setC cs (off+i) vs).toArray
 | [],cs,off,i=>rfl
 | v :: vs,cs,off,i=>by
  have:=setC_fold vs (cs.set (off+i) v) off (i+1)
  simp only [List.zipIdx_cons,List.foldl_cons,List.setIfInBounds_toArray,fillV.setC,this,Nat.add_assoc]
theorem fill_eq {place:Nat→Option (Nat×Nat)}:∀ {parts:List (Nat×Value)} {cs ds:List Value},fillV place cs parts=some ds→Instr.fill place cs.toArray parts=some ds.toArray
 | [],cs,ds,h=>by simp [fillV] at h;subst h;simp [Instr.fill]
 | (i,v) :: rest,cs,ds,h=>by
  unfold fillV at h
  unfold Instr.fill
  cases hp:place i with
  | none=>rw [hp] at h;cases h
  | some q =>
   obtain ⟨off,size⟩:=q
   rw [hp] at h
   simp only at h ⊢
   split at h
   ·rename_i hc
    simp only [Bool.and_eq_true,beq_iff_eq,decide_eq_true_eq] at hc
    have hnot:¬ ((decide (v.cells.size≠size) || decide (off+v.cells.size>cs.toArray.size))=true):=by
     simp;constructor
     ·exact hc.1
     ·omega
    rw [if_neg hnot]
    have:=setC_fold v.cells.toList cs off 0
    have e1:v.cells.zipIdx.foldl (fun (cs:Array Value) (c,j)=>cs.setIfInBounds (off+j) c) cs.toArray=(fillV.setC cs off v.cells.toList).toArray:=by
     rw [← Array.foldl_toList,Array.toList_zipIdx];simpa using this
    rw [e1]
    exact fill_eq h
   ·cases h
theorem buildV_run {t:TypeId} {parts:Array (Nat×Value)} {v:Value} (h:buildV P t parts.toList=some v):(Instr.build t parts).run P w=.ok v w:=by
 unfold buildV at h
 split at h
 ·rename_i z fields hz hu
  split at h
  ·rename_i pl hpl
   split at h
   ·rename_i cs hcs
    cases h
    have h1:=places_run (w:=w) hpl
    have h2:(fields.mapM fun f=>do pure (f.offset,← sizeOf f.type):Sem (Array (Nat×Nat))).run P w=.ok pl.toArray w:=by
     rw [Array.mapM_eq_mapM_toList,Sem.run_map,h1];rfl
    have h3:=fill_eq hcs
    simp only [Array.toArray_toList] at h3
    simp only [Instr.build,Sem.run_bind,zero_run hz,Result.andThen_ok,under_run hu,h2]
    have h4:(fun (i:Nat)=>pl.toArray[i]?)=fun (i:Nat)=>pl[i]? := by funext i;simp
    rw [h4,h3]
    rfl
   ·cases h
  ·cases h
 ·rename_i z len elem hz hu
  split at h
  ·rename_i n hn
   split at h
   ·rename_i cs hcs
    cases h
    have h3:=fill_eq hcs
    simp only [Array.toArray_toList] at h3
    simp only [Instr.build,Sem.run_bind,zero_run hz,Result.andThen_ok,under_run hu,sizeOf_run hn]
    rw [h3]
    rfl
   ·cases h
  ·cases h
 ·cases h
theorem bound_run {x:Value} {y n:Nat} {code:BoundsCode} (h:natIn 0 y (some x) 0=some n):(Instr.sliceBound x y code).run P w=.ok n w:=by
 unfold natIn at h
 cases x <;> try (simp at h;done)
 rename_i k i
 simp only at h
 split at h
 ·rename_i hc;cases h;exact run_sliceBound w k i y code hc.1 hc.2
 ·cases h
theorem natIn_some {x:Value} {lo hi d d':Nat}:natIn lo hi (some x) d=natIn lo hi (some x) d':=by cases x <;> rfl
theorem bounds_run {isSlice:Bool} {len cap:Nat} {lo hi mx:Option Value} {l h m:Nat} (h1:natIn 0 cap mx cap=some m) (h2:(if mx.isSome && hi.isNone then none else natIn 0 m hi len)=some h) (h3:natIn 0 h lo 0=some l) :
  (Instr.sliceBounds isSlice len cap lo hi mx).run P w=.ok (l,h,m) w:=by
 cases mx with
 | none =>
  simp [natIn] at h1;subst h1
  cases hi with
  | none =>
   simp [natIn] at h2;subst h2
   cases lo with
   | none=>simp [natIn] at h3;subst h3;simp [Instr.sliceBounds]
   | some x=>simp [Instr.sliceBounds,bound_run h3]
  | some y =>
   simp only [Option.isSome_none,Bool.false_and,Bool.false_eq_true,if_false] at h2
   rw [natIn_some (d':=0)] at h2
   cases lo with
   | none=>simp [natIn] at h3;subst h3;simp [Instr.sliceBounds,bound_run h2]
   | some x=>simp [Instr.sliceBounds,bound_run h2,bound_run h3]
 | some z =>
  rw [natIn_some (d':=0)] at h1
  cases hi with
  | none=>simp at h2
  | some y =>
   simp only [Option.isNone_some,Bool.and_false,Bool.false_eq_true,if_false] at h2
   rw [natIn_some (d':=0)] at h2
   cases lo with
   | none=>simp [natIn] at h3;subst h3;simp [Instr.sliceBounds,bound_run h1,bound_run h2]
   | some x=>simp [Instr.sliceBounds,bound_run h1,bound_run h2,bound_run h3]
theorem sliceV_run {t:TypeId} {x:Value} {lo hi mx:Option Value} {v:Value} (h:sliceV P t x lo hi mx=some v):(Instr.sliceAt t x lo hi mx).run P w=.ok v w:=by
 unfold sliceV at h
 split at h
 ·rename_i s hu
  split at h
  ·split at h
   ·rename_i hh h1
    split at h
    ·rename_i l h2
     cases h
     have:=bounds_run (P:=P) (w:=w) (isSlice:=false) (cap:=s.size) (mx:=none) (m:=s.size) rfl (by simpa using h1) h2
     simp [Instr.sliceAt,Instr.slice,under_run hu,this]
    ·cases h
   ·cases h
  ·cases h
 ·rename_i elem a len cap hu
  split at h
  ·rename_i m h1
   split at h
   ·rename_i hh h2
    split at h
    ·rename_i l h3
     split at h
     ·rename_i n hn
      cases h
      simp [Instr.sliceAt,Instr.slice,under_run hu,bounds_run h1 h2 h3,sizeOf_run hn]
     ·cases h
    ·cases h
   ·cases h
  ·cases h
 ·rename_i n elem a hu
  split at h
  ·rename_i m h1
   split at h
   ·rename_i hh h2
    split at h
    ·rename_i l h3
     split at h
     ·rename_i k hn
      cases h
      simp [Instr.sliceAt,under_run hu,Instr.sureAddr,bounds_run h1 h2 h3,sizeOf_run hn]
     ·cases h
    ·cases h
   ·cases h
  ·cases h
 ·cases h
theorem lenV_run {t ty:TypeId} {x v:Value} (h:lenV P t x=some v):(Builtin.len_ #[t] ty #[x]).run P w=.ok v w:=by
 unfold lenV at h
 split at h <;> rename_i hu <;> first
  | (cases h;simp [Builtin.len_,under_run hu,goInt];done)
  | skip
 all_goals cases h
theorem indexV_run {t:TypeId} {x ix v:Value} (h:indexV P t x ix=some v):(Instr.index t x ix).run P w=.ok v w:=by
 unfold indexV at h
 split at h
 ·rename_i k i
  split at h
  ·rename_i len elem cs hu
   split at h
   ·rename_i hc
    split at h
    ·rename_i n hn
     simp [Instr.index,asIntOf,under_run hu,hc,sizeOf_run hn,part_run h]
    ·cases h
   ·cases h
  ·rename_i s hu
   split at h
   ·rename_i hc
    split at h
    ·rename_i b hb
     cases h
     simp [Instr.index,asIntOf,under_run hu,hc,hb]
    ·cases h
   ·cases h
  ·cases h
 ·cases h
theorem calcV_run {o:Oper} {v:Value} (h:calcV P ρ o.op=some v):(execOp ρ o).run P w=.ok (.value v) w:=by
 obtain ⟨dst,op,ty,pos,after,guard⟩:=o
 simp only at h
 have lift:∀ {s:Sem Value},s.run P w=.ok v w→(do pure (Next.value (← s)):Sem Next).run P w=.ok (.value v) w:=fun hs=>by
  simp only [Sem.run_bind,hs,Result.andThen_ok,Sem.run_pure]
 cases op with
 | pick c a b =>
  simp only [calcV] at h
  split at h
  ·rename_i t ht
   cases h
   simp [execOp,ht,asBool]
  ·cases h
 | binOp op t x y yt=>exact lift (binW_run h)
 | unOp op t x =>
  simp only [calcV] at h
  refine lift ?_
  split at h
  ·rename_i hx;cases h;rw [hx];rfl
  ·rename_i hx;cases h;rw [hx];rfl
  ·rename_i hx;cases h;rw [hx];rfl
  ·cases h
 | field t x f =>
  simp only [calcV] at h
  refine lift ?_
  split at h
  ·rename_i fields cs hu hx
   split at h
   ·rename_i fl hf
    rw [hx]
    simp [Instr.field,under_run hu,hf,asAgg,part_run h]
   ·cases h
  ·cases h
 | extract t i =>
  simp only [calcV] at h
  refine lift ?_
  split at h
  ·rename_i vs hx;rw [hx];simp [Instr.extract,h]
  ·cases h
 | build t parts =>
  simp only [calcV] at h
  refine lift (buildV_run ?_)
  simpa using h
 | index t x ix=>exact lift (indexV_run h)
 | slice t x lo hi mx=>exact lift (sliceV_run h)
 | convert src dst x =>
  simp only [calcV] at h
  refine lift ?_
  split at h
  ·rename_i d k k' n hu hu' hx
   cases h;rw [hx]
   simp [convert,under_run hu,under_run hu',Conv.intToInt]
  ·rename_i s hu hu' hx
   cases h;rw [hx]
   simp [convert,under_run hu,under_run hu']
  ·cases h
 | fieldAddr s x f =>
  simp only [calcV] at h
  refine lift ?_
  split at h
  ·rename_i fields a hu hx
   split at h
   ·rename_i fl hf
    split at h
    ·rename_i n hn
     split at h
     ·cases h
     ·rename_i hz
      cases h;rw [hx]
      simp [Instr.fieldAt,under_run hu,hf,Instr.sureAddr,fieldPlace,sizeOf_run hn,hz]
    ·cases h
   ·cases h
  ·cases h
 | indexAddr t x ix =>
  simp only [calcV] at h
  refine lift ?_
  split at h
  ·rename_i k i hi
   split at h
   ·rename_i elem a len cap hu hx
    split at h
    ·rename_i hc
     split at h
     ·rename_i n hn
      cases h;rw [hx,hi]
      simp [Instr.indexAt,asIntOf,under_run hu,hc,sizeOf_run hn]
     ·cases h
    ·cases h
   ·rename_i len elem a hu hx
    split at h
    ·rename_i hc
     split at h
     ·rename_i n hn
      cases h;rw [hx,hi]
      simp [Instr.indexAt,asIntOf,under_run hu,hc,sizeOf_run hn,Instr.sureAddr]
     ·cases h
    ·cases h
   ·cases h
  ·cases h
 | nilCheck x =>
  simp only [calcV] at h
  split at h
  ·rename_i a hx;cases h;simp [execOp,hx]
  ·cases h
 | makeFunc fn first captured =>
  simp only [calcV] at h
  cases h
  have e1:∀ xs:Array Operand,(xs.toList.map ρ).toArray=xs.map ρ:=fun xs=>by apply Array.ext';simp
  rw [e1,e1]
  rfl
 | makeInterface t x =>
  simp only [calcV] at h
  refine lift ?_
  split at h
  ·cases h
  ·rename_i d h1 hu
   cases h
   cases d <;> first
    | exact (h1 _ rfl).elim
    | simp [Instr.makeInterface,under_run hu]
  ·cases h
 | call c =>
  simp only [calcV] at h
  obtain ⟨callee,args,argTypes⟩:=c
  simp only at h
  split at h
  ·rename_i x t ha ht
   have ea:args=#[x]:=by cases args;simp at ha;simp [ha]
   have et:argTypes=#[t]:=by cases argTypes;simp at ht;simp [ht]
   subst ea;subst et
   have:=lenV_run (P:=P) (w:=w) (ty:=ty) h
   simp [execOp,resolve,invoke,builtin,this]
  ·rename_i x t ha ht
   have ea:args=#[x]:=by cases args;simp at ha;simp [ha]
   have et:argTypes=#[t]:=by cases argTypes;simp at ht;simp [ht]
   subst ea;subst et
   split at h
   ·rename_i hu hx
    cases h
    simp [execOp,resolve,invoke,builtin,Builtin.cap_,under_run hu,hx,goInt]
   ·cases h
  ·rename_i x y ha
   have ea:args=#[x,y]:=by cases args;simp at ha;simp [ha]
   subst ea
   split at h
   ·rename_i hx hy
    cases h
    simp [execOp,resolve,invoke,builtin,Builtin.min_,Builtin.min2,hx,hy]
   ·cases h
  ·rename_i x y ha
   have ea:args=#[x,y]:=by cases args;simp at ha;simp [ha]
   subst ea
   split at h
   ·rename_i hx hy
    cases h
    simp [execOp,resolve,invoke,builtin,Builtin.max_,Builtin.max2,hx,hy]
   ·cases h
  ·cases h
 | _=>cases h
end
end Go.Mid
