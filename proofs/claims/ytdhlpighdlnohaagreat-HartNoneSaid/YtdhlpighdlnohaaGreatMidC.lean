/-
  THE MIDDLE LAYER, PART THREE: one operation, shown over the partial heap, holds of the model's.
-/
import Derived.Test.YtdhlpighdlnohaaGreatMidB
import Derived.Laws.Cells
import Derived.IntWalk
import Derived.Laws.AppendOwn
set_option linter.unusedSimpArgs false
set_option linter.unusedVariables false
set_option maxHeartbeats 8000000
set_option maxRecDepth 10000
set_option linter.unusedSimpArgs false
set_option linter.unusedVariables false
namespace Go.Mid
open Go Go.RowKit
section
variable {P:Program} {rf:RF} {N:Nat} {dz:DZ} {w0:World} {h0:Hp} {we:World} {e:ME} {h:Hp} {a:Go.Act} {w:World} {o:Oper} {K:ME→Hp→Prop} {Q:Exit→Go.Act→World→Prop}
def Goes (rf:RF) (N:Nat) (dz:DZ) (w0:World) (h0:Hp) (we:World) (K:ME→Hp→Prop) (a:Go.Act) (w:World):Prop:=∃ e h,At rf N dz w0 h0 we e h a w∧K e h
theorem addr_add (b off n:Nat):(⟨b,off,.none⟩:Addr).add n=⟨b,off+n,.none⟩:=by
 unfold Addr.add;split
 ·rename_i hn;subst hn;rfl
 ·rfl
theorem run_storeCellsF {f:Nat×Nat} {el:TypeId}:∀ (vs:List Value) (cs:List Value) (b off i:Nat) (w:World),w.heap[b]? = some (.cells cs.toArray el f)→f.2≤f.1→off+i+vs.length≤cs.length→vs.all Value.oneCell'=true →
  ∃ w',(storeCells ⟨b,off,.none⟩ vs i).run P w=.ok () w'∧w'.os=w.os∧w'.tape=w.tape∧w'.output=w.output∧w'.heap.size=w.heap.size ∧
   w'.heap[b]? = some (.cells (setL cs (off+i) vs).toArray el f)∧∀ k,k≠b→w'.heap[k]? = w.heap[k]?
 | [],cs,b,off,i,w,hb,_,_,_=>⟨w,rfl,rfl,rfl,rfl,rfl,hb,fun _ _=>rfl⟩
 | v :: vs,cs,b,off,i,w,hb,hf,hl,hv=>by
  simp only [List.all_cons,Bool.and_eq_true] at hv
  simp only [List.length_cons] at hl
  have hcell:w.cell? ⟨b,off+i,.none⟩=some (cs[off+i]'(by omega)):=by simp [World.cell?,hb]
  have hfz:w.frozen? ⟨b,off+i,.none⟩=false:=by simp [World.frozen?,hb];omega
  have hb':(w.setCell ⟨b,off+i,.none⟩ v).heap[b]? = some (.cells (cs.set (off+i) v).toArray el f):=by
   simp [World.setCell,Array.getElem?_modify,hb]
  obtain ⟨w',hr,h1,h2,h3,h4,h5,h6⟩:=run_storeCellsF vs (cs.set (off+i) v) b off (i+1) _ hb' hf (by simp;omega) hv.2
  refine ⟨w',?_,h1,h2,h3,by rw [h4];simp,by simpa [setL,Nat.add_assoc] using h5,fun k hk=>by rw [h6 k hk,Below.heap_setCell _ _ _ _ hk]⟩
  simp only [storeCells,Sem.run_bind,addr_add,run_store P w _ v .plain hv.1,hcell,hfz,Bool.false_eq_true,if_false,Result.andThen_ok]
  exact hr
theorem load_run {t:TypeId} {ad:Addr} {v:Value} (hs:Sat w0 h w) (hl:loadH P t h ad=some v):(loadVar t ad).run P w=.ok v w:=by
 unfold loadH at hl
 unfold loadVar
 split at hl
 ·rename_i ha
  split at hl
  ·rename_i n c el f hn hb
   split at hl
   ·rename_i hc
    cases hl
    simp only [Bool.and_eq_true,decide_eq_true_eq] at hc
    have hw:=hs.known _ _ hb
    obtain ⟨blk,off,spot⟩:=ad
    have hspot:spot=none:=by cases spot <;> simp at hc ⊢
    subst hspot
    have hcells:=run_loadCells (P:=P) w ⟨blk,off,none⟩ n (fun j=>c.getD (off+j) undef) (fun j hj=>by
     have h1:=hc.2
     simp only at h1 hw
     unfold Addr.add
     split
     ·rename_i hz;subst hz;simp [World.cell?,hw,show off<c.size by omega]
     ·simp [World.cell?,hw,show off+j<c.size by omega])
    simp only [Sem.run_bind,isAgg_run ha,Result.andThen_ok,if_true,sizeOf_run hn,hcells,Sem.run_pure]
    congr 2
    apply Array.ext
    ·simp at hc ⊢;omega
    ·intro i h1 h2
     simp at h1 h2 hc ⊢
     rw [Array.getElem?_eq_getElem (by omega)];rfl
   ·cases hl
  ·cases hl
 ·rename_i ha
  simp [isAgg_run ha,hs.cell hl]
 ·cases hl
theorem store_run {t:TypeId} {ad:Addr} {z:Value} {b:Nat} {ob:Obj} (hs:Sat w0 h w) (hl:storeH P t h ad z=some (b,ob)):∃ w',(storeVar t ad z).run P w=.ok () w'∧Ext w0 h w (h.set b ob) w':=by
 unfold storeH at hl
 split at hl
 ·rename_i n c el f hn hb
  split at hl
  ·rename_i hc
   cases hl
   simp only [Bool.and_eq_true,beq_iff_eq,decide_eq_true_eq] at hc
   obtain ⟨⟨⟨⟨h1,h2⟩,h3⟩,h4⟩,h5⟩:=hc
   obtain ⟨blk,off,spot⟩:=ad
   have hspot:spot=none:=by cases spot <;> simp at h2 ⊢
   subst hspot
   have hw:=hs.known _ _ hb
   obtain ⟨w',hr,g1,g2,g3,g4,g5,g6⟩:=run_storeCellsF (P:=P) (f:=f) z.cells.toList c.toList blk off 0 w (by simpa using hw) h4 (by simp at h3 ⊢;omega) h5
   refine ⟨w',by simp [storeVar,sizeOf_run hn,h1,hr],Ext.put hs hb g1 g2 g3 g4 (by simpa using g5) g6⟩
  ·cases hl
 ·cases hl
theorem zeroRow_eq (zero:Array Value) (n:Nat):(Array.range n).map (fun x=>zero[x % zero.size]!)=zeroRow zero n:=by apply Array.ext';simp [zeroRow]
theorem alloc_ext (hs:Sat w0 h w) (ob:Obj):Ext w0 h w (h.set w.heap.size ob) (w.alloc ob) :=
 ⟨⟨hs.os,hs.tape,hs.output,by have:=hs.size;simp;omega,fun b x e=>by
   unfold Hp.set at e
   split at e
   ·rename_i hb;cases e;subst hb;show (w.heap.push ob)[w.heap.size]? = some ob;simp
   ·rw [Below.heap_alloc _ _ _ (hs.lt e)];exact hs.known b x e⟩,by simp,fun b hb e =>
   ⟨Below.heap_alloc _ _ _ hb,by rw [Hp.set_other _ _ (by omega)];exact e⟩⟩
theorem clr_run {t ty:TypeId} {x v:Value} {bo:Option (Nat×Obj)} (hs:Sat w0 h w) (hl:clrH P t h x=some (v,bo)):∃ w',(Builtin.clear_ #[t] ty #[x]).run P w=.ok v w'∧Ext w0 h w (h.setO bo) w':=by
 unfold clrH at hl
 split at hl
 ·rename_i hu
  cases hl
  exact ⟨w,by simp [Builtin.clear_,under_run hu],Ext.refl hs⟩
 ·rename_i el a n cap hu
  split at hl
  ·rename_i z c e f hz hb
   split at hl
   ·rename_i hn
    cases hl
    subst hn
    exact ⟨w,by simp [Builtin.clear_,under_run hu],Ext.refl hs⟩
   ·rename_i hn
    split at hl
    ·rename_i hc
     cases hl
     simp only [Bool.and_eq_true,decide_eq_true_eq] at hc
     obtain ⟨⟨⟨h2,h3⟩,h4⟩,h5⟩:=hc
     obtain ⟨blk,off,spot⟩:=a
     have hspot:spot=none:=by cases spot <;> simp at h2 ⊢
     subst hspot
     have hw:=hs.known _ _ hb
     obtain ⟨w',hr,g1,g2,g3,g4,g5,g6⟩:=run_storeCellsF (P:=P) (f:=f) (Builtin.zeroCells z.cells n).toList c.toList blk off 0 w (by simpa using hw) h4 (by simp [size_zeroCells] at h3 ⊢;omega) h5
     refine ⟨w',?_,Ext.put hs hb g1 g2 g3 g4 (by simpa using g5) g6⟩
     have hz2:=zero_run (w:=w) hz
     cases n with
     | zero=>exact (hn rfl).elim
     | succ n=>simp [Builtin.clear_,under_run hu,hz2,hr]
    ·cases hl
  ·cases hl
 ·cases hl
theorem len_run {t ty:TypeId} {x v:Value} (hs:Sat w0 h w) (hl:lenH P t h x=some v):(Builtin.len_ #[t] ty #[x]).run P w=.ok v w:=by
 unfold lenH at hl
 split at hl
 ·rename_i k el r hu
  split at hl
  ·rename_i es c hb
   cases hl
   simp [Builtin.len_,under_run hu,getObj_run hs hb,goInt]
  ·cases hl
 ·cases hl
theorem next_run {t:TypeId} {it v:Value} {bo:Option (Nat×Obj)} (hs:Sat w0 h w) (hl:nextH h it=some (v,bo)):∃ w',(Instr.next it true t).run P w=.ok v w'∧Ext w0 h w (h.setO bo) w':=by
 unfold nextH at hl
 split at hl
 ·rename_i r sp
  split at hl
  ·rename_i s pos hb
   have hw:=hs.known _ _ hb
   have hg:(getObj r).run P w=.ok (.stringIter s pos) w:=by simp [getObj,Sem.run,hw]
   split at hl
   ·rename_i hp
    cases hl
    obtain ⟨w',h1,h2⟩:=setO_ext (P:=P) (o':=.stringIter s (pos+(Utf8.decode s pos).2)) hs hb (fun _ _ _ e=>by cases e)
    exact ⟨w',by simp [Instr.next,hg,hp,h1,goInt],h2⟩
   ·rename_i hp
    cases hl
    exact ⟨w,by simp [Instr.next,hg,hp],Ext.refl hs⟩
  ·cases hl
 ·cases hl
theorem act_run {ρ:Operand→Value} {KK:Value→Hp→Prop} (hs:Sat w0 h w) (hr:aRun P (actOf P ρ o) h KK):∃ nx h' w',(execOp ρ o).run P w=.ok nx w'∧Ext w0 h w h' w'∧fin P nx h' KK:=by
 have sem:aRun P (.sem (execOp ρ o)) h KK→∃ nx h' w',(execOp ρ o).run P w=.ok nx w'∧Ext w0 h w h' w'∧fin P nx h' KK:=fun hm=>mid_sound _ hm hs
 have new:∀ (ob:Obj) (v:Nat→Value),aRun P (.nw ob v) h KK→(execOp ρ o).run P w=.ok (.value (v w.heap.size)) (w.alloc ob)→∃ nx h' w',(execOp ρ o).run P w=.ok nx w'∧Ext w0 h w h' w'∧fin P nx h' KK :=
  fun ob v hm hx=>⟨_,_,_,hx,alloc_ext hs ob,hm _ hs.fresh⟩
 have io:∀ (f:Hp→Option (Value×Option (Nat×Obj))),aRun P (.io f) h KK→(∀ v bo,f h=some (v,bo)→∃ w',(execOp ρ o).run P w=.ok (.value v) w'∧Ext w0 h w (h.setO bo) w')→∃ nx h' w',(execOp ρ o).run P w=.ok nx w'∧Ext w0 h w h' w'∧fin P nx h' KK:=by
  intro f hm hx
  simp only [aRun] at hm
  split at hm
  ·rename_i v bo hf
   obtain ⟨w',h1,h2⟩:=hx v bo hf
   exact ⟨.value v,_,w',h1,h2,hm⟩
  ·exact hm.elim
 obtain ⟨dst,op,ty,pos,after,guard⟩:=o
 cases op with
 | load t x =>
  simp only [actOf] at hr
  split at hr
  ·rename_i ad hx
   simp only [aRun] at hr
   split at hr
   ·rename_i v hv
    exact ⟨.value v,h,w,by simp [execOp,Instr.loadAt,hx,Instr.sureAddr,load_run hs hv],Ext.refl hs,hr⟩
   ·exact hr.elim
  ·exact sem hr
 | store t x y =>
  simp only [actOf] at hr
  split at hr
  ·rename_i ad hx
   simp only [aRun] at hr
   split at hr
   ·rename_i b ob hv
    obtain ⟨w',h1,h2⟩:=store_run hs hv
    exact ⟨.skip,_,w',by simp [execOp,Instr.storeAt,hx,Instr.sureAddr,h1],h2,hr⟩
   ·exact hr.elim
  ·exact sem hr
 | alloc el =>
  simp only [actOf] at hr
  split at hr
  ·rename_i z hz
   exact new _ _ hr (by simp [execOp,Instr.alloc,zero_run hz,newVar,newRow])
  ·exact sem hr
 | box el x=>exact new _ _ hr (by simp [execOp,Instr.box,newVar,newRow])
 | makeMap t r =>
  cases r with
  | none=>exact new _ _ hr (by simp [execOp,Instr.makeMap])
  | some x =>
   simp only [actOf] at hr
   split at hr
   ·rename_i hu hx
    exact new _ _ hr (by simp [execOp,Instr.makeMap,under_run hu,hx,asInt,asIntOf])
   ·exact sem hr
 | buildSlice t len parts =>
  simp only [actOf] at hr
  split at hr
  ·rename_i elem hu
   split at hr
   ·rename_i n z hn hz
    split at hr
    ·rename_i cs hcs
     split at hcs
     ·rename_i hlen
      cases hcs
      refine new _ _ hr ?_
      obtain ⟨rfl,hps⟩:=hlen
      have hps':parts=#[]:=Array.eq_empty_of_size_eq_zero hps
      subst hps'
      have e0:Array.map (fun _:Nat=>(default:Value)) (Array.range 0)=#[]:=by apply Array.ext' ; simp
      simp [execOp,Instr.buildSlice,under_run hu,sizeOf_run hn,Instr.fill,newRow,run_newObj,World.alloc_eq]
      rw [e0]
     split at hcs
     ·rename_i hlen
      refine new _ _ hr ?_
      have h3:=fill_eq hcs
      simp only [Array.toArray_toList] at h3
      have e1:(parts.map fun p=>(p.1,ρ p.2)).toList=parts.toList.map fun p=>(p.1,ρ p.2):=by simp
      rw [← e1] at h3
      have hne:¬ len*n=0:=by omega
      have hle:¬ len*n>2 ^ 24:=by omega
      simp only [execOp,Instr.buildSlice,Sem.run_bind,under_run hu,Result.andThen_ok,sizeOf_run hn,if_neg hle,if_neg hne,zero_run hz,Sem.run_pure,zeroRow_eq,h3,newRow,run_newObj,World.alloc_eq]
     ·cases hcs
    ·exact sem hr
   ·exact sem hr
  ·exact sem hr
 | makeSlice t l c =>
  simp only [actOf] at hr
  split at hr
  ·rename_i elem k1 n k2 m hu hl hc
   split at hr
   ·rename_i s by_ z hs' hb hz
    split at hr
    ·rename_i hcond
     obtain ⟨c1,c2,c3,c4,c5⟩:=hcond
     refine new _ _ hr ?_
     have hb':(typeInfo elem).run P w=.ok ((P.info? elem).getD default) w∧((P.info? elem).getD default).bytes=by_:=by
      unfold bytesT at hb
      split at hb
      ·rename_i i hi;cases hb;simp [typeInfo,hi]
      ·cases hb
     have wm:IntKind.i64.wrap m=m:=IntWalk.i64_in m (by omega)
     have wn:IntKind.i64.wrap n=n:=IntWalk.i64_in n (by omega)
     have hz0:¬ m.toNat*s=0∨m.toNat*s=0:=(Decidable.em _).symm
     have hlt1:¬ m<0:=by omega
     have hlt2:¬ n<0:=by omega
     have hlt3:¬ m<n:=by omega
     have hlt4:¬ (2:Int) ^ 48<(by_:Int)*m:=by omega
     have hcnd:((decide (m<0) || decide ((by_:Int)*m>2 ^ 48)) || decide (n<0) || decide (n>m))=true↔False:=by
      simp only [Bool.or_eq_true,decide_eq_true_eq,iff_false];omega
     by_cases hz1:m.toNat*s=0
     ·have e1:zeroRow z.cells (m.toNat*s)=#[]:=by rw [hz1];simp [zeroRow]
      rw [e1]
      simp only [execOp,Instr.makeSlice,hl,hc,asInt,asIntOf,Sem.run_bind,under_run hu,Result.andThen_ok,Sem.run_pure,hb'.1,hb'.2,wm,wn,hcnd,if_false,run_askRoom,sizeOf_run hs',Sem.run_ite,if_pos hz1]
      rw [hz1]
      have e2:∀ f:Nat→Value,Array.map f (Array.range 0)=#[]:=fun f=>by apply Array.ext <;> simp
      simp only [newRow,e2,Sem.run_bind,run_newObj,Result.andThen_ok,Sem.run_pure,World.alloc_eq]
     ·simp only [execOp,Instr.makeSlice,hl,hc,asInt,asIntOf,Sem.run_bind,under_run hu,Result.andThen_ok,Sem.run_pure,hb'.1,hb'.2,wm,wn,hcnd,if_false,run_askRoom,sizeOf_run hs',Sem.run_ite,if_neg hz1,zero_run hz,newRow,run_newObj,zeroRow_eq,World.alloc_eq]
    ·exact sem hr
   ·exact sem hr
  ·exact sem hr
 | call c =>
  simp only [actOf] at hr
  split at hr
  ·rename_i f hc
   split at hr
   ·rename_i g first captured hf
    split at hr
    ·rename_i hcall
     have ea:(first.toList++(c.args.toList.map ρ++captured.toList)).toArray=first++(c.args.map ρ++captured):=by apply Array.ext';simp
     refine ⟨.enter g (first++(c.args.map ρ++captured)),h,w,?_,Ext.refl hs,by rw [← ea];exact hr⟩
     unfold callable at hcall
     split at hcall
     ·rename_i fn hfn
      simp only [Bool.and_eq_true,Bool.not_eq_true',Option.isSome_iff_ne_none] at hcall
      have hname : ¬ fn.name = "runtime.NumGoroutine" := by simpa using hcall.1
      have hbody:¬ fn.body=none:=by simpa using hcall.2
      simp [execOp,resolve,hc,hf,Deferred.ofValue,invoke,callFunc,hfn,hname,hbody]
     ·cases hcall
    ·exact sem hr
   ·exact sem hr
  ·rename_i hc
   split at hr
   ·rename_i m k t t2 ha ht
    obtain ⟨callee,args,argTypes⟩:=c
    simp only at hc ha ht
    have ea:args=#[m,k]:=by cases args;simp at ha;simp [ha]
    have et:argTypes=#[t,t2]:=by cases argTypes;simp at ht;simp [ht]
    subst ea;subst et;subst hc
    refine io _ hr fun v bo hf=>?_
    obtain ⟨w',h1,h2⟩:=del_run (P:=P) (ty:=t2) hs hf
    refine ⟨w',?_,h2⟩
    have h1':(Builtin.delete_ #[t,t2] ty #[ρ m,ρ k]).run P w=.ok v w':=h1
    simp [execOp,resolve,invoke,builtin,h1']
   ·exact sem hr
  ·rename_i hc
   split at hr
   ·rename_i x t ha ht
    obtain ⟨callee,args,argTypes⟩:=c
    simp only at hc ha ht
    have ea:args=#[x]:=by cases args;simp at ha;simp [ha]
    have et:argTypes=#[t]:=by cases argTypes;simp at ht;simp [ht]
    subst ea;subst et;subst hc
    simp only [aRun] at hr
    split at hr
    ·rename_i v hv
     exact ⟨.value v,h,w,by simp [execOp,resolve,invoke,builtin,len_run (ty:=ty) hs hv],Ext.refl hs,hr⟩
    ·exact hr.elim
   ·exact sem hr
  ·rename_i hc
   split at hr
   ·rename_i x t ha ht
    obtain ⟨callee,args,argTypes⟩:=c
    simp only at hc ha ht
    have ea:args=#[x]:=by cases args;simp at ha;simp [ha]
    have et:argTypes=#[t]:=by cases argTypes;simp at ht;simp [ht]
    subst ea;subst et;subst hc
    refine io _ hr fun v bo hf=>?_
    obtain ⟨w',h1,h2⟩:=clr_run (P:=P) (ty:=ty) hs hf
    exact ⟨w',by simp [execOp,resolve,invoke,builtin,h1],h2⟩
   ·exact sem hr
  ·exact sem hr
 | lookup t x ix ok =>
  simp only [actOf,aRun] at hr
  split at hr
  ·rename_i v hv
   exact ⟨.value v,h,w,by simp [execOp,look_run hs hv],Ext.refl hs,hr⟩
  ·exact hr.elim
 | mapUpdate t m k x =>
  simp only [actOf,aRun] at hr
  split at hr
  ·rename_i b ob hv
   obtain ⟨w',h1,h2⟩:=upd_run (P:=P) hs hv
   exact ⟨.skip,_,w',by simp [execOp,h1],h2,hr⟩
  ·exact hr.elim
 | insert t m k x =>
  simp only [actOf,aRun] at hr
  split at hr
  ·rename_i b ob hv
   obtain ⟨w',h1,h2⟩:=upd_run (P:=P) hs hv
   exact ⟨.skip,_,w',by simp [execOp,h1],h2,hr⟩
  ·exact hr.elim
 | mapEntry t m k=>exact io _ hr fun v bo hf=>by obtain ⟨w',h1,h2⟩:=ent_run (P:=P) hs hf;exact ⟨w',by simp [execOp,h1],h2⟩
 | entryStore t m k x =>
  simp only [actOf,aRun] at hr
  split at hr
  ·rename_i b ob hv
   obtain ⟨w',h1,h2⟩:=entS_run (P:=P) (t:=t) hs hv
   exact ⟨.skip,_,w',by simp [execOp,h1],h2,hr⟩
  ·exact hr.elim
 | range t x =>
  simp only [actOf] at hr
  split at hr
  ·rename_i s hu hx
   exact new _ _ hr (by simp [execOp,Instr.range,under_run hu,hx])
  ·exact sem hr
 | next it str =>
  simp only [actOf] at hr
  split at hr
  ·exact io _ hr fun v bo hf=>by obtain ⟨w',h1,h2⟩:=next_run (P:=P) (t:=ty) hs hf;exact ⟨w',by simp [execOp,h1],h2⟩
  ·exact sem hr
 | _=>exact sem hr
theorem semAt_run {rd:Option Nat} {ρ:Operand→Value} {o:Oper} {nx:Next} {w w':World} (hr:(execOp ρ o).run P w=.ok nx w') (hn:∀ d,nx≠.defer d):(Oper.semAt rd ρ o).run P w=.ok nx w':=by
 by_cases hd:∃ c,o.op=.defer c
 ·obtain ⟨c,hc⟩:=hd
  exfalso
  unfold execOp at hr
  rw [hc] at hr
  simp only [Sem.run_bind] at hr
  cases hres:(resolve ρ c o.type).run P w with
  | ok d w1 =>
   rw [hres] at hr
   simp only [Result.andThen_ok,Sem.run_pure,Result.ok.injEq] at hr
   exact hn _ hr.1.symm
  | halt x w1 =>
   rw [hres] at hr
   simp only [Result.andThen] at hr
   cases hr
 ·rw [Oper.semAt_eq rd ρ o (fun c hc=>hd ⟨c,hc⟩)];exact hr
variable {rd:Option Nat} {nn:Nat}
theorem gen_sound (hd:∀ k,o.dst=some k→k<N) (s:At rf N dz w0 h0 we e h a w) (hm:run1 P rf o (gen P o e) e h K):o.wpIn (FW rd) nn P a w (Goes rf N dz w0 h0 we K) Q:=by
 unfold gen at hm
 split at hm
 ·rename_i hv
  split at hm
  ·rename_i v hcv
   have hx:=calcV_run (w:=w) hcv
   unfold Oper.wpIn
   refine ⟨fun _ _=>trivial,?_⟩
   rw [semAt_run (by rw [s.exec hv];exact hx) (by simp)]
   exact ⟨_,h,s.slot hd v _ (.inl rfl),hm⟩
  ·obtain ⟨nx,h',w',hr,hx,hf⟩:=act_run (w0:=w0) s.ext.sat hm
   unfold Oper.wpIn
   refine ⟨fun _ _=>trivial,?_⟩
   have s':=s.heap hx
   have hsem:=fun hn=>semAt_run (rd:=(FW rd).round) (ρ:=a.eval) (o:=o) (nx:=nx) (w:=w) (w':=w') (by rw [s.exec hv];exact hr) hn
   cases nx with
   | value v=>rw [hsem (by simp)];exact ⟨_,h',s'.slot hd v _ (.inl rfl),hf⟩
   | skip=>rw [hsem (by simp)];exact ⟨_,h',s'.slot hd undef _ (.inl rfl),hf⟩
   | enter f args =>
    rw [hsem (by simp)]
    refine ⟨fun hh=>(by cases hh),calls_FW ((X.go hf w0 w' hx.sat).mono fun en w'' ⟨v,h'',he,hx',hk⟩=>?_)⟩
    subst he
    exact ⟨_,h'',(s'.heap hx').slot hd v _ (.inl rfl),hk⟩
   | round l f tm asg body =>
    rw [hsem (by simp)]
    refine ⟨fun hh=>(by cases hh),round_FW ((XR.go hf w0 w' hx.sat).mono fun en w'' ⟨v,h'',he,hx',hk⟩=>?_)⟩
    subst he
    exact ⟨_,h'',(s'.heap hx').slot hd v _ (.inl rfl),hk⟩
   | _=>exact hf.elim
 ·exact hm.elim
theorem wp_value {x:Value} {w':World} (hr:(execOp a.eval o).run P w=.ok (.value x) w') (hk:Goes rf N dz w0 h0 we K (a.put o.dst x) w'):o.wpIn (FW rd) nn P a w (Goes rf N dz w0 h0 we K) Q:=by
 unfold Oper.wpIn
 refine ⟨fun _ _=>trivial,?_⟩
 rw [semAt_run hr (by simp)]
 exact hk
theorem boxOf_spec {x:Operand} {b off:Nat} (hb:boxOf rf e x=some (b,off)):∃ t,x=.tmp t∧e.env t=.ref off∧rf.of t=some b:=by
 unfold boxOf at hb
 split at hb
 ·rename_i t
  split at hb
  ·rename_i o' he
   split at hb
   ·rename_i b' hr
    cases hb
    exact ⟨t,rfl,he,hr⟩
   ·cases hb
  ·cases hb
 ·cases hb
theorem run_storeCells {el:TypeId}:∀ (vs:List Value) (cs:List Value) (b off i:Nat) (w:World),w.heap[b]? = some (.cells cs.toArray el (0,0))→off+i+vs.length≤cs.length→vs.all Value.oneCell'=true →
  ∃ w',(storeCells ⟨b,off,.none⟩ vs i).run P w=.ok () w'∧w'.os=w.os∧w'.tape=w.tape∧w'.output=w.output∧w'.heap.size=w.heap.size ∧
   w'.heap[b]? = some (.cells (setL cs (off+i) vs).toArray el (0,0))∧∀ k,k≠b→w'.heap[k]? = w.heap[k]?
 | [],cs,b,off,i,w,hb,_,_=>⟨w,rfl,rfl,rfl,rfl,rfl,hb,fun _ _=>rfl⟩
 | v :: vs,cs,b,off,i,w,hb,hl,hv=>by
  simp only [List.all_cons,Bool.and_eq_true] at hv
  simp only [List.length_cons] at hl
  have hcell:w.cell? ⟨b,off+i,.none⟩=some (cs[off+i]'(by omega)):=by simp [World.cell?,hb]
  have hfz:w.frozen? ⟨b,off+i,.none⟩=false:=by simp [World.frozen?,hb]
  have hb':(w.setCell ⟨b,off+i,.none⟩ v).heap[b]? = some (.cells (cs.set (off+i) v).toArray el (0,0)):=by
   simp [World.setCell,Array.getElem?_modify,hb]
  obtain ⟨w',hr,h1,h2,h3,h4,h5,h6⟩:=run_storeCells vs (cs.set (off+i) v) b off (i+1) _ hb' (by simp;omega) hv.2
  refine ⟨w',?_,h1,h2,h3,by rw [h4];simp,by simpa [setL,Nat.add_assoc] using h5,fun k hk=>by rw [h6 k hk,Below.heap_setCell _ _ _ _ hk]⟩
  simp only [storeCells,Sem.run_bind,addr_add,run_store P w _ v .plain hv.1,hcell,hfz,Bool.false_eq_true,if_false,Result.andThen_ok]
  exact hr
theorem step_sound (hd:∀ k,o.dst=some k→k<N) (s:At rf N dz w0 h0 we e h a w) (hm:step P rf o e h K):o.wpIn (FW rd) nn P a w (Goes rf N dz w0 h0 we K) Q:=by
 obtain ⟨dst,op,ty,pos,after,guard⟩:=o
 unfold step at hm
 have place:∀ (x:Operand) (b off off':Nat),boxOf rf e x=some (b,off)→run1 P rf ⟨dst,op,ty,pos,after,guard⟩ (refU rf dst b off') e h K →
   (∀ β:Nat→Nat,a.eval x=.pointer (some ⟨β b,off,.none⟩)→(execOp a.eval ⟨dst,op,ty,pos,after,guard⟩).run P w=.ok (.value (.pointer (some ⟨β b,off',.none⟩))) w) →
   Oper.wpIn (FW rd) nn P ⟨dst,op,ty,pos,after,guard⟩ a w (Goes rf N dz w0 h0 we K) Q:=by
  intro x b off off' hb hm hr
  obtain ⟨t,rfl,he,hrt⟩:=boxOf_spec hb
  obtain ⟨β,r1,r2,r3,r4⟩:=s.rel
  obtain ⟨cs,hcs⟩:=r4 t off b he hrt
  cases dst with
  | none=>exact hm.elim
  | some d =>
   simp only [refU] at hm
   split at hm
   ·rename_i hrd
    have h1:=r1 t
    rw [he] at h1
    obtain ⟨b',hb',hx⟩:=h1
    rw [hrt] at hb';cases hb'
    refine wp_value (hr β hx) ⟨_,h,?_,hm⟩
    exact s.place (hd d rfl) hrd hcs r1 r2 r3 r4
   ·exact hm.elim
 cases op with
 | move x =>
  simp only [plan] at hm
  split at hm
  ·rename_i b off hb;exact place x b off off hb hm fun β hx=>by simp [execOp,hx]
  ·split at hm
   ·rename_i y hy
    exact wp_value (by simp only [execOp,s.eval hy];rfl) ⟨_,h,s.slot hd y _ (.inl rfl),hm⟩
   ·exact wp_value (by simp only [execOp];rfl) ⟨_,h,s.slot hd _ _ (.inr rfl),hm⟩
 | assign x =>
  simp only [plan] at hm
  split at hm
  ·rename_i b off hb;exact place x b off off hb hm fun β hx=>by simp [execOp,hx]
  ·split at hm
   ·rename_i y hy
    exact wp_value (by simp only [execOp,s.eval hy];rfl) ⟨_,h,s.slot hd y _ (.inl rfl),hm⟩
   ·exact wp_value (by simp only [execOp];rfl) ⟨_,h,s.slot hd _ _ (.inr rfl),hm⟩
 | nilCheck x =>
  simp only [plan] at hm
  split at hm
  ·rename_i b off hb;exact place x b off off hb hm fun β hx=>by simp [execOp,hx]
  ·exact gen_sound hd s hm
 | alloc el =>
  simp only [plan] at hm
  cases dst with
  | none=>exact gen_sound hd s hm
  | some d =>
   simp only at hm
   split at hm
   ·rename_i hrd
    split at hm
    ·rename_i i hi
     split at hm
     ·rename_i z hz
      refine wp_value (w':=w.alloc (.cells z.cells el)) (x:=.pointer (some ⟨w.heap.size,0,.none⟩)) ?_ ⟨_,h,?_,hm⟩
      ·simp [execOp,Instr.alloc,zeroValue,typeInfo,hi,hz,newVar,newRow]
      ·have:=s.newbox z.cells.toList el (hd d rfl) hrd
       simpa using this
     ·exact hm.elim
    ·exact hm.elim
   ·exact gen_sound hd s hm
 | box el x =>
  simp only [plan] at hm
  cases dst with
  | none=>exact gen_sound hd s hm
  | some d =>
   simp only at hm
   split at hm
   ·rename_i hrd
    split at hm
    ·rename_i y hy
     refine wp_value (w':=w.alloc (.cells y.cells el)) (x:=.pointer (some ⟨w.heap.size,0,.none⟩)) ?_ ⟨_,h,?_,hm⟩
     ·simp [execOp,Instr.box,newVar,newRow,s.eval hy]
     ·have:=s.newbox y.cells.toList el (hd d rfl) hrd
      simpa using this
    ·exact hm.elim
   ·exact gen_sound hd s hm
 | load t x =>
  simp only [plan] at hm
  split at hm
  ·rename_i b off hb
   obtain ⟨tt,rfl,he,hrt⟩:=boxOf_spec hb
   obtain ⟨β,r1,r2,r3,r4⟩:=s.rel
   split at hm
   ·rename_i cs hcs
    split at hm
    ·rename_i v hv
     obtain ⟨⟨el,hh⟩,_⟩:=r2 b cs hcs
     have h1:=r1 tt
     rw [he] at h1
     obtain ⟨b',hb',hx⟩:=h1
     rw [hrt] at hb';cases hb'
     have hx:a.eval (.tmp tt)=.pointer (some ⟨β b,off,.none⟩):=hx
     refine wp_value (x:=v) (w':=w) ?_ ⟨_,h,s.slot hd v _ (.inl rfl),hm⟩
     have key:(loadVar t ⟨β b,off,.none⟩).run P w=.ok v w:=by
      unfold loadL at hv
      unfold loadVar isAgg underlying
      split at hv
      ·rename_i fs hu
       split at hv
       ·rename_i i hi
        split at hv
        ·rename_i hle
         cases hv
         have hc:=run_loadCells_list (P:=P) w ⟨β b,off,.none⟩ ((cs.drop off).take i.size) (fun j u hj=>by
          rw [addr_add]
          rw [List.getElem?_take] at hj
          split at hj
          ·rw [List.getElem?_drop] at hj;simp [World.cell?,hh,hj]
          ·cases hj)
         rw [show ((cs.drop off).take i.size).length=i.size by simp;omega] at hc
         simp [hu,sizeOf,typeInfo,hi,hc]
        ·cases hv
       ·cases hv
      ·rename_i n el' hu
       split at hv
       ·rename_i i hi
        split at hv
        ·rename_i hle
         cases hv
         have hc:=run_loadCells_list (P:=P) w ⟨β b,off,.none⟩ ((cs.drop off).take i.size) (fun j u hj=>by
          rw [addr_add]
          rw [List.getElem?_take] at hj
          split at hj
          ·rw [List.getElem?_drop] at hj;simp [World.cell?,hh,hj]
          ·cases hj)
         rw [show ((cs.drop off).take i.size).length=i.size by simp;omega] at hc
         simp [hu,sizeOf,typeInfo,hi,hc]
        ·cases hv
       ·cases hv
      ·rename_i d h1 h2 hu
       have hcell:w.cell? ⟨β b,off,.none⟩=some v:=by simp [World.cell?,hh,hv]
       cases d <;> first
        | exact (h1 _ rfl).elim
        | exact (h2 _ _ rfl).elim
        | simp [hu,hcell]
      ·cases hv
     simp only [execOp,Instr.loadAt,hx,Instr.sureAddr,pure_bind,Sem.run_bind,key,Result.andThen_ok,Sem.run_pure]
    ·exact hm.elim
   ·exact hm.elim
  ·exact gen_sound hd s hm
 | store t x y =>
  simp only [plan] at hm
  split at hm
  ·rename_i b off hb
   obtain ⟨tt,rfl,he,hrt⟩:=boxOf_spec hb
   obtain ⟨β,r1,r2,r3,r4⟩:=s.rel
   split at hm
   ·rename_i cs hcs
    split at hm
    ·rename_i z hz
     split at hm
     ·rename_i i hi
      split at hm
      ·rename_i hc
       simp only [Bool.and_eq_true,beq_iff_eq,decide_eq_true_eq] at hc
       obtain ⟨⟨⟨hsz,hle⟩,hall⟩,hdn⟩:=hc
       obtain ⟨⟨el,hh⟩,_⟩:=r2 b cs hcs
       have h1:=r1 tt
       rw [he] at h1
       obtain ⟨b',hb',hx⟩:=h1
       rw [hrt] at hb';cases hb'
       have hx:a.eval (.tmp tt)=.pointer (some ⟨β b,off,.none⟩):=hx
       obtain ⟨w',hr,g1,g2,g3,g4,g5,g6⟩:=run_storeCells (P:=P) z.cells.toList cs (β b) off 0 w hh (by simp;omega) hall
       have hdst:dst=none:=by cases dst <;> first | rfl | cases hdn
       subst hdst
       unfold Oper.wpIn
       refine ⟨fun _ _=>trivial,?_⟩
       have:(execOp a.eval { dst:=none,op:=.store t (.tmp tt) y,type:=ty,pos:=pos,after:=after,guard:=guard }).run P w=.ok .skip w':=by
        simp [execOp,Instr.storeAt,hx,Instr.sureAddr,s.eval hz,storeVar,sizeOf,typeInfo,hi,hsz,hr]
       rw [semAt_run this (by simp)]
       exact ⟨_,h,s.setbox hcs r1 r2 r3 r4 g1 g2 g3 g4 (by simpa using g5) g6,hm⟩
      ·exact hm.elim
     ·exact hm.elim
    ·exact hm.elim
   ·exact hm.elim
  ·exact gen_sound hd s hm
 | fieldAddr st x f =>
  simp only [plan] at hm
  split at hm
  ·rename_i b off hb
   split at hm
   ·rename_i fields hu
    split at hm
    ·rename_i fl hf
     split at hm
     ·rename_i i hi
      split at hm
      ·exact hm.elim
      ·rename_i hz
       refine place x b off _ hb hm fun β hx=>?_
       simp [execOp,Instr.fieldAt,underlying,hu,hf,hx,Instr.sureAddr,fieldPlace,sizeOf,typeInfo,hi,hz,addr_add]
     ·exact hm.elim
    ·exact hm.elim
   ·exact hm.elim
  ·exact gen_sound hd s hm
 | indexAddr t x ix =>
  simp only [plan] at hm
  split at hm
  ·rename_i b off hb
   split at hm
   ·rename_i len elem hu
    split at hm
    ·rename_i k i hi
     split at hm
     ·rename_i j hj
      split at hm
      ·rename_i hrange
       refine place x b off _ hb hm fun β hx=>?_
       simp [execOp,Instr.indexAt,asIntOf,s.eval hi,underlying,hu,hx,Instr.sureAddr,sizeOf,typeInfo,hj,hrange,addr_add]
      ·exact hm.elim
     ·exact hm.elim
    ·exact hm.elim
   ·exact hm.elim
  ·exact gen_sound hd s hm
 | _=>exact gen_sound hd s hm
end
end Go.Mid
