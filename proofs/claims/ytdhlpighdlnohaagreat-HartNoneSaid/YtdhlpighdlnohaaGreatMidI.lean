/-
  THE MIDDLE LAYER, PART NINE: the form that functions are proved in: the checks of all regions at once, ahead.
-/
import Derived.Test.YtdhlpighdlnohaaGreatMidG
set_option linter.unusedSimpArgs false
set_option linter.unusedVariables false
set_option maxHeartbeats 8000000
set_option maxRecDepth 10000
set_option linter.unusedSimpArgs false
set_option linter.unusedVariables false
namespace Go.Mid
open Go Go.RowKit
def res1 (P:Program) (rf:RF) (e:ME) (h:Hp):ResultVar→Option Value
 | .tmp t=>match e.env t with
  | .v x=>some x
  | _=>none
 | .cell a t=>match boxOf rf e (.tmp a) with
  | some (b,off)=>match e.box b with
   | some cs=>loadL P t cs off
   | none=>none
  | none=>match e.env a with
   | .v (.pointer (some p))=>loadH P t h p
   | _=>none
def resL (P:Program) (rf:RF) (e:ME) (h:Hp):List ResultVar→Option (List Value)
 | []=>some []
 | r :: rs=>match res1 P rf e h r,resL P rf e h rs with
  | some v,some vs=>some (v :: vs)
  | _,_=>none
def shut:List Value→Value
 | [v]=>v
 | vs=>.tuple vs.toArray
def ends (P:Program) (rf:RF) (fn:Func) (K:Value→Hp→Prop) (ex:Exit) (e:ME) (h:Hp):Prop :=
 match ex with
 | .normal | .ret=>match resL P rf e h fn.results.toList with
  | some vs=>K (shut vs) h
  | none=>False
 | _=>False
def env0 (l:List Value):Nat→MV:=fun s=>.v (l.getD s undef)
section
variable {P:Program} {rf:RF} {N:Nat} {cl:Nat→Oper→Cl} {pm:List (Nat×List Nat)}
def resS (tmps:Array Value):ResultVar→Sem Value
 | .tmp t=>Pure.pure (tmps.getD t undef)
 | .cell b t=>do loadVar t (← asAddr (tmps.getD b undef))
theorem res1_run {dz:DZ} {w0:World} {h0:Hp} {we:World} {e:ME} {h:Hp} {a:Go.Act} {w:World} (s:At rf N dz w0 h0 we e h a w) {r:ResultVar} {v:Value} (hr:res1 P rf e h r=some v) :
  (resS a.tmps r).run P w=.ok v w:=by
 obtain ⟨β,r1,r2,r3,r4⟩:=s.rel
 cases r with
 | tmp t =>
  simp only [res1] at hr
  split at hr
  ·rename_i x hx
   cases hr
   have:=r1 t;rw [hx] at this
   have this:a.tmps.getD t undef=v:=this
   simp only [resS,this];rfl
  ·cases hr
 | cell b t =>
  simp only [res1] at hr
  split at hr
  ·rename_i bx off hb
   split at hr
   ·rename_i cs hcs
    obtain ⟨tt,htt,he,hrt⟩:=boxOf_spec hb
    cases htt
    obtain ⟨⟨el,hh⟩,_⟩:=r2 bx cs hcs
    have h1:=r1 b
    rw [he] at h1
    obtain ⟨b',hb',hx⟩:=h1
    rw [hrt] at hb';cases hb'
    have hx:a.tmps.getD b undef=.pointer (some ⟨β bx,off,.none⟩):=hx
    have hl:loadH P t (fun k=>w.heap[k]?) ⟨β bx,off,.none⟩=some v:=by
     have agg:isAggT P t=some true→∀ i,P.info? t=some i→(if off+i.size≤cs.length then some (Value.agg ((cs.drop off).take i.size).toArray) else none)=some v→loadH P t (fun k=>w.heap[k]?) ⟨β bx,off,.none⟩=some v:=by
      intro ha i hi hr
      split at hr
      ·rename_i hle
       cases hr
       have hsz:sizeT P t=some i.size:=by simp [sizeT,hi]
       have hc:(true && decide (off+i.size≤cs.toArray.size))=true:=by simpa using hle
       simp only [loadH,ha,hsz,hh,Option.isNone_none,hc,if_true]
       congr 2
       apply Array.ext
       ·first | (simp;done) | (simp;omega)
       ·intro k h1 h2;simp
      ·cases hr
     unfold loadL at hr
     split at hr
     ·rename_i fs hu
      split at hr
      ·rename_i i hi;exact agg (by simp [isAggT,hu]) i hi hr
      ·cases hr
     ·rename_i n el' hu
      split at hr
      ·rename_i i hi;exact agg (by simp [isAggT,hu]) i hi hr
      ·cases hr
     ·rename_i d h1 h2 hu
      have ha:isAggT P t=some false:=by
       unfold isAggT
       rw [hu];cases d <;> first | exact (h1 _ rfl).elim | exact (h2 _ _ rfl).elim | rfl
      simp only [loadH,ha]
      simp [Hp.cell?,hh,hr]
     ·cases hr
    have hs:Sat w (fun k=>w.heap[k]?) w:=⟨rfl,rfl,rfl,Nat.le_refl _,fun _ _ e=>e⟩
    simp only [resS,hx,asAddr,pure_bind,load_run hs hl]
   ·cases hr
  ·split at hr
   ·rename_i p hp
    have:=r1 b;rw [hp] at this
    have this:a.tmps.getD b undef=.pointer (some p):=this
    simp only [resS,this,asAddr,pure_bind,load_run s.ext.sat hr]
   ·cases hr
theorem resL_run {dz:DZ} {w0:World} {h0:Hp} {we:World} {e:ME} {h:Hp} {a:Go.Act} {w:World} (s:At rf N dz w0 h0 we e h a w):∀ (rs:List ResultVar) (vs:List Value),resL P rf e h rs=some vs →
  (rs.mapM (resS a.tmps)).run P w=.ok vs w
 | [],vs,hr=>by cases hr;rfl
 | r :: rs,vs,hr=>by
  unfold resL at hr
  split at hr
  ·rename_i v vs' h1 h2
   cases hr
   have e1:=res1_run s h1
   have e2:=resL_run s rs vs' h2
   rw [List.mapM_cons]
   simp only [Sem.run_bind,e1,Result.andThen_ok,e2]
   rfl
  ·cases hr
theorem results_run {dz:DZ} {w0:World} {h0:Hp} {we:World} {e:ME} {h:Hp} {a:Go.Act} {w:World} (s:At rf N dz w0 h0 we e h a w) {fn:Func} {vs:List Value} (hr:resL P rf e h fn.results.toList=some vs) :
  (results fn a.tmps).run P w=.ok (shut vs) w:=by
 have h1:=resL_run s _ _ hr
 have e1:results fn a.tmps=(do
   let vs ← fn.results.mapM (resS a.tmps)
   Pure.pure (if hh:vs.size=1 then vs[0] else .tuple vs)):=by
  unfold results
  congr 1
 rw [e1,Array.mapM_eq_mapM_toList]
 simp only [Sem.run_bind,Sem.run_map,h1,Result.andThen_ok,Sem.run_pure]
 congr 1
 match vs with
 | []=>rfl
 | [v]=>rfl
 | v :: u :: r=>rfl
structure XD (P:Program) (f:FuncId) (args:Array Value) (u:FrameMode) (h:Hp) (K:FrameMode→Hp→Prop):Prop where
 go:∀ n w0 w,Sat w0 h w→CallsDIn (FW none) n P f args u w fun e u' w'=>∃ v h',e=.returned v∧Ext w0 h w h' w'∧K u' h'
def DLeave (P:Program) (K:FrameMode→Hp→Prop):List Deferred→FrameMode→Hp→Prop
 | [],u,h=>K u h
 | d :: ds,u,h=>match d.target with
  | .fn (.func f) cap=>callable P f=true∧XD P f (d.args.toList++cap.toList).toArray u h fun u' h'=>settle u'≠.run∧DLeave P K ds (settle u') h'
  | _=>False
theorem leaves_D {n:Nat} {fn:Func} {R:Ending→World→Prop} {K:FrameMode→Hp→Prop} {w0:World} {h0:Hp} {we:World} {e:ME} {tm:Array Value} (hK:∀ u h w,At rf N ⟨[],false⟩ w0 h0 we e h { tmps:=tm,defers:=[] } w→u≠.run→K u h→LeavesIn (FW none) n P fn tm R [] u w) :
  ∀ (ds:List Deferred) (dz:List Deferred) (u:FrameMode) (h:Hp) (w:World),u≠.run→At rf N ⟨dz,false⟩ w0 h0 we e h { tmps:=tm,defers:=ds } w→DLeave P K dz u h→LeavesInM (FW none) n P fn tm R ds u w:=by
 intro ds
 induction ds with
 | nil =>
  intro dz u h w hu s hd
  obtain ⟨bs,⟨hm,hbare⟩,hn,hb⟩:=s.defers
  clear hbare
  have:dz=[]:=by
   generalize bs.map mark=bm at hm
   cases hm;rfl
  subst this
  exact hK u h w s hu hd
 | cons d ds ih =>
  intro dz u h w hu s hd
  obtain ⟨bs,⟨hm,hbare⟩,hn,hb⟩:=s.defers
  clear hbare
  generalize hbm:bs.map mark=bm at hm
  cases hm with
  | left hm =>
   cases bs with
   | nil=>cases hbm
   | cons b bs =>
    simp only [List.map_cons,List.cons.injEq] at hbm
    obtain ⟨rfl,hbm⟩:=hbm
    obtain ⟨h1,h2,h3⟩:=hb b (by simp)
    rw [List.nodup_cons] at hn
    have hoth:∀ k,k≠b→(w.putObj b (.deferred none)).heap[k]? = w.heap[k]? := fun k hk=>World.putObj_heap_other hk
    refine ⟨hu,.inl ⟨b,_,rfl,run_takeDeferred h1,ih dz u h _ hu ?_ hd⟩⟩
    obtain ⟨β,r1,r2,r3,r4⟩:=s.rel
    refine ⟨s.size,⟨bs,⟨by rw [hbm];exact hm,fun hh=>by cases hh⟩,hn.2,fun c hc=>?_⟩,⟨⟨s.ext.sat.os,s.ext.sat.tape,s.ext.sat.output,by have:=s.ext.sat.size;simpa using this,fun k o ho=>?_⟩,by have:=s.ext.grow;simpa using this,fun k hk ho=>?_⟩,β,r1,fun t cs ht=>?_,r3,r4⟩
    ·obtain ⟨g1,g2,g3⟩:=hb c (by simp [hc])
     exact ⟨(hoth c (fun ee=>hn.1 (ee ▸ hc))).trans g1,g2,g3⟩
    ·rw [hoth k (fun ee=>by rw [ee,h2] at ho;cases ho)];exact s.ext.sat.known k o ho
    ·rw [hoth k (by omega)];exact s.ext.priv k hk ho
    ·obtain ⟨⟨el,hh⟩,g2,g3⟩:=r2 t cs ht
     exact ⟨⟨el,by rw [hoth _ (fun ee=>by rw [ee,h1] at hh;cases hh)];exact hh⟩,g2,g3⟩
  | right hm =>
   rename_i dz'
   simp only [DLeave] at hd
   split at hd
   ·rename_i f cap ht
    obtain ⟨hcall,hx⟩:=hd
    refine ⟨hu,.inr ⟨fun hh=>(by cases hh),.func f,cap,f,(d.args.toList++cap.toList).toArray,ht,?_,fun _ _=>trivial,?_⟩⟩
    ·unfold callable at hcall
     split at hcall
     ·rename_i fnn hfn
      simp only [Bool.and_eq_true,Bool.not_eq_true',Option.isSome_iff_ne_none] at hcall
      have hname : ¬ fnn.name = "runtime.NumGoroutine" := by simpa using hcall.1
      have hbody:¬ fnn.body=none:=by simpa using hcall.2
      have ee:(d.args.toList++cap.toList).toArray=d.args++cap:=by apply Array.ext';simp
      rw [ee]
      simp [ht,invoke,callFunc,hfn,hname,hbody]
     ·cases hcall
    ·have s0:At rf N ⟨dz',false⟩ w0 h0 we e h { tmps:=tm,defers:=ds } w:=⟨s.size,⟨bs,⟨by rw [hbm];exact hm,fun hh=>by cases hh⟩,hn,hb⟩,s.ext,s.rel⟩
     refine (hx.go _ w0 w s.ext.sat).mono fun en u' w' hh=>?_
     obtain ⟨v,h',he,hxt,hu',hk⟩:=hh
     subst he
     exact ih dz' (settle u') h' w' hu' (s0.heap hxt) hk
   ·exact hd.elim
theorem leaves_marksG {n:Nat} {fn:Func} {R:Ending→World→Prop} {u:FrameMode} {w0:World} {h0:Hp} {we:World} {e:ME} {h:Hp} {a:Go.Act} {w:World} (hu:u≠.run) (s:At rf N ⟨[],false⟩ w0 h0 we e h a w)
  (hk:∀ w',At rf N ⟨[],false⟩ w0 h0 we e h { a with defers:=[] } w'→LeavesIn (FW none) n P fn a.tmps R [] u w'):LeavesInM (FW none) n P fn a.tmps R a.defers u w :=
 leaves_D (K:=fun u' h'=>u'=u∧h'=h) (fun u' h' w' s' _ ⟨e1,e2⟩=>by subst e1 e2;exact hk w' s') a.defers [] u h w hu s ⟨rfl,rfl⟩
theorem leaves_marks {n:Nat} {fn:Func} {R:Ending→World→Prop} {w0:World} {h0:Hp} {we:World} {e:ME} {h:Hp} {a:Go.Act} {w:World} (s:At rf N ⟨[],false⟩ w0 h0 we e h a w)
  (hk:∀ w',At rf N ⟨[],false⟩ w0 h0 we e h { a with defers:=[] } w'→∃ v,(results fn a.tmps).run P w'=.ok v w'∧R (.returned v) w'):LeavesInM (FW none) n P fn a.tmps R a.defers .returning w :=
 leaves_marksG (by simp) s fun w' s'=>hk w' s'
theorem X_of {f:FuncId} {fn:Func} {c:Code} {args:List Value} {h:Hp} {K:Value→Hp→Prop} (hmix:P.follows .mixedOrders=true) (rf:RF) (cl:Nat→Oper→Cl) (pm:List (Nat×List Nat)) (hf:P.funcs[f]? = some fn) (hb:fn.body=some c)
  (hm:mcode P rf (args.length+(fn.ntmps - args.length)) cl pm c ⟨env0 args,fun _=>none⟩ h (ends P rf fn K)):X P f args.toArray h K:=by
 refine ⟨fun w0 w hs=>?_⟩
 refine (callsIn_wide (n:=0)).1 (callsIn_of_wp_marks (F:=FW none) hf hb trivial ?_)
 have hat:At rf (args.length+(fn.ntmps - args.length)) ⟨[],false⟩ w0 h w ⟨env0 args,fun _=>none⟩ h { tmps:=args.toArray++Array.replicate (fn.ntmps - args.toArray.size) undef,defers:=[] } w:=by
  refine ⟨by simp,Marks.nil,Ext.refl hs,fun _=>0,fun s=>?_,fun t cs hb=>(by cases hb),fun t u cs ds hb=>(by cases hb),fun s off b he=>(by cases he)⟩
  show (args.toArray++Array.replicate (fn.ntmps - args.toArray.size) undef).getD s undef=args.getD s undef
  simp only [Array.getD_eq_getD_getElem?,List.getD_eq_getElem?_getD,Array.getElem?_append]
  split
  ·simp
  ·rename_i hge
   simp at hge
   rw [List.getElem?_eq_none hge]
   cases hx:(Array.replicate (fn.ntmps - args.toArray.size) undef)[s - args.toArray.size]? with
   | none=>rfl
   | some x =>
    obtain ⟨hlt,hx⟩:=Array.getElem?_eq_some_iff.1 hx
    simp at hx;simp [← hx]
 refine wpIn_mono (mcode_sound hmix c (.inl rfl) (fun hh=>by cases hh) hm hat) ?_
 rintro ex a1 w1 ⟨e1,h1,s1,hk⟩
 unfold ends at hk
 cases ex with
 | normal =>
  simp only at hk
  split at hk
  ·rename_i vs hvs
   exact leaves_marks s1 fun w' s'=>⟨shut vs,results_run s' hvs,shut vs,h1,rfl,s'.ext,hk⟩
  ·exact hk.elim
 | ret =>
  simp only at hk
  split at hk
  ·rename_i vs hvs
   exact leaves_marks s1 fun w' s'=>⟨shut vs,results_run s' hvs,shut vs,h1,rfl,s'.ext,hk⟩
  ·exact hk.elim
 | exit id=>exact hk.elim
 | goto l=>exact hk.elim
 | panic ch=>exact hk.elim
 | outgrown=>exact hk.elim
def whole (w:World):Hp:=fun b=>w.heap[b]?
theorem whole_sat (w:World):Sat w (whole w) w:=⟨rfl,rfl,rfl,Nat.le_refl _,fun _ _ e=>e⟩
theorem X.top {f:FuncId} {args:Array Value} {w:World} {R:Value→Prop} (x:X P f args (whole w) fun v h'=>R v∧(whole w).le h') :
  Calls P f args w fun e w'=>∃ v,e=.returned v∧R v∧Below w.heap.size w w' :=
 (x.go w w (whole_sat w)).mono fun _ w' ⟨v,_,he,hx,hr,hle⟩=>⟨v,he,hr,hx.sat.os,hx.sat.tape,hx.sat.output,hx.grow,fun k hk=>by
  have h1:whole w k=some w.heap[k]:=by simp [whole,hk]
  have h2:=hx.sat.known k _ (hle k _ h1)
  rw [h2];exact h1.symm⟩
theorem X.law {f:FuncId} {args:Array Value} {w:World} (x:X P f args (whole w) fun v h'=>v=.bool true∧(whole w).le h') :
  Calls P f args w fun e w'=>e=.returned (.bool true)∧Below w.heap.size w w' :=
 (X.top x).mono fun _ _ ⟨v,he,hr,hb⟩=>⟨by rw [he,hr],hb⟩
theorem X.drop {f:FuncId} {args:Array Value} {h:Hp} {K:Value→Hp→Prop} (x:X P f args h fun v h'=>h.le h'∧K v h):X P f args h K :=
 X.forget (x.mono fun _ _ ⟨hle,k⟩=>⟨h,hle,k⟩)
end
end Go.Mid
namespace Go.Mid
open Go Go.RowKit
def dstIn (dr:List Nat) (o:Oper):Bool:=match o.dst with
 | some d=>dr.contains d
 | none=>false
def clOf (P:Program) (rf:RF) (pf dr:List Nat) (_:Nat) (o:Oper):Cl :=
 match o.op with
 | .move _ | .assign _ | .pick .. | .unOp .. | .field .. | .extract .. | .build .. | .makeFunc .. | .fieldAddr .. | .indexAddr .. | .nilCheck .. | .index .. | .slice .. | .makeInterface .. | .binOp ..=>.a
 | .convert src dst _=>match P.underlying src,P.underlying dst with
  | some (.int _),some (.int _)=>.a
  | some .string,some .string=>.a
  | _,_=>.c
 | .alloc _ | .box _ _=>match o.dst with
  | some d=>if rf.of d=some d then .a else .n
  | none=>.n
 | .buildSlice .. | .makeSlice .. | .makeMap .. | .range ..=>.n
 | .load _ (.tmp t)=>match rf.of t with
  | some _=>.a
  | none=>if dstIn dr o=true then .d else .b
 | .load _ _=>if dstIn dr o=true then .d else .b
 | .store _ (.tmp t) _=>match rf.of t with
  | some _=>.a
  | none=>.c
 | .entryStore ..=>.e
 | .lookup ..=>if dstIn dr o=true then .d else .b
 | .call c=>match c.callee with
  | .builtin .len=>match c.argTypes.toList with
   | [t]=>match P.underlying t with
    | some (.map _ _)=>if dstIn dr o=true then .d else .b
    | _=>.a
   | _=>.c
  | .builtin .cap | .builtin .min | .builtin .max=>.a
  | .value (.func f)=>if pf.contains f=true then .b else .c
  | _=>.c
 | _=>.c
def okRU (rf:RF) (cl:Oper→Cl) (pm:List (Nat×List Nat)) (id:Nat) (ops:Array Oper) (draw:Bool):Bool:=match draw with
 | false=>true
 | true=>match memU id (pansOf pm) with
  | true=>okU rf cl pm id ops
  | false=>true
def okC (N:Nat) (rf:RF) (cl:Nat→Oper→Cl) (pm:List (Nat×List Nat)):Code→Bool
 | .region id ops draw=>okR N rf (cl id) pm id ops draw && okRU rf (cl id) pm id ops draw
 | .seq a b=>okC N rf cl pm a && okC N rf cl pm b
 | .cond _ a b=>okC N rf cl pm a && okC N rf cl pm b
 | .block _ b=>okC N rf cl pm b
 | .loop b=>okC N rf cl pm b
 | .scope b=>okC N rf cl pm b
 | .rangeFunc _ ps a b=>(flat a && flat b) && (ps.toList.all (fun t=>decide (t<N)) && (okC N rf cl pm a && okC N rf cl pm b))
 | _=>true
end Go.Mid
