/-
  THE MIDDLE LAYER: maps: what a look-up, a store and a delete come to, as plain functions of the partial heap.
-/
import Derived.Test.YtdhlpighdlnohaaGreatMidL
set_option linter.unusedSimpArgs false
set_option linter.unusedVariables false
set_option maxHeartbeats 8000000
set_option maxRecDepth 10000
set_option linter.unusedSimpArgs false
set_option linter.unusedVariables false
namespace Go.Mid
open Go Go.RowKit
def keyFs (P:Program) (chk:TypeId→Value→Bool) (xs:Array Value):List Field→Bool
 | []=>true
 | f :: fs => if f.name ≠ "_" then (match partV P f.type xs f.offset with
   | some a=>chk f.type a && keyFs P chk xs fs
   | none=>false) else keyFs P chk xs fs
def keyAs (P:Program) (chk:TypeId→Value→Bool) (elem:TypeId) (n:Nat) (xs:Array Value):Nat→Nat→Bool
 | 0,_=>true
 | k+1,i=>match partV P elem xs (i*n) with
  | some a=>chk elem a && keyAs P chk elem n xs k (i+1)
  | none=>false
def keyV (P:Program):Nat→TypeId→Value→Bool
 | 0,_,_=>false
 | d+1,t,v=>match P.underlying t,v with
  | some (.interface _),_=>false
  | some (.array len elem),.agg cs=>match sizeT P elem with
   | some n=>keyAs P (keyV P d) elem n cs len 0
   | none=>false
  | some (.array _ _),_=>false
  | some (.struct fields),.agg cs=>keyFs P (keyV P d) cs fields.toList
  | some (.struct _),_=>false
  | some _,_=>true
  | none,_=>false
theorem keyAs_run {P:Program} {w:World} {b:Bool} {d:Nat} {elem:TypeId} {n:Nat} {xs:Array Value} (ih:∀ (t:TypeId) (v:Value),keyV P d t v=true→(Instr.checkKey b d t v).run P w=.ok () w) (hn:sizeT P elem=some n):∀ (m i:Nat),keyAs P (keyV P d) elem n xs m i=true →
  ((forIn (List.range' i m) () (fun i _=>do
   Instr.checkKey b d elem (← part elem xs (i*(← sizeOf elem)))
   pure (.yield ()))):Sem Unit).run P w=.ok () w
 | 0,_,_=>by simp
 | m+1,i,h=>by
  unfold keyAs at h
  split at h
  ·rename_i a ha
   simp only [Bool.and_eq_true] at h
   have h2:=keyAs_run ih hn m (i+1) h.2
   rw [List.range'_succ]
   simp only [List.forIn_cons,Sem.run_bind,sizeOf_run hn,Result.andThen_ok,part_run ha,ih _ _ h.1,Sem.run_pure]
   exact h2
  ·cases h
theorem keyV_run {P:Program} {w:World} {b:Bool}:∀ (d:Nat) (t:TypeId) (v:Value),keyV P d t v=true→(Instr.checkKey b d t v).run P w=.ok () w
 | 0,_,_,h=>by cases h
 | d+1,t,v,h=>by
  have ih:=keyV_run (P:=P) (w:=w) (b:=b) d
  unfold keyV at h
  unfold Instr.checkKey
  split at h
  ·cases h
  ·rename_i len elem cs hu
   split at h
   ·rename_i n hn
    have:=keyAs_run (b:=b) ih hn len 0 h
    simp only [Sem.run_bind,under_run hu,Result.andThen_ok]
    simp at this ⊢
    rw [this]
    rfl
   ·cases h
  ·cases h
  ·rename_i fields cs hu
   simp only [Sem.run_bind,under_run hu,Result.andThen_ok]
   rw [← Array.forIn_toList]
   generalize fields.toList=fs at h
   clear hu
   induction fs with
   | nil=>simp
   | cons f fs ihf =>
    unfold keyFs at h
    by_cases hn : f.name ≠ "_"
    ·rw [if_pos hn] at h
     split at h
     ·rename_i a ha
      simp only [Bool.and_eq_true] at h
      have h2:=ihf h.2
      simp only [List.forIn_cons,Sem.run_bind,if_pos hn,Result.andThen_ok,part_run ha,ih _ _ h.1,Sem.run_pure]
      exact h2
     ·cases h
    ·rw [if_neg hn] at h
     have h2:=ihf h
     simp only [List.forIn_cons,Sem.run_bind,if_neg hn,Result.andThen_ok,Sem.run_pure]
     exact h2
  ·cases h
  ·rename_i d' h1 h2 h3 h4 h5 hu
   first
    | simp only [Sem.run_bind,under_run hu,Result.andThen_ok]
    | simp only [Sem.run_bind,under_run h4,Result.andThen_ok]
   cases d' <;> first
    | exact (h1 _ rfl).elim
    | exact (h2 _ _ rfl).elim
    | exact (h3 _ rfl).elim
    | rfl
  ·cases h
def findV (P:Program) (kt:TypeId) (k:Value):List MapEntry→Nat→Option (Option (Nat×Value))
 | [],_=>some none
 | e :: es,i=>match eqV P 10000 kt k e.key with
  | some true=>some (some (i,e.val))
  | some false=>findV P kt k es (i+1)
  | none=>none
theorem sameNow_eqV {P:Program} {kt:TypeId} {d:TypeDesc} {x y:Value} {b:Bool} (hd:P.underlying kt=some d) (h:Instr.sameNow d x y=some b):eqV P 10000 kt x y=some b:=by
 unfold Instr.sameNow at h
 split at h
 ·split at h
  ·rename_i hk;cases h;subst hk;show eqV P (9999+1) kt _ _=_;simp only [eqV,hd,if_true]
  ·cases h
 ·cases h;show eqV P (9999+1) kt _ _=_;simp only [eqV,hd,beq_toListBytes]
 ·cases h;show eqV P (9999+1) kt _ _=_;simp only [eqV,hd]
 ·cases h
theorem findNow_findV {P:Program} {kt:TypeId} {d:TypeDesc} {k:Value} (hd:P.underlying kt=some d):∀ (es:List MapEntry) (i:Nat) {r:Option (Nat×Value)},Instr.findNow d k es i=some r→findV P kt k es i=some r
 | [],i,r,h=>by simpa [Instr.findNow,findV] using h
 | e :: es,i,r,h=>by
  unfold Instr.findNow at h
  unfold findV
  split at h
  ·rename_i hs;rw [sameNow_eqV hd hs];exact h
  ·rename_i hs;rw [sameNow_eqV hd hs];exact findNow_findV hd es (i+1) h
  ·cases h
theorem findAsking_run {P:Program} {w:World} {kt:TypeId} {k:Value}:∀ (es:List MapEntry) (i:Nat) {r:Option (Nat×Value)},findV P kt k es i=some r→(Instr.findAsking kt k es i).run P w=.ok r w
 | [],i,r,h=>by simp [findV] at h;subst h;simp [Instr.findAsking]
 | e :: es,i,r,h=>by
  unfold findV at h
  unfold Instr.findAsking
  split at h
  ·rename_i he
   cases h
   have:=eqV_run (w:=w) _ _ _ _ _ he
   simp [Op.equal,Op.maxDepth,this]
  ·rename_i he
   have:=eqV_run (w:=w) _ _ _ _ _ he
   simp only [Op.equal,Op.maxDepth,Sem.run_bind,this,Result.andThen_ok,Bool.false_eq_true,if_false]
   exact findAsking_run es (i+1) h
  ·cases h
theorem findKey_run {P:Program} {w:World} {kt:TypeId} {k:Value} {es:List MapEntry} {r:Option (Nat×Value)} {d:TypeDesc} (hd:P.underlying kt=some d) (h:findV P kt k es 0=some r):(Instr.findKey kt k es).run P w=.ok r w:=by
 unfold Instr.findKey
 simp only [Sem.run_bind,under_run hd,Result.andThen_ok]
 split
 ·rename_i r' hr
  have:=findNow_findV hd _ _ hr
  rw [h] at this;cases this;rfl
 ·exact findAsking_run es 0 h
def lookR (ok:Bool) (v:Option Value) (z:Value):Value:=match v with
 | some v=>if ok then .tuple #[v,.bool true] else v
 | none=>if ok then .tuple #[z,.bool false] else z
def lookH (P:Program) (t:TypeId) (h:Hp) (x k:Value) (ok:Bool):Option Value :=
 match P.underlying t with
 | some (.map kt el)=>match P.underlying kt,keyV P 10000 kt k,zeroT P el with
  | some _,true,some z=>match x with
   | .map none=>some (lookR ok none z)
   | .map (some r)=>match h r with
    | some (.map es _)=>match findV P kt k es.toList 0 with
     | some q=>some (lookR ok (q.map (·.2)) z)
     | none=>none
    | _=>none
   | _=>none
  | _,_,_=>none
 | _=>none
def updH (P:Program) (t:TypeId) (h:Hp) (m k v:Value):Option (Nat×Obj) :=
 match P.underlying t with
 | some (.map kt _)=>match P.underlying kt,keyV P 10000 kt k,m with
  | some _,true,.map (some r)=>match h r with
   | some (.map es clock)=>match findV P kt k es.toList 0 with
    | some (some (i,_))=>if Instr.sameBits 10000 (((es[i]?).map (·.key)).getD k) k=true then some (r,.map (es.modify i fun e=>{ e with key:=k,val:=v }) clock) else none
    | some none=>some (r,.map (es.push { key:=k,val:=v,born:=clock }) (clock+1))
    | none=>none
   | _=>none
  | _,_,_=>none
 | _=>none
def delH (P:Program) (t:TypeId) (h:Hp) (m k:Value):Option (Value×Option (Nat×Obj)) :=
 match P.underlying t with
 | some (.map kt _)=>match P.underlying kt,keyV P 10000 kt k,m with
  | some _,true,.map none=>some (.tuple #[],none)
  | some _,true,.map (some r)=>match h r with
   | some (.map es clock)=>match findV P kt k es.toList 0 with
    | some (some (i,_))=>some (.tuple #[],some (r,.map (es.eraseIdxIfInBounds i) clock))
    | some none=>some (.tuple #[],some (r,.map es clock))
    | none=>none
   | _=>none
  | _,_,_=>none
 | _=>none
def entH (P:Program) (t:TypeId) (h:Hp) (m k:Value):Option (Value×Option (Nat×Obj)) :=
 match P.underlying t with
 | some (.map kt el)=>match P.underlying kt,keyV P 10000 kt k,zeroT P el,m with
  | some _,true,some z,.map (some r)=>match h r with
   | some (.map es clock)=>match findV P kt k es.toList 0 with
    | some (some (i,v))=>if Instr.sameBits 10000 (((es[i]?).map (·.key)).getD k) k=true then some (.tuple #[v,.int .i64 (((es[i]?).map (·.born)).getD 0)],some (r,.map (es.modify i fun e=>{ e with key:=k }) clock)) else none
    | some none=>some (.tuple #[z,.int .i64 clock],some (r,.map (es.push { key:=k,val:=z,born:=clock }) (clock+1)))
    | none=>none
   | _=>none
  | _,_,_,_=>none
 | _=>none
def entS (h:Hp) (m s v:Value):Option (Nat×Obj) :=
 match m,s with
 | .map (some r),.int _ born=>match h r with
  | some (.map es clock)=>match es.findIdx? (fun e=>(e.born:Int)==born) with
   | some i=>some (r,.map (es.modify i fun e=>{ e with val:=v }) clock)
   | none=>none
  | _=>none
 | _,_=>none
def Hp.setO (h:Hp):Option (Nat×Obj)→Hp
 | none=>h
 | some (b,o)=>h.set b o
section
variable {P:Program} {w0 w:World} {h:Hp}
theorem getObj_run (hs:Sat w0 h w) {r:Nat} {es:Array MapEntry} {c:Nat} (hb:h r=some (.map es c)):(getObj r).run P w=.ok (.map es c) w:=by
 have hw:=hs.known _ _ hb
 simp [getObj,Sem.run,hw]
theorem setObj_ext (hs:Sat w0 h w) {r:Nat} {o o':Obj} (hb:h r=some o) (ho:∀ c e f,o≠.cells c e f):∃ w',(setObj r o').run P w=.ok () w'∧Ext w0 h w (h.set r o') w':=by
 have hw:=hs.known _ _ hb
 have hlt:=hs.lt hb
 refine ⟨{ w with heap:=w.heap.setIfInBounds r o' },?_,Ext.put hs hb rfl rfl rfl (by simp) (by simp [hlt]) (fun k hk=>by simp [Array.getElem?_setIfInBounds_ne (Ne.symm hk)])⟩
 cases o with
 | cells c e f=>exact (ho c e f rfl).elim
 | _=>simp [setObj,Sem.run,hw]
theorem look_run (hs:Sat w0 h w) {t:TypeId} {x k v:Value} {ok:Bool} (hl:lookH P t h x k ok=some v):(Instr.lookup t x k ok).run P w=.ok v w:=by
 unfold lookH at hl
 split at hl
 ·rename_i kt el hu
  split at hl
  ·rename_i d z hd hk hz
   unfold Instr.lookup
   split at hl
   ·cases hl
    have hf:(Instr.findKey kt k (#[]:Array MapEntry).toList).run P w=.ok none w:=findKey_run hd rfl
    simp only [Sem.run_bind,under_run hu,Result.andThen_ok,Sem.run_pure,keyV_run _ _ _ hk,hf,zero_run hz,lookR]
   ·rename_i r
    split at hl
    ·rename_i es clock hb
     split at hl
     ·rename_i q hq
      cases hl
      have hf:=findKey_run (w:=w) hd hq
      cases q with
      | none=>simp only [Sem.run_bind,under_run hu,Result.andThen_ok,getObj_run hs hb,Sem.run_pure,keyV_run _ _ _ hk,hf,zero_run hz,lookR,Option.map_none]
      | some iv=>simp only [Sem.run_bind,under_run hu,Result.andThen_ok,getObj_run hs hb,Sem.run_pure,keyV_run _ _ _ hk,hf,lookR,Option.map_some]
     ·cases hl
    ·cases hl
   ·cases hl
  ·cases hl
 ·cases hl
theorem upd_run (hs:Sat w0 h w) {t:TypeId} {m k v:Value} {b:Nat} {o:Obj} (hl:updH P t h m k v=some (b,o)):∃ w',(Instr.mapUpdate t m k v).run P w=.ok () w'∧Ext w0 h w (h.set b o) w':=by
 unfold updH at hl
 split at hl
 ·rename_i kt el hu
  split at hl
  ·rename_i d r hd hk
   split at hl
   ·rename_i es clock hb
    split at hl
    ·rename_i i v' hq
     split at hl
     ·rename_i hsb
      cases hl
      obtain ⟨w',h1,h2⟩:=setObj_ext (P:=P) (o':=.map (es.modify i fun e=>{ e with key:=k,val:=v }) clock) hs hb (fun _ _ _ e=>by cases e)
      refine ⟨w',?_,h2⟩
      unfold Instr.mapUpdate
      simp only [Sem.run_bind,under_run hu,Result.andThen_ok,getObj_run hs hb,keyV_run _ _ _ hk,findKey_run hd hq,Instr.keyThatStays,hsb,if_true,Sem.run_pure,h1]
     ·cases hl
    ·rename_i hq
     cases hl
     obtain ⟨w',h1,h2⟩:=setObj_ext (P:=P) (o':=.map (es.push { key:=k,val:=v,born:=clock }) (clock+1)) hs hb (fun _ _ _ e=>by cases e)
     refine ⟨w',?_,h2⟩
     unfold Instr.mapUpdate
     simp only [Sem.run_bind,under_run hu,Result.andThen_ok,getObj_run hs hb,keyV_run _ _ _ hk,findKey_run hd hq,h1]
    ·cases hl
   ·cases hl
  ·cases hl
 ·cases hl
theorem setO_ext (hs:Sat w0 h w) {r:Nat} {o o':Obj} (hb:h r=some o) (ho:∀ c e f,o≠.cells c e f):∃ w',(setObj r o').run P w=.ok () w'∧Ext w0 h w (h.setO (some (r,o'))) w':=setObj_ext hs hb ho
theorem del_run (hs:Sat w0 h w) {t ty:TypeId} {m k v:Value} {bo:Option (Nat×Obj)} (hl:delH P t h m k=some (v,bo)):∃ w',(Builtin.delete_ #[t,ty] ty #[m,k]).run P w=.ok v w'∧Ext w0 h w (h.setO bo) w':=by
 unfold delH at hl
 split at hl
 ·rename_i kt el hu
  split at hl
  ·rename_i d hd hk
   cases hl
   exact ⟨w,by simp [Builtin.delete_,under_run hu,keyV_run _ _ _ hk],Ext.refl hs⟩
  ·rename_i d r hd hk
   split at hl
   ·rename_i es clock hb
    split at hl
    ·rename_i i v' hq
     cases hl
     obtain ⟨w',h1,h2⟩:=setO_ext (P:=P) (o':=.map (es.eraseIdxIfInBounds i) clock) hs hb (fun _ _ _ e=>by cases e)
     exact ⟨w',by simp [Builtin.delete_,under_run hu,getObj_run hs hb,keyV_run _ _ _ hk,findKey_run hd hq,h1],h2⟩
    ·rename_i hq
     cases hl
     obtain ⟨w',h1,h2⟩:=setO_ext (P:=P) (o':=.map es clock) hs hb (fun _ _ _ e=>by cases e)
     exact ⟨w',by simp [Builtin.delete_,under_run hu,getObj_run hs hb,keyV_run _ _ _ hk,findKey_run hd hq,h1],h2⟩
    ·cases hl
   ·cases hl
  ·cases hl
 ·cases hl
theorem ent_run (hs:Sat w0 h w) {t:TypeId} {m k v:Value} {bo:Option (Nat×Obj)} (hl:entH P t h m k=some (v,bo)):∃ w',(Instr.mapEntry t m k).run P w=.ok v w'∧Ext w0 h w (h.setO bo) w':=by
 unfold entH at hl
 split at hl
 ·rename_i kt el hu
  split at hl
  ·rename_i d z r hd hk hz
   split at hl
   ·rename_i es clock hb
    split at hl
    ·rename_i i v' hq
     split at hl
     ·rename_i hsb
      cases hl
      obtain ⟨w',h1,h2⟩:=setO_ext (P:=P) (o':=.map (es.modify i fun e=>{ e with key:=k }) clock) hs hb (fun _ _ _ e=>by cases e)
      refine ⟨w',?_,h2⟩
      unfold Instr.mapEntry
      simp only [Sem.run_bind,under_run hu,Result.andThen_ok,getObj_run hs hb,keyV_run _ _ _ hk,findKey_run hd hq,Instr.keyThatStays,hsb,if_true,Sem.run_pure,h1,goInt]
     ·cases hl
    ·rename_i hq
     cases hl
     obtain ⟨w',h1,h2⟩:=setO_ext (P:=P) (o':=.map (es.push { key:=k,val:=z,born:=clock }) (clock+1)) hs hb (fun _ _ _ e=>by cases e)
     refine ⟨w',?_,h2⟩
     unfold Instr.mapEntry
     simp only [Sem.run_bind,under_run hu,Result.andThen_ok,getObj_run hs hb,keyV_run _ _ _ hk,findKey_run hd hq,zero_run hz,Sem.run_pure,h1,goInt]
    ·cases hl
   ·cases hl
  ·cases hl
 ·cases hl
theorem entS_run (hs:Sat w0 h w) {t:TypeId} {m s v:Value} {b:Nat} {o:Obj} (hl:entS h m s v=some (b,o)):∃ w',(Instr.entryStore t m s v).run P w=.ok () w'∧Ext w0 h w (h.set b o) w':=by
 unfold entS at hl
 split at hl
 ·rename_i r kd born
  split at hl
  ·rename_i es clock hb
   split at hl
   ·rename_i i hi
    cases hl
    obtain ⟨w',h1,h2⟩:=setObj_ext (P:=P) (o':=.map (es.modify i fun e=>{ e with val:=v }) clock) hs hb (fun _ _ _ e=>by cases e)
    refine ⟨w',?_,h2⟩
    unfold Instr.entryStore
    simp only [Sem.run_bind,Result.andThen_ok,getObj_run hs hb,asInt,asIntOf,Sem.run_pure,hi,h1]
   ·cases hl
  ·cases hl
 ·cases hl
end
structure KeyT (P:Program) (kt:TypeId) {α:Type} [DecidableEq α] (enc:α→Value):Prop where
 under:∃ d,P.underlying kt=some d
 key:∀ a,keyV P 10000 kt (enc a)=true
 equal:∀ a b,eqV P 10000 kt (enc a) (enc b)=some (decide (a=b))
 same:∀ a,Instr.sameBits 10000 (enc a) (enc a)=true
def ents {α:Type} (enc:α→Value) (l:List (α×Value×Nat)):List MapEntry:=l.map fun x=>⟨enc x.1,x.2.1,x.2.2⟩
def findL {α:Type} [DecidableEq α] (a:α):List (α×Value×Nat)→Nat→Option (Nat×Value)
 | [],_=>none
 | x :: r,i=>if a=x.1 then some (i,x.2.1) else findL a r (i+1)
def getL {α:Type} [DecidableEq α] (a:α):List (α×Value×Nat)→Option Value
 | []=>none
 | x :: r=>if a=x.1 then some x.2.1 else getL a r
def MapO {α:Type} [DecidableEq α] (enc:α→Value) (f:α→Option Value) (o:Obj):Prop :=
 ∃ (l:List (α×Value×Nat)) (c:Nat),o=.map (ents enc l).toArray c∧(l.map (·.1)).Nodup∧∀ a,getL a l=f a
def putF {α:Type} [DecidableEq α] (f:α→Option Value) (a:α) (v:Option Value):α→Option Value:=fun x=>if x=a then v else f x
theorem map_erase {α β:Type} (f:α→β):∀ (l:List α) (j:Nat),(l.eraseIdx j).map f=(l.map f).eraseIdx j
 | [],_=>rfl
 | _ :: _,0=>rfl
 | x :: l,j+1=>by simp only [List.eraseIdx_cons_succ,List.map_cons,map_erase f l j]
section
variable {P:Program} {kt:TypeId} {α:Type} [DecidableEq α] {enc:α→Value}
theorem findV_ents (K:KeyT P kt enc) (a:α):∀ (l:List (α×Value×Nat)) (i:Nat),findV P kt (enc a) (ents enc l) i=some (findL a l i)
 | [],_=>rfl
 | x :: l,i=>by
  show (match eqV P 10000 kt (enc a) (enc x.1) with | some true=>_ | some false=>_ | none=>_)=_
  rw [K.equal]
  by_cases hx:a=x.1
  ·simp only [hx,decide_true,findL,if_true];first | done | rfl
  ·simp only [hx,decide_false,findL,if_false];exact findV_ents K a l (i+1)
theorem findL_get (a:α):∀ (l:List (α×Value×Nat)) (i:Nat),(findL a l i).map (·.2)=getL a l
 | [],_=>rfl
 | x :: l,i=>by unfold findL getL;split <;> first | rfl | exact findL_get a l (i+1)
theorem findL_spec (a:α):∀ (l:List (α×Value×Nat)) (i j:Nat) (v:Value),findL a l i=some (j,v)→i≤j∧∃ n,l[j - i]? = some (a,v,n)
 | [],_,_,_,h=>by cases h
 | x :: l,i,j,v,h=>by
  unfold findL at h
  split at h
  ·rename_i hx;cases h;exact ⟨Nat.le_refl _,x.2.2,by rw [Nat.sub_self,hx];rfl⟩
  ·obtain ⟨h1,n,h2⟩:=findL_spec a l (i+1) j v h
   refine ⟨by omega,n,?_⟩
   rw [show j - i=(j - (i+1))+1 by omega];simpa using h2
theorem findL_none (a:α):∀ (l:List (α×Value×Nat)) (i:Nat),findL a l i=none→a ∉ l.map (·.1)
 | [],_,_=>by simp
 | x :: l,i,h=>by
  unfold findL at h
  split at h
  ·cases h
  ·rename_i hx
   have:=findL_none a l (i+1) h
   simp only [List.map_cons,List.mem_cons]
   exact fun hh=>hh.elim hx this
theorem getL_nil {a:α} {l:List (α×Value×Nat)} (h:a ∉ l.map (·.1)):getL a l=none:=by
 induction l with
 | nil=>rfl
 | cons x l ih =>
  simp only [List.map_cons,List.mem_cons,not_or] at h
  unfold getL;rw [if_neg h.1];exact ih h.2
theorem getL_app (a b:α) (v:Value) (n:Nat):∀ l:List (α×Value×Nat),b ∉ l.map (·.1)→getL a (l++[(b,v,n)])=if a=b then some v else getL a l
 | [],_=>by simp [getL]
 | x :: l,h=>by
  simp only [List.map_cons,List.mem_cons,not_or] at h
  simp only [List.cons_append,getL]
  by_cases hx:a=x.1
  ·have:¬ a=b:=fun e=>h.1 (by rw [← e,hx])
   simp only [hx,if_true]
   rw [if_neg (fun e=>h.1 e.symm)]
  ·simp only [hx,if_false];exact getL_app a b v n l h.2
theorem getL_set (a b:α) (v v':Value) (n n':Nat):∀ (l:List (α×Value×Nat)) (j:Nat),(l.map (·.1)).Nodup→l[j]? = some (b,v',n')→getL a (l.set j (b,v,n))=if a=b then some v else getL a l
 | [],j,_,h=>by simp at h
 | x :: l,0,hn,h=>by
  simp only [List.getElem?_cons_zero,Option.some.injEq] at h
  subst h
  simp only [List.set_cons_zero,getL]
  split <;> rfl
 | x :: l,j+1,hn,h=>by
  simp only [List.getElem?_cons_succ] at h
  simp only [List.map_cons,List.nodup_cons] at hn
  simp only [List.set_cons_succ,getL]
  have hb:b ∈ l.map (·.1):=List.mem_map.2 ⟨_,List.mem_of_getElem? h,rfl⟩
  by_cases hx:a=x.1
  ·have:¬ a=b:=fun e=>hn.1 (by rw [← hx,e];exact hb)
   simp only [hx,if_true]
   rw [if_neg (fun e=>hn.1 (by rw [e];exact hb))]
  ·simp only [hx,if_false];exact getL_set a b v v' n n' l j hn.2 h
theorem getL_erase (a b:α) (v':Value) (n':Nat):∀ (l:List (α×Value×Nat)) (j:Nat),(l.map (·.1)).Nodup→l[j]? = some (b,v',n')→getL a (l.eraseIdx j)=if a=b then none else getL a l
 | [],j,_,h=>by simp at h
 | x :: l,0,hn,h=>by
  simp only [List.getElem?_cons_zero,Option.some.injEq] at h
  subst h
  simp only [List.map_cons,List.nodup_cons] at hn
  simp only [List.eraseIdx_cons_zero,getL]
  split
  ·rename_i e;rw [e];exact getL_nil hn.1
  ·rfl
 | x :: l,j+1,hn,h=>by
  simp only [List.getElem?_cons_succ] at h
  simp only [List.map_cons,List.nodup_cons] at hn
  simp only [List.eraseIdx_cons_succ,getL]
  have hb:b ∈ l.map (·.1):=List.mem_map.2 ⟨_,List.mem_of_getElem? h,rfl⟩
  by_cases hx:a=x.1
  ·simp only [hx,if_true]
   rw [if_neg (fun e=>hn.1 (by rw [e];exact hb))]
  ·simp only [hx,if_false];exact getL_erase a b v' n' l j hn.2 h
theorem MapO.nil:MapO enc (fun _=>none) (.map #[] 0):=⟨[],0,rfl,List.nodup_nil,fun _=>rfl⟩
theorem MapO.look {t:TypeId} {el:TypeId} {z:Value} {f:α→Option Value} {h:Hp} {b:Nat} {o:Obj} (ht:P.underlying t=some (.map kt el)) (hz:zeroT P el=some z) (K:KeyT P kt enc) (hb:h b=some o) (m:MapO enc f o) (a:α) (ok:Bool) :
  lookH P t h (.map (some b)) (enc a) ok=some (lookR ok (f a) z):=by
 obtain ⟨l,c,rfl,hn,hf⟩:=m
 obtain ⟨d,hd⟩:=K.under
 unfold lookH
 simp only [ht,hd,K.key,hz,hb,findV_ents K,findL_get,hf]
theorem MapO.upd {t:TypeId} {el:TypeId} {f:α→Option Value} {h:Hp} {b:Nat} {o:Obj} (ht:P.underlying t=some (.map kt el)) (K:KeyT P kt enc) (hb:h b=some o) (m:MapO enc f o) (a:α) (v:Value) :
  ∃ o',updH P t h (.map (some b)) (enc a) v=some (b,o')∧MapO enc (putF f a (some v)) o':=by
 obtain ⟨l,c,rfl,hn,hf⟩:=m
 obtain ⟨d,hd⟩:=K.under
 unfold updH
 simp only [ht,hd,K.key,hb,findV_ents K]
 cases hq:findL a l 0 with
 | none =>
  have hnot:=findL_none a l 0 hq
  refine ⟨_,rfl,l++[(a,v,c)],c+1,?_,?_,fun x=>?_⟩
  ·simp [ents]
  ·rw [List.map_append]
   exact List.nodup_append.2 ⟨hn,by simp,fun x hx y hy=>by simp only [List.map_cons,List.map_nil,List.mem_singleton] at hy;subst hy;exact fun e=>hnot (e ▸ hx)⟩
  ·rw [getL_app _ _ _ _ _ hnot,hf];rfl
 | some jv =>
  obtain ⟨j,v'⟩:=jv
  obtain ⟨_,n,hj⟩:=findL_spec a l 0 j v' hq
  rw [Nat.sub_zero] at hj
  have hlt:j<l.length:=(List.getElem?_eq_some_iff.1 hj).1
  have hje:l[j]=(a,v',n):=by have:=List.getElem?_eq_getElem hlt;rw [hj] at this;exact (Option.some.inj this).symm
  have hej:(ents enc l).toArray[j]? = some ⟨enc a,v',n⟩:=by simp [ents,hj]
  simp only [hej,Option.map_some,Option.getD_some,K.same,if_true]
  refine ⟨_,rfl,l.set j (a,v,n),c,?_,?_,fun x=>?_⟩
  ·congr 1
   apply Array.ext_getElem?
   intro i
   rw [Array.getElem?_modify]
   simp only [List.getElem?_toArray,ents,List.map_set,List.getElem?_set,List.getElem?_map,List.length_map]
   by_cases hij:j=i
   ·subst hij;simp [hlt,hje]
   ·simp [hij]
  ·have:(l.set j (a,v,n)).map (·.1)=l.map (·.1):=by
    rw [List.map_set]
    show (l.map (·.1)).set j a=_
    apply List.ext_getElem?
    intro i
    rw [List.getElem?_set]
    split
    ·rename_i h1;subst h1;simp [hlt,hje]
    ·rfl
   rw [this];exact hn
  ·rw [getL_set x a v v' n n l j hn hj,hf];rfl
theorem MapO.del {t:TypeId} {el:TypeId} {f:α→Option Value} {h:Hp} {b:Nat} {o:Obj} (ht:P.underlying t=some (.map kt el)) (K:KeyT P kt enc) (hb:h b=some o) (m:MapO enc f o) (a:α) :
  ∃ o',delH P t h (.map (some b)) (enc a)=some (.tuple #[],some (b,o'))∧MapO enc (putF f a none) o':=by
 obtain ⟨l,c,rfl,hn,hf⟩:=m
 obtain ⟨d,hd⟩:=K.under
 unfold delH
 simp only [ht,hd,K.key,hb,findV_ents K]
 cases hq:findL a l 0 with
 | none =>
  have hnot:=findL_none a l 0 hq
  refine ⟨_,rfl,l,c,rfl,hn,fun x=>?_⟩
  unfold putF
  split
  ·rename_i e;rw [e];exact getL_nil hnot
  ·exact hf x
 | some jv =>
  obtain ⟨j,v'⟩:=jv
  obtain ⟨_,n,hj⟩:=findL_spec a l 0 j v' hq
  rw [Nat.sub_zero] at hj
  have hlt:j<l.length:=(List.getElem?_eq_some_iff.1 hj).1
  refine ⟨_,rfl,l.eraseIdx j,c,?_,?_,fun x=>?_⟩
  ·congr 1
   rw [Array.eraseIdxIfInBounds,dif_pos (by simpa [ents] using hlt)]
   apply Array.ext'
   simp [ents,map_erase]
  ·have:(l.eraseIdx j).map (·.1)=(l.map (·.1)).eraseIdx j:=map_erase _ _ _
   rw [this];exact hn.sublist (List.eraseIdx_sublist _ _)
  ·rw [getL_erase x a v' n l j hn hj,hf];rfl
end
end Go.Mid
