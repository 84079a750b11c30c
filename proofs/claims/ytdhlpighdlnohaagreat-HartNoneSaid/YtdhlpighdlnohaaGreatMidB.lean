/-
  THE MIDDLE LAYER, PART TWO: slots, boxes (blocks of a function's own that only its own loads and stores reach: held as registers), one operation, and that what is shown of one holds of the model's.
-/
import Derived.Test.YtdhlpighdlnohaaGreatMidN
set_option linter.unusedSimpArgs false
set_option linter.unusedVariables false
set_option maxHeartbeats 8000000
set_option maxRecDepth 10000
set_option linter.unusedSimpArgs false
set_option linter.unusedVariables false
namespace Go.Mid
open Go Go.RowKit
inductive MV where
 | v (x:Value)
 | ref (off:Nat)
 | junk
structure ME where
 env:Nat→MV
 box:Nat→Option (List Value)
def upd {α:Type} (f:Nat→α) (k:Nat) (x:α):Nat→α:=fun s=>if s=k then x else f s
theorem upd_same {α:Type} (f:Nat→α) (k:Nat) (x:α):upd f k x k=x:=by simp [upd]
theorem upd_other {α:Type} (f:Nat→α) {k s:Nat} (x:α) (h:s≠k):upd f k x s=f s:=by simp [upd,h]
abbrev RF:=List (Nat×Nat)
def RF.of:RF→Nat→Option Nat
 | [],_=>none
 | (a,b) :: r,s=>if s=a then some b else RF.of r s
inductive Upd where
 | none
 | slot (s:Nat) (m:MV)
 | newbox (t:Nat) (cs:List Value)
 | setbox (t:Nat) (cs:List Value)
def kill (rf:RF) (t:Nat) (f:Nat→MV):Nat→MV:=fun s=>if rf.of s=some t then .junk else f s
def Upd.app (rf:RF):Upd→ME→ME
 | .none,e=>e
 | .slot s m,e=>⟨upd e.env s m,e.box⟩
 | .newbox t cs,e=>⟨upd (kill rf t e.env) t (.ref 0),upd e.box t (some cs)⟩
 | .setbox t cs,e=>⟨e.env,upd e.box t (some cs)⟩
def dstU:Option Tmp→MV→Upd
 | some d,m=>.slot d m
 | .none,_=>.none
def ev (e:ME):Operand→MV
 | .tmp t=>e.env t
 | .const x=>.v x
 | .global g=>.v (.pointer (some ⟨g,0,none⟩))
 | .func f=>.v (.func (.func f) #[] #[])
def MV.val:MV→Value
 | .v x=>x
 | _=>undef
def MV.isV:MV→Bool
 | .v _=>true
 | _=>false
def vals (e:ME) (x:Operand):Value:=(ev e x).val
def allV (e:ME) (o:Op):Bool:=o.operands.toList.all fun x=>(ev e x).isV
def noSel:Op→Bool
 | .select ..=>false
 | _=>true
def boxOf (rf:RF) (e:ME):Operand→Option (Nat×Nat)
 | .tmp t=>match e.env t with
  | .ref off=>match rf.of t with
   | some b=>some (b,off)
   | .none=>.none
  | _=>.none
 | _=>.none
def loadL (P:Program) (t:TypeId) (cs:List Value) (off:Nat):Option Value :=
 match P.underlying t with
 | some (.struct _) | some (.array _ _)=>match P.info? t with
  | some i=>if off+i.size≤cs.length then some (.agg ((cs.drop off).take i.size).toArray) else .none
  | .none=>.none
 | some _=>cs[off]?
 | .none=>.none
def setL:List Value→Nat→List Value→List Value
 | cs,_,[]=>cs
 | cs,off,v :: vs=>setL (cs.set off v) (off+1) vs
def loadH (P:Program) (t:TypeId) (h:Hp) (a:Addr):Option Value :=
 match isAggT P t with
 | some true=>match sizeT P t,h a.block with
  | some n,some (.cells c _ _)=>if (a.spot.isNone && decide (a.off+n≤c.size))=true then some (.agg (c.extract a.off (a.off+n))) else .none
  | _,_=>.none
 | some false=>h.cell? a
 | .none=>.none
def storeH (P:Program) (t:TypeId) (h:Hp) (a:Addr) (z:Value):Option (Nat×Obj) :=
 match sizeT P t,h a.block with
 | some n,some (.cells c e f)=>if (z.cells.size==n && a.spot.isNone && decide (a.off+n≤c.size) && decide (f.2≤f.1) && z.cells.toList.all Value.oneCell')=true then some (a.block,.cells (setL c.toList a.off z.cells.toList).toArray e f) else .none
 | _,_=>.none
def zeroRow (zero:Array Value) (n:Nat):Array Value:=((List.range n).map fun i=>zero[i % zero.size]!).toArray
def callable (P:Program) (f:FuncId):Bool:=match P.funcs[f]? with
 | some fn => !(fn.name == "runtime.NumGoroutine") && fn.body.isSome
 | .none=>false
def clrH (P:Program) (t:TypeId) (h:Hp) (x:Value):Option (Value×Option (Nat×Obj)) :=
 match P.underlying t,x with
 | some (.slice _),.slice none _ _=>some (.tuple #[],none)
 | some (.slice el),.slice (some a) n _=>match zeroT P el,h a.block with
  | some z,some (.cells c e f)=>if n=0 then some (.tuple #[],none) else
    if (a.spot.isNone && decide (a.off+n*z.cells.size≤c.size) && decide (f.2≤f.1) && (Builtin.zeroCells z.cells n).toList.all Value.oneCell')=true then some (.tuple #[],some (a.block,.cells (setL c.toList a.off (Builtin.zeroCells z.cells n).toList).toArray e f)) else .none
  | _,_=>.none
 | _,_=>.none
def lenH (P:Program) (t:TypeId) (h:Hp) (x:Value):Option Value :=
 match P.underlying t,x with
 | some (.map _ _),.map (some r)=>match h r with
  | some (.map es _)=>some (.int .i64 es.size)
  | _=>.none
 | _,_=>.none
def nextH (h:Hp) (it:Value):Option (Value×Option (Nat×Obj)) :=
 match it with
 | .pointer (some ⟨r,0,_⟩)=>match h r with
  | some (.stringIter s pos)=>if pos<s.size then
    some (.tuple #[.bool true,.int .i64 pos,.int .i32 (Utf8.decode s pos).1],some (r,.stringIter s (pos+(Utf8.decode s pos).2)))
   else some (.tuple #[.bool false],none)
  | _=>.none
 | _=>.none
inductive Action where
 | sem (s:Sem Next)
 | rd (f:Hp→Option Value)
 | wr (f:Hp→Option (Nat×Obj))
 | nw (o:Obj) (v:Nat→Value)
 | call (g:FuncId) (args:List Value)
 | io (f:Hp→Option (Value×Option (Nat×Obj)))
def actOf (P:Program) (ρ:Operand→Value) (o:Oper):Action :=
 match o.op with
 | .load t x=>match ρ x with
  | .pointer (some a)=>.rd fun h=>loadH P t h a
  | _=>.sem (execOp ρ o)
 | .store t x y=>match ρ x with
  | .pointer (some a)=>.wr fun h=>storeH P t h a (ρ y)
  | _=>.sem (execOp ρ o)
 | .alloc el=>match zeroT P el with
  | some z=>.nw (.cells z.cells el) fun b=>.pointer (some ⟨b,0,.none⟩)
  | .none=>.sem (execOp ρ o)
 | .box el x=>.nw (.cells (ρ x).cells el) fun b=>.pointer (some ⟨b,0,.none⟩)
 | .makeMap _ .none=>.nw (.map #[] 0) fun b=>.map (some b)
 | .makeMap t (some x)=>match P.underlying t,ρ x with
  | some (.map _ _),.int _ _=>.nw (.map #[] 0) fun b=>.map (some b)
  | _,_=>.sem (execOp ρ o)
 | .buildSlice t len parts=>match P.underlying t with
  | some (.slice elem)=>match sizeT P elem,zeroT P elem with
   | some n,some z=>match (if (len=0∧parts.size=0) then some [] else if (len*n≤2 ^ 24∧0<len*n) then fillV (fun i=>some (i*n,n)) (zeroRow z.cells (len*n)).toList (parts.toList.map fun p=>(p.1,ρ p.2)) else .none) with
    | some cs=>.nw (.cells cs.toArray elem) fun b=>.slice (some ⟨b,0,.none⟩) len len
    | .none=>.sem (execOp ρ o)
   | _,_=>.sem (execOp ρ o)
  | _=>.sem (execOp ρ o)
 | .makeSlice t l c=>match P.underlying t,ρ l,ρ c with
  | some (.slice elem),.int _ n,.int _ m=>match sizeT P elem,bytesT P elem,zeroT P elem with
   | some s,some by_,some z=>if (0≤n∧n≤m∧m≤9223372036854775807∧by_*m≤2 ^ 48∧0<s) then .nw (.cells (zeroRow z.cells (m.toNat*s)) elem) fun b=>.slice (some ⟨b,0,.none⟩) n.toNat m.toNat
    else .sem (execOp ρ o)
   | _,_,_=>.sem (execOp ρ o)
  | _,_,_=>.sem (execOp ρ o)
 | .call c=>match c.callee with
  | .value f=>match ρ f with
   | .func (.func g) first captured=>if callable P g=true then .call g (first.toList++(c.args.toList.map ρ++captured.toList)) else .sem (execOp ρ o)
   | _=>.sem (execOp ρ o)
  | .builtin .delete=>match c.args.toList,c.argTypes.toList with
   | [m,k],[t,_]=>.io fun h=>delH P t h (ρ m) (ρ k)
   | _,_=>.sem (execOp ρ o)
  | .builtin .len=>match c.args.toList,c.argTypes.toList with
   | [x],[t]=>.rd fun h=>lenH P t h (ρ x)
   | _,_=>.sem (execOp ρ o)
  | .builtin .clear=>match c.args.toList,c.argTypes.toList with
   | [x],[t]=>.io fun h=>clrH P t h (ρ x)
   | _,_=>.sem (execOp ρ o)
  | _=>.sem (execOp ρ o)
 | .lookup t x ix ok=>.rd fun h=>lookH P t h (ρ x) (ρ ix) ok
 | .mapUpdate t m k x=>.wr fun h=>updH P t h (ρ m) (ρ k) (ρ x)
 | .insert t m k x=>.wr fun h=>updH P t h (ρ m) (ρ k) (ρ x)
 | .mapEntry t m k=>.io fun h=>entH P t h (ρ m) (ρ k)
 | .entryStore _ m s x=>.wr fun h=>entS h (ρ m) (ρ s) (ρ x)
 | .range t x=>match P.underlying t,ρ x with
  | some .string,.string s=>.nw (.stringIter s 0) fun b=>.pointer (some ⟨b,0,none⟩)
  | _,_=>.sem (execOp ρ o)
 | .next it str=>match str with
  | true=>.io fun h=>nextH h (ρ it)
  | false=>.sem (execOp ρ o)
 | _=>.sem (execOp ρ o)
def fin (P:Program) (nx:Next) (h:Hp) (K:Value→Hp→Prop):Prop :=
 match nx with
 | .value v=>K v h
 | .skip=>K undef h
 | .enter f args=>X P f args h K
 | .round l f tmps asg body=>XR P l f tmps asg body h K
 | _=>False
def aRun (P:Program):Action→Hp→(Value→Hp→Prop)→Prop
 | .sem s,h,K=>mid P s h fun nx h'=>fin P nx h' K
 | .rd f,h,K=>match f h with
  | some v=>K v h
  | .none=>False
 | .wr f,h,K=>match f h with
  | some (b,o)=>K undef (h.set b o)
  | .none=>False
 | .nw o v,h,K=>∀ b,h b=.none→K (v b) (h.set b o)
 | .call g args,h,K=>X P g args.toArray h K
 | .io f,h,K=>match f h with
  | some (v,bo)=>K v (h.setO bo)
  | .none=>False
inductive Plan where
 | upd (u:Upd)
 | act (a:Action)
def gen (P:Program) (o:Oper) (e:ME):Option Plan:=if (allV e o.op && noSel o.op)=true then
  match calcV P (vals e) o.op with
  | some v=>some (.upd (dstU o.dst (.v v)))
  | .none=>some (.act (actOf P (vals e) o))
 else .none
def refU (rf:RF) (d:Option Tmp) (b off:Nat):Option Plan :=
 match d with
 | some d=>if rf.of d=some b then some (.upd (.slot d (.ref off))) else .none
 | .none=>.none
def plan (P:Program) (rf:RF) (o:Oper) (e:ME):Option Plan :=
 match o.op with
 | .move x | .assign x=>match boxOf rf e x with
  | some (b,off)=>refU rf o.dst b off
  | .none=>match ev e x with
   | .v y=>some (.upd (dstU o.dst (.v y)))
   | _=>some (.upd (dstU o.dst .junk))
 | .alloc el=>match o.dst with
  | some d=>if rf.of d=some d then match P.info? el with
    | some i=>match i.zero with
     | some z=>some (.upd (.newbox d z.cells.toList))
     | .none=>.none
    | .none=>.none
   else gen P o e
  | .none=>gen P o e
 | .box _ x=>match o.dst with
  | some d=>if rf.of d=some d then match ev e x with
    | .v y=>some (.upd (.newbox d y.cells.toList))
    | _=>.none
   else gen P o e
  | .none=>gen P o e
 | .load t x=>match boxOf rf e x with
  | some (b,off)=>match e.box b with
   | some cs=>match loadL P t cs off with
    | some v=>some (.upd (dstU o.dst (.v v)))
    | .none=>.none
   | .none=>.none
  | .none=>gen P o e
 | .store t x y=>match boxOf rf e x with
  | some (b,off)=>match e.box b with
   | some cs=>match ev e y with
    | .v z=>match P.info? t with
     | some i=>if (z.cells.size==i.size && decide (off+i.size≤cs.length) && z.cells.toList.all Value.oneCell' && o.dst.isNone)=true then some (.upd (.setbox b (setL cs off z.cells.toList))) else .none
     | .none=>.none
    | _=>.none
   | .none=>.none
  | .none=>gen P o e
 | .fieldAddr s x f=>match boxOf rf e x with
  | some (b,off)=>match P.underlying s with
   | some (.struct fields)=>match fields[f]? with
    | some fl=>match P.info? fl.type with
     | some i=>if i.size=0 then .none else refU rf o.dst b (off+fl.offset)
     | .none=>.none
    | .none=>.none
   | _=>.none
  | .none=>gen P o e
 | .indexAddr t x ix=>match boxOf rf e x with
  | some (b,off)=>match P.underlying t with
   | some (.array len elem)=>match ev e ix with
    | .v (.int _ i)=>match P.info? elem with
     | some j=>if 0≤i∧i<len then refU rf o.dst b (off+i.toNat*j.size) else .none
     | .none=>.none
    | _=>.none
   | _=>.none
  | .none=>gen P o e
 | .nilCheck x=>match boxOf rf e x with
  | some (b,off)=>refU rf o.dst b off
  | .none=>gen P o e
 | _=>gen P o e
def run1 (P:Program) (rf:RF) (o:Oper) (pl:Option Plan) (e:ME) (h:Hp) (K:ME→Hp→Prop):Prop :=
 match pl with
 | some (.upd u)=>K (u.app rf e) h
 | some (.act A)=>aRun P A h fun v h'=>K ((dstU o.dst (.v v)).app rf e) h'
 | .none=>False
def step (P:Program) (rf:RF) (o:Oper) (e:ME) (h:Hp) (K:ME→Hp→Prop):Prop:=run1 P rf o (plan P rf o e) e h K
def Rel1 (rf:RF) (β:Nat→Nat) (s:Nat) (x:Value):MV→Prop
 | .v y=>x=y
 | .ref off=>∃ b,rf.of s=some b∧x=.pointer (some ⟨β b,off,.none⟩)
 | .junk=>True
def mark (b:Nat):Deferred:={ target:=.collected b,args:=#[] }
inductive Merge {α:Type}:List α→List α→List α→Prop
 | nil:Merge [] [] []
 | left {x:α} {a b c:List α}:Merge a b c→Merge (x :: a) b (x :: c)
 | right {x:α} {a b c:List α}:Merge a b c→Merge a (x :: b) (x :: c)
theorem Merge.only {α:Type}:∀ (b:List α),Merge [] b b
 | []=>.nil
 | _ :: r=>.right (Merge.only r)
structure DZ where
 l:List Deferred
 bare:Bool
def Marks (dz:DZ) (ds:List Deferred) (we:World) (h:Hp) (w:World):Prop:=∃ bs:List Nat,(Merge (bs.map mark) dz.l ds∧(dz.bare=true→bs=[]))∧bs.Nodup∧∀ b ∈ bs,w.heap[b]? = some (.deferred (some []))∧h b=none∧we.heap.size≤b
theorem Marks.nil {dz:DZ} {we:World} {h:Hp} {w:World}:Marks dz dz.l we h w:=⟨[],⟨Merge.only _,fun _=>rfl⟩,List.nodup_nil,fun b hb=>by cases hb⟩
theorem Marks.heap {dz:DZ} {ds:List Deferred} {we w0:World} {h h':Hp} {w w':World} (m:Marks dz ds we h w) (x:Ext w0 h w h' w'):Marks dz ds we h' w':=by
 obtain ⟨bs,e,hn,hb⟩:=m
 refine ⟨bs,e,hn,fun b hbb=>?_⟩
 obtain ⟨h1,h2,h3⟩:=hb b hbb
 obtain ⟨e1,n1⟩:=x.priv b (Array.getElem?_eq_some_iff.1 h1).1 h2
 exact ⟨e1.trans h1,n1,h3⟩
theorem Marks.turn {dz:DZ} {ds:List Deferred} {we:World} {h:Hp} {w w':World} (m:Marks dz ds we h w) (hk:∀ k:Nat,w.heap[k]? = some (.deferred (some []))→w'.heap[k]? = w.heap[k]?):Marks dz ds we h w':=by
 obtain ⟨bs,e,hn,hb⟩:=m
 refine ⟨bs,e,hn,fun b hbb=>?_⟩
 obtain ⟨h1,h2,h3⟩:=hb b hbb
 exact ⟨(hk b h1).trans h1,h2,h3⟩
structure At (rf:RF) (N:Nat) (dz:DZ) (w0:World) (h0:Hp) (we:World) (e:ME) (h:Hp) (a:Go.Act) (w:World):Prop where
 size:a.tmps.size=N
 defers:Marks dz a.defers we h w
 ext:Ext w0 h0 we h w
 rel:∃ β:Nat→Nat,(∀ s,Rel1 rf β s (a.tmps.getD s undef) (e.env s)) ∧
  (∀ t cs,e.box t=some cs→(∃ el,w.heap[β t]? = some (.cells cs.toArray el (0,0)))∧h (β t)=.none∧we.heap.size≤β t) ∧
  (∀ t u cs ds,e.box t=some cs→e.box u=some ds→β t=β u→t=u) ∧
  (∀ s off b,e.env s=.ref off→rf.of s=some b→∃ cs,e.box b=some cs)
theorem getD_put (a:Go.Act) (d:Nat) (v:Value) (hd:d<a.tmps.size) (s:Nat):((a.put (some d) v).tmps.getD s undef)=if s=d then v else a.tmps.getD s undef:=by
 simp only [Act.put,Array.getD_eq_getD_getElem?,Array.getElem?_setIfInBounds]
 by_cases hs:d=s
 ·subst hs;simp [hd]
 ·rw [if_neg hs,if_neg (Ne.symm hs)]
section
variable {rf:RF} {N:Nat} {dz:DZ} {w0:World} {h0:Hp} {we:World} {e:ME} {h:Hp} {a:Go.Act} {w:World}
theorem At.slot (s:At rf N dz w0 h0 we e h a w) {d:Option Tmp} (hd:∀ k,d=some k→k<N) (v:Value) (m:MV) (hm:m=.v v∨m=.junk) :
  At rf N dz w0 h0 we ((dstU d m).app rf e) h (a.put d v) w:=by
 cases d with
 | none=>exact s
 | some d =>
  have hd:=hd d rfl
  obtain ⟨β,r1,r2,r3,r4⟩:=s.rel
  refine ⟨by simp [Act.put,s.size],s.defers,s.ext,β,fun k=>?_,r2,r3,fun k off b he hb=>?_⟩
  ·rw [getD_put a d v (by rw [s.size];exact hd)]
   show Rel1 rf β k _ (upd e.env d m k)
   unfold upd
   split
   ·rcases hm with rfl | rfl
    ·rfl
    ·trivial
   ·exact r1 k
  ·change upd e.env d m k=.ref off at he
   unfold upd at he
   split at he
   ·rcases hm with rfl | rfl <;> cases he
   ·exact r4 k off b he hb
theorem At.place (s:At rf N dz w0 h0 we e h a w) {d b off:Nat} {cs:List Value} (hd:d<N) (hrf:rf.of d=some b) (hb:e.box b=some cs) {β:Nat→Nat}
  (r1:∀ s,Rel1 rf β s (a.tmps.getD s undef) (e.env s))
  (r2:∀ t cs,e.box t=some cs→(∃ el,w.heap[β t]? = some (.cells cs.toArray el (0,0)))∧h (β t)=.none∧we.heap.size≤β t)
  (r3:∀ t u cs ds,e.box t=some cs→e.box u=some ds→β t=β u→t=u)
  (r4:∀ s off b,e.env s=.ref off→rf.of s=some b→∃ cs,e.box b=some cs) :
  At rf N dz w0 h0 we ((Upd.slot d (.ref off)).app rf e) h (a.put (some d) (.pointer (some ⟨β b,off,.none⟩))) w:=by
 refine ⟨by simp [Act.put,s.size],s.defers,s.ext,β,fun k=>?_,r2,r3,fun k o c he hc=>?_⟩
 ·rw [getD_put a d _ (by rw [s.size];exact hd)]
  show Rel1 rf β k _ (upd e.env d (.ref off) k)
  unfold upd
  split
  ·rename_i hk;subst hk;exact ⟨b,hrf,rfl⟩
  ·exact r1 k
 ·change upd e.env d (.ref off) k=.ref o at he
  unfold upd at he
  split at he
  ·rename_i hk;subst hk;rw [hrf] at hc;cases hc;exact ⟨cs,hb⟩
  ·exact r4 k o c he hc
theorem At.newbox (s:At rf N dz w0 h0 we e h a w) {d:Nat} (cs:List Value) (el:TypeId) (hd:d<N) (hrf:rf.of d=some d) :
  At rf N dz w0 h0 we ((Upd.newbox d cs).app rf e) h (a.put (some d) (.pointer (some ⟨w.heap.size,0,.none⟩))) (w.alloc (.cells cs.toArray el)):=by
 obtain ⟨β,r1,r2,r3,r4⟩:=s.rel
 have hsat:=s.ext.sat
 have hstep:Ext w0 h w h (w.alloc (.cells cs.toArray el)) :=
  ⟨⟨hsat.os,hsat.tape,hsat.output,by have:=hsat.size;simp;omega,fun b x e=>by rw [Below.heap_alloc _ _ _ (hsat.lt e)];exact hsat.known b x e⟩,by simp,
   fun b hb e=>⟨Below.heap_alloc _ _ _ hb,e⟩⟩
 have hlt:∀ t cs,e.box t=some cs→β t<w.heap.size:=fun t cs hb=>by
  obtain ⟨⟨el,hh⟩,_⟩:=r2 t cs hb
  exact (Array.getElem?_eq_some_iff.1 hh).1
 refine ⟨by simp [Act.put,s.size],s.defers.heap hstep,s.ext.trans hstep,upd β d w.heap.size,fun k=>?_,fun t cs' hb=>?_,fun t u c1 c2 ht hu hβ=>?_,fun k off b he hb=>?_⟩
 ·rw [getD_put a d _ (by rw [s.size];exact hd)]
  show Rel1 rf _ k _ (upd (kill rf d e.env) d (.ref 0) k)
  by_cases hk:k=d
  ·subst hk;rw [upd_same,if_pos rfl];exact ⟨k,hrf,by rw [upd_same]⟩
  ·rw [upd_other _ _ hk,if_neg hk]
   unfold kill
   split
   ·trivial
   ·rename_i hne
    have:=r1 k
    cases hm:e.env k with
    | v y=>rw [hm] at this;exact this
    | junk=>trivial
    | ref off =>
     rw [hm] at this
     obtain ⟨b,hb,hx⟩:=this
     exact ⟨b,hb,by rw [upd_other _ _ (fun e=>hne (by rw [hb,e]))];exact hx⟩
 ·change upd e.box d (some cs) t=some cs' at hb
  by_cases ht:t=d
  ·subst ht
   rw [upd_same] at hb;cases hb
   rw [upd_same]
   exact ⟨⟨el,by show (w.heap.push _)[w.heap.size]? = _;simp⟩,hsat.fresh,s.ext.grow⟩
  ·rw [upd_other _ _ ht] at hb
   rw [upd_other _ _ ht]
   obtain ⟨⟨el',hh⟩,h2,h3⟩:=r2 t cs' hb
   exact ⟨⟨el',by rw [Below.heap_alloc _ _ _ (hlt t cs' hb)];exact hh⟩,h2,h3⟩
 ·change upd e.box d (some cs) t=some c1 at ht
  change upd e.box d (some cs) u=some c2 at hu
  by_cases h1:t=d <;> by_cases h2:u=d
  ·rw [h1,h2]
  ·subst h1
   rw [upd_other _ _ h2] at hu
   rw [upd_same,upd_other _ _ h2] at hβ
   have:=hlt u c2 hu;omega
  ·subst h2
   rw [upd_other _ _ h1] at ht
   rw [upd_same,upd_other _ _ h1] at hβ
   have:=hlt t c1 ht;omega
  ·rw [upd_other _ _ h1] at ht
   rw [upd_other _ _ h2] at hu
   rw [upd_other _ _ h1,upd_other _ _ h2] at hβ
   exact r3 t u c1 c2 ht hu hβ
 ·change upd (kill rf d e.env) d (.ref 0) k=.ref off at he
  show ∃ c,upd e.box d (some cs) b=some c
  by_cases hbd:b=d
  ·subst hbd;exact ⟨cs,upd_same _ _ _⟩
  ·rw [upd_other _ _ hbd]
   by_cases hk:k=d
   ·subst hk;rw [hrf] at hb;exact absurd (Option.some.inj hb).symm hbd
   ·rw [upd_other _ _ hk] at he
    unfold kill at he
    split at he
    ·cases he
    ·exact r4 k off b he hb
theorem At.setbox (s:At rf N dz w0 h0 we e h a w) {b:Nat} {cs ds:List Value} {β:Nat→Nat} (hb:e.box b=some cs)
  (r1:∀ s,Rel1 rf β s (a.tmps.getD s undef) (e.env s))
  (r2:∀ t cs,e.box t=some cs→(∃ el,w.heap[β t]? = some (.cells cs.toArray el (0,0)))∧h (β t)=.none∧we.heap.size≤β t)
  (r3:∀ t u cs ds,e.box t=some cs→e.box u=some ds→β t=β u→t=u)
  (r4:∀ s off b,e.env s=.ref off→rf.of s=some b→∃ cs,e.box b=some cs)
  {w':World} {el:TypeId} (hos:w'.os=w.os) (htape:w'.tape=w.tape) (hout:w'.output=w.output)
  (hsize:w'.heap.size=w.heap.size) (hthis:w'.heap[β b]? = some (.cells ds.toArray el (0,0))) (hother:∀ k,k≠β b→w'.heap[k]? = w.heap[k]?) :
  At rf N dz w0 h0 we ((Upd.setbox b ds).app rf e) h a w':=by
 obtain ⟨⟨el0,hh0⟩,hn,hge⟩:=r2 b cs hb
 have x:=s.ext
 refine ⟨s.size,s.defers.turn (fun k hk=>hother k (fun ee=>by rw [ee,hh0] at hk;cases hk)),⟨⟨hos.trans x.sat.os,htape.trans x.sat.tape,hout.trans x.sat.output,by have:=x.sat.size;omega,fun k o he=>?_⟩,by have:=x.grow;omega,fun k hk he=>?_⟩,β,r1,
  fun t c ht=>?_,fun t u c1 c2 ht hu hβ=>?_,fun k off c he hc=>?_⟩
 ·rw [hother k (fun e=>by rw [e,hn] at he;cases he)];exact x.sat.known k o he
 ·rw [hother k (by omega)];exact x.priv k hk he
 ·change upd e.box b (some ds) t=some c at ht
  by_cases h1:t=b
  ·subst h1;rw [upd_same] at ht;cases ht;exact ⟨⟨el,hthis⟩,hn,hge⟩
  ·rw [upd_other _ _ h1] at ht
   obtain ⟨⟨el',hh⟩,h2,h3⟩:=r2 t c ht
   exact ⟨⟨el',by rw [hother _ (fun e=>h1 (r3 t b c cs ht hb e))];exact hh⟩,h2,h3⟩
 ·have go:∀ k c,upd e.box b (some ds) k=some c→∃ c',e.box k=some c':=fun k c hk=>by
   by_cases h1:k=b
   ·subst h1;exact ⟨cs,hb⟩
   ·rw [upd_other _ _ h1] at hk;exact ⟨c,hk⟩
  obtain ⟨c1',h1⟩:=go t c1 ht
  obtain ⟨c2',h2⟩:=go u c2 hu
  exact r3 t u c1' c2' h1 h2 hβ
 ·obtain ⟨c',hc'⟩:=r4 k off c he hc
  show ∃ c'',upd e.box b (some ds) c=some c''
  by_cases h1:c=b
  ·subst h1;exact ⟨ds,upd_same _ _ _⟩
  ·rw [upd_other _ _ h1];exact ⟨c',hc'⟩
theorem At.heap (s:At rf N dz w0 h0 we e h a w) {h':Hp} {w':World} (x:Ext w0 h w h' w'):At rf N dz w0 h0 we e h' a w':=by
 obtain ⟨β,r1,r2,r3,r4⟩:=s.rel
 refine ⟨s.size,s.defers.heap x,s.ext.trans x,β,r1,fun t cs hb=>?_,r3,r4⟩
 obtain ⟨⟨el,hh⟩,hn,hge⟩:=r2 t cs hb
 obtain ⟨e1,n1⟩:=x.priv (β t) (Array.getElem?_eq_some_iff.1 hh).1 hn
 exact ⟨⟨el,by rw [e1];exact hh⟩,n1,hge⟩
theorem At.eval (s:At rf N dz w0 h0 we e h a w) {x:Operand} {y:Value} (hx:ev e x=.v y):a.eval x=y:=by
 obtain ⟨β,r1,_⟩:=s.rel
 cases x with
 | tmp t=>have:=r1 t;simp only [ev] at hx;rw [hx] at this;exact this
 | const v=>simp only [ev] at hx;cases hx;rfl
 | global g=>simp only [ev] at hx;cases hx;rfl
 | func f=>simp only [ev] at hx;cases hx;rfl
theorem At.exec (s:At rf N dz w0 h0 we e h a w) {o:Oper} (hv:(allV e o.op && noSel o.op)=true):execOp a.eval o=execOp (vals e) o:=by
 simp only [Bool.and_eq_true] at hv
 refine execOp_congr o (fun cs b hs=>?_) (fun x hx=>?_)
 ·have:=hv.2;rw [hs] at this;cases this
 ·have:=List.all_eq_true.1 hv.1 x (by simpa using hx)
  cases hx':ev e x with
  | v y=>rw [s.eval hx'];simp [vals,hx',MV.val]
  | ref off=>rw [hx'] at this;cases this
  | junk=>rw [hx'] at this;cases this
end
end Go.Mid
