/-
  THE MIDDLE LAYER: what operations come to, as plain functions of their operands (and of the partial heap), and that the model's operations come to just that.
-/
import Derived.Orders
import Derived.Below
import Derived.OrdersIn
import Derived.ControlIn
import Derived.RangeFuncRecord
import Derived.RangeFuncCalls
import Derived.Laws.Entries
import Derived.Laws.StructEq
import Derived.Laws.Cells
import Derived.Laws.Slices
set_option linter.unusedSimpArgs false
set_option linter.unusedVariables false
set_option maxHeartbeats 8000000
set_option maxRecDepth 10000
set_option linter.unusedSimpArgs false
set_option linter.unusedVariables false
namespace Go.Mid
open Go Go.RowKit
abbrev Hp:=Nat→Option Obj
def Hp.set (h:Hp) (b:Nat) (o:Obj):Hp:=fun c=>if c=b then some o else h c
def Hp.cell? (h:Hp) (a:Addr):Option Value :=
 match h a.block with
 | some (.cells c _ _)=>if a.spot.isSome then none else c[a.off]?
 | _=>none
def Hp.frozen? (h:Hp) (a:Addr):Bool :=
 match h a.block with
 | some (.cells _ _ (lo,hi))=>lo≤a.off && a.off<hi
 | _=>false
def Hp.setCell (h:Hp) (a:Addr) (v:Value):Hp :=
 match h a.block with
 | some (.cells c e f)=>h.set a.block (.cells (if a.spot.isSome then c else c.setIfInBounds a.off v) e f)
 | _=>h
def Hp.freeze (h:Hp) (a:Addr) (n:Nat):Hp :=
 match h a.block with
 | some (.cells c e (lo,hi))=>h.set a.block (.cells c e (if lo==hi then (a.off,a.off+n) else (min lo a.off,max hi (a.off+n))))
 | _=>h
def Hp.le (h h':Hp):Prop:=∀ b o,h b=some o→h' b=some o
theorem Hp.le_refl (h:Hp):h.le h:=fun _ _ x=>x
theorem Hp.le_trans {a b c:Hp} (x:a.le b) (y:b.le c):a.le c:=fun k o e=>y k o (x k o e)
theorem Hp.le_set {h:Hp} {b:Nat} {o:Obj} (hb:h b=none):h.le (h.set b o):=fun c x e=>by
 unfold Hp.set;split
 ·rename_i hc;rw [hc,hb] at e;cases e
 ·exact e
theorem Hp.set_same (h:Hp) (b:Nat) (o:Obj):(h.set b o) b=some o:=by simp [Hp.set]
theorem Hp.set_other (h:Hp) {b c:Nat} (o:Obj) (hc:c≠b):(h.set b o) c=h c:=by simp [Hp.set,hc]
structure Sat (w0:World) (h:Hp) (w:World):Prop where
 os:w.os=w0.os
 tape:w.tape=w0.tape
 output:w.output=w0.output
 size:w0.heap.size≤w.heap.size
 known:∀ b o,h b=some o→w.heap[b]? = some o
structure Ext (w0:World) (h:Hp) (w:World) (h':Hp) (w':World):Prop where
 sat:Sat w0 h' w'
 grow:w.heap.size≤w'.heap.size
 priv:∀ b,b<w.heap.size→h b=none→w'.heap[b]? = w.heap[b]? ∧ h' b=none
theorem Sat.lt {w0:World} {h:Hp} {w:World} (s:Sat w0 h w) {b:Nat} {o:Obj} (e:h b=some o):b<w.heap.size:=by
 have:=s.known b o e
 exact (Array.getElem?_eq_some_iff.1 this).1
theorem Sat.fresh {w0:World} {h:Hp} {w:World} (s:Sat w0 h w):h w.heap.size=none:=by
 cases e:h w.heap.size with
 | none=>rfl
 | some o=>exact absurd (s.lt e) (Nat.lt_irrefl _)
theorem Ext.refl {w0:World} {h:Hp} {w:World} (s:Sat w0 h w):Ext w0 h w h w:=⟨s,Nat.le_refl _,fun _ _ e=>⟨rfl,e⟩⟩
theorem Ext.trans {w0:World} {h h1 h2:Hp} {w w1 w2:World} (a:Ext w0 h w h1 w1) (b:Ext w0 h1 w1 h2 w2):Ext w0 h w h2 w2 :=
 ⟨b.sat,Nat.le_trans a.grow b.grow,fun k hk e=>by
  obtain ⟨e1,n1⟩:=a.priv k hk e
  obtain ⟨e2,n2⟩:=b.priv k (Nat.lt_of_lt_of_le hk a.grow) n1
  exact ⟨e2.trans e1,n2⟩⟩
theorem Ext.forget {w0:World} {h h1 h2:Hp} {w w1:World} (a:Ext w0 h w h1 w1) (hle:h2.le h1):Ext w0 h w h2 w1 :=
 ⟨⟨a.sat.os,a.sat.tape,a.sat.output,a.sat.size,fun b o e=>a.sat.known b o (hle b o e)⟩,a.grow,fun k hk e=>by
  obtain ⟨e1,n1⟩:=a.priv k hk e
  refine ⟨e1,?_⟩
  cases hh:h2 k with
  | none=>rfl
  | some o=>rw [hle k o hh] at n1;cases n1⟩
def mid {α:Type} (P:Program):Sem α→Hp→(α→Hp→Prop)→Prop
 | .pure a,h,K=>K a h
 | .load _ a k,h,K=>match h.cell? a with
  | some v=>mid P (k v) h K
  | none=>False
 | .store _ a v k,h,K=>v.oneCell'=true∧match h.cell? a with
  | some _=>h.frozen? a=false∧mid P k (h.setCell a v) K
  | none=>False
 | .new o k,h,K=>∀ b,h b=none→mid P (k b) (h.set b o) K
 | .shape r k,h,K=>match h r with
  | some (.cells c e _)=>mid P (k (some (e,c.size))) h K
  | some _=>mid P (k none) h K
  | none=>False
 | .freeze a n k,h,K=>if n=0 then mid P k h K else match h a.block with
  | some (.cells ..)=>mid P k (h.freeze a n) K
  | _=>False
 | .frozen a k,h,K=>match h a.block with
  | some _=>mid P (k (h.frozen? a)) h K
  | none=>False
 | .getObj r k,h,K=>match h r with
  | some (.cells ..)=>False
  | some o=>mid P (k o) h K
  | none=>False
 | .setObj r o k,h,K=>match h r with
  | some (.cells ..)=>False
  | some _=>mid P k (h.set r o) K
  | none=>False
 | .choose q k,h,K=>if q.forced then mid P (k 0) h K else ∀ t,mid P (k (q.cut t)) h K
 | .sys _ _,_,_=>False
 | .program k,h,K=>mid P (k P) h K
 | .mark _ k,h,K=>mid P k h K
 | .halt _,_,_=>False
theorem mid_mono {α:Type} {P:Program} (s:Sem α):∀ {h:Hp} {K K':α→Hp→Prop},(∀ a h,K a h→K' a h)→mid P s h K→mid P s h K':=by
 induction s with
 | pure a=>intro h K K' hk hm;exact hk _ _ hm
 | load m a k ih=>intro h K K' hk hm;simp only [mid] at *;split at hm <;> first | exact ih _ hk hm | exact hm
 | store m a v k ih =>
  intro h K K' hk hm;simp only [mid] at *
  refine ⟨hm.1,?_⟩
  have hm:=hm.2
  split at hm <;> first | exact ⟨hm.1,ih hk hm.2⟩ | exact hm
 | new o k ih=>intro h K K' hk hm b hb;exact ih b hk (hm b hb)
 | shape r k ih=>intro h K K' hk hm;simp only [mid] at *;split at hm <;> first | exact ih _ hk hm | exact hm
 | freeze a n k ih =>
  intro h K K' hk hm;simp only [mid] at *
  by_cases hn:n=0
  ·rw [if_pos hn] at *;exact ih hk hm
  ·rw [if_neg hn] at *;split at hm <;> first | exact ih hk hm | exact hm
 | frozen a k ih=>intro h K K' hk hm;simp only [mid] at *;split at hm <;> first | exact ih _ hk hm | exact hm
 | getObj r k ih=>intro h K K' hk hm;simp only [mid] at *;split at hm <;> first | exact ih _ hk hm | exact hm
 | setObj r o k ih=>intro h K K' hk hm;simp only [mid] at *;split at hm <;> first | exact ih hk hm | exact hm
 | choose q k ih =>
  intro h K K' hk hm;simp only [mid] at *
  by_cases hq:q.forced=true
  ·rw [if_pos hq] at *;exact ih _ hk hm
  ·rw [if_neg hq] at *;exact fun t=>ih _ hk (hm t)
 | sys c k ih=>intro h K K' hk hm;exact hm
 | program k ih=>intro h K K' hk hm;exact ih _ hk hm
 | mark m k ih=>intro h K K' hk hm;exact ih hk hm
 | halt x=>intro h K K' hk hm;exact hm
section
variable {w0 w:World} {h:Hp}
theorem Sat.cell (s:Sat w0 h w) {a:Addr} {v:Value} (e:h.cell? a=some v):w.cell? a=some v:=by
 unfold Hp.cell? at e
 split at e
 ·rename_i c el f hb
  simp only [World.cell?,s.known _ _ hb]
  exact e
 ·cases e
theorem Sat.frozen (s:Sat w0 h w) {a:Addr} {o:Obj} (e:h a.block=some o):w.frozen? a=h.frozen? a:=by
 simp only [World.frozen?,Hp.frozen?,s.known _ _ e,e]
 cases o <;> rfl
theorem cell_block {a:Addr} {v:Value} (e:h.cell? a=some v):∃ c el f,h a.block=some (.cells c el f):=by
 unfold Hp.cell? at e
 split at e
 ·rename_i c el f hb;exact ⟨c,el,f,hb⟩
 ·cases e
theorem Ext.put (s:Sat w0 h w) {b:Nat} {o o':Obj} {w':World} (hb:h b=some o) (hos:w'.os=w.os) (htape:w'.tape=w.tape) (hout:w'.output=w.output)
  (hsize:w'.heap.size=w.heap.size) (hthis:w'.heap[b]? = some o') (hother:∀ k,k≠b→w'.heap[k]? = w.heap[k]?):Ext w0 h w (h.set b o') w' :=
 ⟨⟨hos.trans s.os,htape.trans s.tape,hout.trans s.output,by have:=s.size;omega,fun k x e=>by
   unfold Hp.set at e
   split at e
   ·rename_i hk;cases e;rw [hk];exact hthis
   ·rename_i hk;rw [hother k hk];exact s.known k x e⟩,by omega,fun k hk e=>by
   have hne:k≠b:=fun x=>by rw [x,hb] at e;cases e
   exact ⟨hother k hne,by rw [Hp.set_other _ _ hne];exact e⟩⟩
end
theorem mid_sound {α:Type} {P:Program} {w0:World} (s:Sem α):∀ {h:Hp} {K:α→Hp→Prop} {w:World},mid P s h K→Sat w0 h w →
  ∃ a h' w',s.run P w=.ok a w'∧Ext w0 h w h' w'∧K a h':=by
 induction s with
 | pure a=>intro h K w hm hs;exact ⟨a,h,w,rfl,Ext.refl hs,hm⟩
 | load m a k ih =>
  intro h K w hm hs
  simp only [mid] at hm
  split at hm
  ·rename_i v hv
   obtain ⟨x,h',w',hr,he,hk⟩:=ih v hm hs
   exact ⟨x,h',w',by simp only [Sem.run,hs.cell hv];exact hr,he,hk⟩
  ·exact hm.elim
 | store m a v k ih =>
  intro h K w hm hs
  simp only [mid] at hm
  obtain ⟨hv,hm⟩:=hm
  split at hm
  ·rename_i u hu
   obtain ⟨hf,hm⟩:=hm
   obtain ⟨c,el,f,hb⟩:=cell_block hu
   have hwb:=hs.known _ _ hb
   have hfz:w.frozen? a=false:=by rw [hs.frozen hb];exact hf
   have hstep:Ext w0 h w (h.setCell a v) (w.setCell a v):=by
    unfold Hp.setCell
    rw [hb]
    refine Ext.put hs hb rfl rfl rfl (by simp [World.setCell]) ?_ ?_
    ·simp only [World.setCell,Array.getElem?_modify,if_true,hwb,Option.map_some]
    ·intro k hk
     simp only [World.setCell,Array.getElem?_modify]
     rw [if_neg (fun e=>hk e.symm)]
   obtain ⟨x,h',w',hr,he,hk⟩:=ih hm hstep.sat
   refine ⟨x,h',w',?_,hstep.trans he,hk⟩
   have hcell:=hs.cell hu
   cases v <;> first
    | (simp [Value.oneCell'] at hv;done)
    | (simp only [Sem.run,hcell,hfz,Bool.false_eq_true,if_false];exact hr)
  ·exact hm.elim
 | new o k ih =>
  intro h K w hm hs
  have hm:=hm w.heap.size hs.fresh
  have hstep:Ext w0 h w (h.set w.heap.size o) (w.alloc o) :=
   ⟨⟨hs.os,hs.tape,hs.output,by have:=hs.size;simp;omega,fun b x e=>by
     unfold Hp.set at e
     split at e
     ·rename_i hb;cases e;subst hb;show (w.heap.push o)[w.heap.size]? = some o;simp
     ·rw [Below.heap_alloc _ _ _ (hs.lt e)];exact hs.known b x e⟩,by simp,fun b hb e =>
     ⟨Below.heap_alloc _ _ _ hb,by rw [Hp.set_other _ _ (by omega)];exact e⟩⟩
  obtain ⟨x,h',w',hr,he,hk⟩:=ih _ hm hstep.sat
  exact ⟨x,h',w',by simp only [Sem.run];exact hr,hstep.trans he,hk⟩
 | shape r k ih =>
  intro h K w hm hs
  simp only [mid] at hm
  have go:∀ y,w.shape? r=y→mid P (k y) h K→∃ a h' w',(Sem.shape r k).run P w=.ok a w'∧Ext w0 h w h' w'∧K a h':=fun y hy hm=>by
   obtain ⟨x,h',w',hr,he,hk⟩:=ih y hm hs
   exact ⟨x,h',w',by simp only [Sem.run,hy];exact hr,he,hk⟩
  cases hb:h r with
  | none=>rw [hb] at hm;exact hm.elim
  | some o =>
   rw [hb] at hm
   have hw:=hs.known _ _ hb
   cases o <;> exact go _ (by simp only [World.shape?,hw]) hm
 | freeze a n k ih =>
  intro h K w hm hs
  simp only [mid] at hm
  split at hm
  ·rename_i hn
   obtain ⟨x,h',w',hr,he,hk⟩:=ih hm hs
   exact ⟨x,h',w',by simp only [Sem.run,World.freeze,hn,if_true];exact hr,he,hk⟩
  ·rename_i hn
   split at hm
   ·rename_i c el f hb
    have hwb:=hs.known _ _ hb
    obtain ⟨lo,hi⟩:=f
    have hstep:Ext w0 h w (h.freeze a n) (w.freeze a n):=by
     unfold Hp.freeze World.freeze
     rw [hb]
     simp only [hn,if_false]
     refine Ext.put hs hb rfl rfl rfl (by simp) ?_ ?_
     ·simp only [Array.getElem?_modify,if_true,hwb,Option.map_some]
     ·intro k hk
      simp only [Array.getElem?_modify]
      rw [if_neg (fun e=>hk e.symm)]
    obtain ⟨x,h',w',hr,he,hk⟩:=ih hm hstep.sat
    exact ⟨x,h',w',by simp only [Sem.run];exact hr,hstep.trans he,hk⟩
   ·exact hm.elim
 | frozen a k ih =>
  intro h K w hm hs
  simp only [mid] at hm
  split at hm
  ·rename_i o hb
   obtain ⟨x,h',w',hr,he,hk⟩:=ih _ hm hs
   exact ⟨x,h',w',by simp only [Sem.run,hs.frozen hb];exact hr,he,hk⟩
  ·exact hm.elim
 | getObj r k ih =>
  intro h K w hm hs
  simp only [mid] at hm
  cases hb:h r with
  | none=>rw [hb] at hm;exact hm.elim
  | some o =>
   rw [hb] at hm
   have hw:=hs.known _ _ hb
   cases o with
   | cells c e f=>exact hm.elim
   | _ =>
    obtain ⟨x,h',w',hr,he,hk⟩:=ih _ hm hs
    exact ⟨x,h',w',by simp only [Sem.run,hw];exact hr,he,hk⟩
 | setObj r o k ih =>
  intro h K w hm hs
  simp only [mid] at hm
  cases hb:h r with
  | none=>rw [hb] at hm;exact hm.elim
  | some o' =>
   rw [hb] at hm
   have hw:=hs.known _ _ hb
   have hlt:=hs.lt hb
   have hstep:Ext w0 h w (h.set r o) { w with heap:=w.heap.setIfInBounds r o } :=
    Ext.put hs hb rfl rfl rfl (by simp) (by simp [hlt]) (fun k hk=>by simp [Array.getElem?_setIfInBounds_ne (Ne.symm hk)])
   cases o' with
   | cells c e f=>exact hm.elim
   | _ =>
    obtain ⟨x,h',w',hr,he,hk⟩:=ih hm hstep.sat
    exact ⟨x,h',w',by simp only [Sem.run,hw];exact hr,hstep.trans he,hk⟩
 | choose q k ih =>
  intro h K w hm hs
  simp only [mid] at hm
  split at hm
  ·rename_i hq
   obtain ⟨x,h',w',hr,he,hk⟩:=ih _ hm hs
   exact ⟨x,h',w',by simp only [Sem.run,hq,if_true];exact hr,he,hk⟩
  ·rename_i hq
   have hs':Sat w0 h { w with drawn:=w.drawn+1 }:=⟨hs.os,hs.tape,hs.output,hs.size,hs.known⟩
   obtain ⟨x,h',w',hr,he,hk⟩:=ih _ (hm (w.tape w.drawn q)) hs'
   exact ⟨x,h',w',by simp only [Sem.run,hq];exact hr,⟨he.sat,he.grow,he.priv⟩,hk⟩
 | sys c k ih=>intro h K w hm hs;exact hm.elim
 | program k ih =>
  intro h K w hm hs
  obtain ⟨x,h',w',hr,he,hk⟩:=ih _ hm hs
  exact ⟨x,h',w',by simp only [Sem.run];exact hr,he,hk⟩
 | mark m k ih =>
  intro h K w hm hs
  obtain ⟨x,h',w',hr,he,hk⟩:=ih hm hs
  exact ⟨x,h',w',by simp only [Sem.run];exact hr,he,hk⟩
 | halt x=>intro h K w hm hs;exact hm.elim
structure X (P:Program) (f:FuncId) (args:Array Value) (h:Hp) (K:Value→Hp→Prop):Prop where
 go:∀ w0 w,Sat w0 h w→Calls P f args w fun e w'=>∃ v h',e=.returned v∧Ext w0 h w h' w'∧K v h'
theorem X.mono {P:Program} {f:FuncId} {args:Array Value} {h:Hp} {K K':Value→Hp→Prop} (x:X P f args h K) (hk:∀ v h,K v h→K' v h):X P f args h K' :=
 ⟨fun w0 w s=>(x.go w0 w s).mono fun _ _ ⟨v,h',he,hx,k⟩=>⟨v,h',he,hx,hk _ _ k⟩⟩
theorem X.forget {P:Program} {f:FuncId} {args:Array Value} {h:Hp} {K:Value→Hp→Prop} (x:X P f args h fun v h'=>∃ h2,h2.le h'∧K v h2):X P f args h K :=
 ⟨fun w0 w s=>(x.go w0 w s).mono fun _ _ ⟨v,_,he,hx,h2,hle,k⟩=>⟨v,h2,he,hx.forget hle,k⟩⟩
def FW (r:Option Nat):Fence:={ Fence.wide with round:=r }
theorem calls_FW {r:Option Nat} {n:Nat} {P:Program} {f:FuncId} {args:Array Value} {w:World} {R:Ending→World→Prop} (h:Calls P f args w R):CallsIn (FW r) n P f args w R :=
 ⟨trivial,fun cs _=>(callsIn_wide (n:=n)).2 h |>.2 cs (room_wide _)⟩
structure XR (P:Program) (l:Nat) (f:FuncId) (tmps:Array Value) (asg body:Code) (h:Hp) (K:Value→Hp→Prop):Prop where
 go:∀ w0 w,Sat w0 h w→RoundIn Fence.wide 0 P l f tmps asg body w fun e w'=>∃ v h',e=.returned v∧Ext w0 h w h' w'∧K v h'
theorem round_FW {r:Option Nat} {n:Nat} {P:Program} {l:Nat} {f:FuncId} {tmps:Array Value} {asg body:Code} {w:World} {R:Ending→World→Prop} (h:RoundIn Fence.wide 0 P l f tmps asg body w R):RoundIn (FW r) n P l f tmps asg body w R :=
 ⟨trivial,fun c cs _=>h.2 c cs (room_wide _)⟩
theorem XR.mono {P:Program} {l:Nat} {f:FuncId} {tmps:Array Value} {asg body:Code} {h:Hp} {K K':Value→Hp→Prop} (x:XR P l f tmps asg body h K) (hk:∀ v h,K v h→K' v h):XR P l f tmps asg body h K' :=
 ⟨fun w0 w s=>(x.go w0 w s).mono fun _ _ ⟨v,h',he,hx,k⟩=>⟨v,h',he,hx,hk _ _ k⟩⟩
theorem mid_bind {α β:Type} {P:Program} (s:Sem α) (f:α→Sem β):∀ (h:Hp) (K:β→Hp→Prop),mid P (s >>= f) h K↔mid P s h fun a g=>mid P (f a) g K:=by
 show ∀ (h:Hp) (K:β→Hp→Prop),mid P (s.bind f) h K↔_
 induction s with
 | pure a=>intro h K;exact Iff.rfl
 | load m a k ih=>intro h K;simp only [Sem.bind,mid];split <;> first | exact ih _ _ _ | exact Iff.rfl
 | store m a v k ih=>intro h K;simp only [Sem.bind,mid];refine and_congr_right fun _=>?_;split <;> first | exact and_congr_right fun _=>ih _ _ | exact Iff.rfl
 | new o k ih=>intro h K;simp only [Sem.bind,mid];exact forall_congr' fun b=>imp_congr_right fun _=>ih _ _ _
 | shape r k ih=>intro h K;simp only [Sem.bind,mid];split <;> first | exact ih _ _ _ | exact Iff.rfl
 | freeze a n k ih=>intro h K;simp only [Sem.bind,mid];(repeat' split) <;> first | exact ih _ _ | exact Iff.rfl
 | frozen a k ih=>intro h K;simp only [Sem.bind,mid];split <;> first | exact ih _ _ _ | exact Iff.rfl
 | getObj r k ih=>intro h K;simp only [Sem.bind,mid];split <;> first | exact ih _ _ _ | exact Iff.rfl
 | setObj r o k ih=>intro h K;simp only [Sem.bind,mid];split <;> first | exact ih _ _ | exact Iff.rfl
 | choose q k ih=>intro h K;simp only [Sem.bind,mid];split <;> first | exact ih _ _ _ | exact forall_congr' fun t=>ih _ _ _
 | sys c k ih=>intro h K;exact Iff.rfl
 | program k ih=>intro h K;exact ih _ _ _
 | mark m k ih=>intro h K;exact ih _ _
 | halt x=>intro h K;exact Iff.rfl
end Go.Mid
namespace Go.Mid
open Go Go.RowKit
def isAggT (P:Program) (t:TypeId):Option Bool :=
 match P.underlying t with
 | some (.struct _) | some (.array _ _)=>some true
 | some _=>some false
 | none=>none
def sizeT (P:Program) (t:TypeId):Option Nat:=match P.info? t with | some i=>some i.size | none=>none
def bytesT (P:Program) (t:TypeId):Option Nat:=match P.info? t with | some i=>some i.bytes | none=>none
def zeroT (P:Program) (t:TypeId):Option Value:=match P.info? t with | some i=>i.zero | none=>none
def partV (P:Program) (t:TypeId) (cs:Array Value) (off:Nat):Option Value :=
 match isAggT P t with
 | some true=>match sizeT P t with
  | some n=>some (.agg (cs.extract off (off+n)))
  | none=>none
 | some false=>cs[off]?
 | none=>none
def eqFs (P:Program) (eq:TypeId→Value→Value→Option Bool) (xs ys:Array Value):List Field→Option Bool
 | []=>some true
 | f :: fs => if f.name ≠ "_" then
   match partV P f.type xs f.offset,partV P f.type ys f.offset with
   | some a,some b=>match eq f.type a b,eqFs P eq xs ys fs with
    | some r,some s=>some (r && s)
    | _,_=>none
   | _,_=>none
  else eqFs P eq xs ys fs
def eqAs (P:Program) (eq:TypeId→Value→Value→Option Bool) (elem:TypeId) (n:Nat) (xs ys:Array Value):Nat→Nat→Option Bool
 | 0,_=>some true
 | m+1,i=>match partV P elem xs (i*n),partV P elem ys (i*n) with
   | some a,some b=>match eq elem a b,eqAs P eq elem n xs ys m (i+1) with
    | some r,some s=>some (r && s)
    | _,_=>none
   | _,_=>none
def eqV (P:Program):Nat→TypeId→Value→Value→Option Bool
 | 0,_,_,_=>none
 | d+1,t,x,y=>match P.underlying t,x,y with
  | some .bool,.bool a,.bool b=>some (a==b)
  | some (.int _),.int k a,.int k' b=>if k=k' then some (a==b) else none
  | some .string,.string a,.string b=>some (a.toList==b.toList)
  | some (.pointer _),.pointer none,.pointer b=>some b.isNone
  | some (.pointer _),.pointer (some _),.pointer none=>some false
  | some (.slice _),.slice none _ _,.slice b _ _=>some b.isNone
  | some (.slice _),.slice (some _) _ _,.slice none _ _=>some false
  | some (.map _ _),.map none,.map b=>some b.isNone
  | some (.map _ _),.map (some _),.map none=>some false
  | some (.func _ _ _),.nilFunc,.nilFunc=>some true
  | some (.func _ _ _),.nilFunc,.func _ _ _=>some false
  | some (.func _ _ _),.func _ _ _,.nilFunc=>some false
  | some (.interface _),.nilIface,.nilIface=>some true
  | some (.interface _),.nilIface,.iface _ _=>some false
  | some (.interface _),.iface _ _,.nilIface=>some false
  | some (.struct fields),.agg xs,.agg ys=>if P.stoodInHeld t=false then eqFs P (eqV P d) xs ys fields.toList else none
  | some (.array len elem),.agg xs,.agg ys=>match sizeT P elem with
   | some n=>eqAs P (eqV P d) elem n xs ys len 0
   | none=>none
  | _,_,_=>none
def intV (op:BinOp) (k:IntKind) (a b:Int):Option Value :=
 match op with
 | .add=>some (.int k (k.wrap (a+b)))
 | .sub=>some (.int k (k.wrap (a - b)))
 | .mul=>some (.int k (k.wrap (a*b)))
 | .quo=>if b=0 then none else some (.int k (k.wrap (a.tdiv b)))
 | .rem=>if b=0 then none else some (.int k (a.tmod b))
 | .and=>some (.int k (k.wrap (BitVec.ofInt k.bits a &&& BitVec.ofInt k.bits b).toNat))
 | .or=>some (.int k (k.wrap (BitVec.ofInt k.bits a ||| BitVec.ofInt k.bits b).toNat))
 | .xor=>some (.int k (k.wrap (BitVec.ofInt k.bits a ^^^ BitVec.ofInt k.bits b).toNat))
 | .andNot=>some (.int k (k.wrap (BitVec.ofInt k.bits a &&& ~~~BitVec.ofInt k.bits b).toNat))
 | .eql=>some (.bool (a==b))
 | .neq=>some (.bool (a != b))
 | .lss=>some (.bool (decide (a<b)))
 | .leq=>some (.bool (decide (a≤b)))
 | .gtr=>some (.bool (decide (b<a)))
 | .geq=>some (.bool (decide (b≤a)))
 | _=>none
def shiftV (op:BinOp) (k:IntKind) (a b:Int):Option Value :=
 if b<0 then none else match op with
 | .shl=>some (.int k (k.wrap (a*2 ^ (min b.toNat k.bits))))
 | .shr=>some (.int k (a.fdiv (2 ^ (min b.toNat k.bits))))
 | _=>none
def strV (op:BinOp) (a b:ByteArray):Option Value :=
 match op with
 | .add=>if ((a.size+b.size:Nat):Int)>IntKind.i64.max then none else some (.string (a++b))
 | .eql=>some (.bool (a.toList==b.toList))
 | .neq=>some (.bool (!(a.toList==b.toList)))
 | .lss=>some (.bool (Op.bytesLess a.toList b.toList))
 | .leq=>some (.bool (Op.bytesLess a.toList b.toList || a.toList==b.toList))
 | .gtr=>some (.bool (!(Op.bytesLess a.toList b.toList || a.toList==b.toList)))
 | .geq=>some (.bool (!Op.bytesLess a.toList b.toList))
 | _=>none
def isShift:BinOp→Bool
 | .shl | .shr=>true
 | _=>false
def eqOf (op:BinOp) (r:Option Bool):Option Value :=
 match op,r with
 | .eql,some b=>some (.bool b)
 | .neq,some b=>some (.bool (!b))
 | _,_=>none
def binV (P:Program) (op:BinOp) (t:TypeId) (x y:Value):Option Value :=
 match x,y with
 | .int k a,.int k' b=>if isShift op then shiftV op k a b else if k=k' then intV op k a b else none
 | .string a,.string b=>strV op a b
 | .bool a,.bool b=>eqOf op (eqV P 10000 t (.bool a) (.bool b))
 | .pointer a,.pointer b=>eqOf op (eqV P 10000 t (.pointer a) (.pointer b))
 | .slice a n c,.slice b m k=>eqOf op (eqV P 10000 t (.slice a n c) (.slice b m k))
 | .map a,.map b=>eqOf op (eqV P 10000 t (.map a) (.map b))
 | .func a b c,.nilFunc=>eqOf op (eqV P 10000 t (.func a b c) .nilFunc)
 | .nilFunc,.func a b c=>eqOf op (eqV P 10000 t .nilFunc (.func a b c))
 | .nilFunc,.nilFunc=>eqOf op (eqV P 10000 t .nilFunc .nilFunc)
 | .iface a b,.nilIface=>eqOf op (eqV P 10000 t (.iface a b) .nilIface)
 | .nilIface,.iface a b=>eqOf op (eqV P 10000 t .nilIface (.iface a b))
 | .agg xs,.agg ys=>if P.eqGuardType P.depth t=false then eqOf op (eqV P 10000 t (.agg xs) (.agg ys)) else none
 | _,_=>none
def isConst:Operand→Bool
 | .const _=>true
 | _=>false
def binW (P:Program) (op:BinOp) (t:TypeId) (ox oy:Operand) (x y:Value):Option Value :=
 match x,y with
 | .nilIface,.nilIface=>match isConst ox || isConst oy with
  | true=>eqOf op (eqV P 10000 t .nilIface .nilIface)
  | false=>none
 | x,y=>binV P op t x y
def placesV (P:Program):List Field→Option (List (Nat×Nat))
 | []=>some []
 | f :: fs=>match sizeT P f.type,placesV P fs with
  | some n,some r=>some ((f.offset,n) :: r)
  | _,_=>none
def fillV (place:Nat→Option (Nat×Nat)) (cells:List Value):List (Nat×Value)→Option (List Value)
 | []=>some cells
 | (i,v) :: rest=>match place i with
  | none=>none
  | some (off,size)=>if (v.cells.size==size && decide (off+size≤cells.length))=true then fillV place (setC cells off v.cells.toList) rest else none
where setC:List Value→Nat→List Value→List Value
 | cs,_,[]=>cs
 | cs,off,v :: vs=>setC (cs.set off v) (off+1) vs
def buildV (P:Program) (t:TypeId) (parts:List (Nat×Value)):Option Value :=
 match zeroT P t,P.underlying t with
 | some z,some (.struct fields)=>match placesV P fields.toList with
  | some pl=>match fillV (fun i=>pl[i]?) z.cells.toList parts with
   | some cs=>some (.agg cs.toArray)
   | none=>none
  | none=>none
 | some z,some (.array _ elem)=>match sizeT P elem with
  | some n=>match fillV (fun i=>some (i*n,n)) z.cells.toList parts with
   | some cs=>some (.agg cs.toArray)
   | none=>none
  | none=>none
 | _,_=>none
def natIn (lo hi:Nat):Option Value→(dflt:Nat)→Option Nat
 | none,d=>some d
 | some (.int _ i),_=>if (lo:Int)≤i∧i≤hi then some i.toNat else none
 | some _,_=>none
def sliceV (P:Program) (t:TypeId) (x:Value) (lo hi mx:Option Value):Option Value :=
 match P.underlying t,x with
 | some .string,.string s=>match mx with
  | none=>match natIn 0 s.size hi s.size with
   | some h=>match natIn 0 h lo 0 with
    | some l=>some (.string (s.extract l h))
    | none=>none
   | none=>none
  | some _=>none
 | some (.slice elem),.slice a len cap=>match natIn 0 cap mx cap with
  | some m=>match (if mx.isSome && hi.isNone then none else natIn 0 m hi len) with
   | some h=>match natIn 0 h lo 0 with
    | some l=>match sizeT P elem with
     | some n=>some (.slice (if m=l then a else a.map (·.add (l*n))) (h - l) (m - l))
     | none=>none
    | none=>none
   | none=>none
  | none=>none
 | some (.array n elem),.pointer (some a)=>match natIn 0 n mx n with
  | some m=>match (if mx.isSome && hi.isNone then none else natIn 0 m hi n) with
   | some h=>match natIn 0 h lo 0 with
    | some l=>match sizeT P elem with
     | some k=>some (.slice (some (if m=l then a else a.add (l*k))) (h - l) (m - l))
     | none=>none
    | none=>none
   | none=>none
  | none=>none
 | _,_=>none
def lenV (P:Program) (t:TypeId) (x:Value):Option Value :=
 match P.underlying t,x with
 | some .string,.string s=>some (.int .i64 s.size)
 | some (.slice _),.slice _ n _=>some (.int .i64 n)
 | some (.array n _),_=>some (.int .i64 n)
 | some (.map _ _),.map none=>some (.int .i64 0)
 | _,_=>none
def indexV (P:Program) (t:TypeId) (x ix:Value):Option Value :=
 match ix with
 | .int _ i=>match P.underlying t,x with
  | some (.array len elem),.agg cs=>if 0≤i∧i<len then match sizeT P elem with
    | some n=>partV P elem cs (i.toNat*n)
    | none=>none
   else none
  | some .string,.string s=>if 0≤i then match s[i.toNat]? with
    | some b=>some (.int .u8 b.toNat)
    | none=>none
   else none
  | _,_=>none
 | _=>none
def calcV (P:Program) (ρ:Operand→Value):Op→Option Value
 | .pick c a b=>match ρ c with
  | .bool t=>some (if t then ρ a else ρ b)
  | _=>none
 | .binOp op t x y _=>binW P op t x y (ρ x) (ρ y)
 | .unOp op _ x=>match op,ρ x with
  | .not,.bool b=>some (.bool (!b))
  | .neg,.int k n=>some (.int k (k.wrap (0 - n)))
  | .xor,.int k n=>some (.int k (k.wrap (BitVec.ofInt k.bits (if k.signed then -1 else k.max) ^^^ BitVec.ofInt k.bits n).toNat))
  | _,_=>none
 | .field t x f=>match P.underlying t,ρ x with
  | some (.struct fields),.agg cs=>match fields[f]? with
   | some fl=>partV P fl.type cs fl.offset
   | none=>none
  | _,_=>none
 | .extract t i=>match ρ t with
  | .tuple vs=>vs[i]?
  | _=>none
 | .build t parts=>buildV P t (parts.toList.map fun p=>(p.1,ρ p.2))
 | .index t x ix=>indexV P t (ρ x) (ρ ix)
 | .slice t x lo hi mx=>sliceV P t (ρ x) (lo.map ρ) (hi.map ρ) (mx.map ρ)
 | .convert src dst x=>match P.underlying src,P.underlying dst,ρ x with
  | some _,some (.int k),.int _ n=>some (.int k (k.wrap n))
  | some .string,some .string,.string s=>some (.string s)
  | _,_,_=>none
 | .fieldAddr s x f=>match P.underlying s,ρ x with
  | some (.struct fields),.pointer (some a)=>match fields[f]? with
   | some fl=>match sizeT P fl.type with
    | some n=>if n=0 then none else some (.pointer (some (a.add fl.offset)))
    | none=>none
   | none=>none
  | _,_=>none
 | .indexAddr t x ix=>match ρ ix with
  | .int _ i=>match P.underlying t,ρ x with
   | some (.slice elem),.slice (some a) len _=>if 0≤i∧i<len then match sizeT P elem with
     | some n=>some (.pointer (some (a.add (i.toNat*n))))
     | none=>none
    else none
   | some (.array len elem),.pointer (some a)=>if 0≤i∧i<len then match sizeT P elem with
     | some n=>some (.pointer (some (a.add (i.toNat*n))))
     | none=>none
    else none
   | _,_=>none
  | _=>none
 | .nilCheck x=>match ρ x with
  | .pointer (some a)=>some (.pointer (some a))
  | _=>none
 | .makeFunc fn first captured=>some (.func fn (first.toList.map ρ).toArray (captured.toList.map ρ).toArray)
 | .makeInterface t x=>match P.underlying t with
  | some (.interface _)=>none
  | some _=>some (.iface t (ρ x))
  | none=>none
 | .call c=>match c.callee,c.args.toList,c.argTypes.toList with
  | .builtin .len,[x],[t]=>lenV P t (ρ x)
  | .builtin .cap,[x],[t]=>match P.underlying t,ρ x with
   | some (.slice _),.slice _ _ n=>some (.int .i64 n)
   | _,_=>none
  | .builtin .min,[x,y],_=>match ρ x,ρ y with
   | .int k a,.int _ b=>some (.int k (if b<a then b else a))
   | _,_=>none
  | .builtin .max,[x,y],_=>match ρ x,ρ y with
   | .int k a,.int _ b=>some (.int k (if b>a then b else a))
   | _,_=>none
  | _,_,_=>none
 | _=>none
section
variable {P:Program} {w:World}
theorem isAgg_run {t:TypeId} {b:Bool} (h:isAggT P t=some b):(isAgg t).run P w=.ok b w:=by
 unfold isAggT at h
 unfold isAgg underlying
 split at h
 ·rename_i hu;cases h;simp [hu]
 ·rename_i hu;cases h;simp [hu]
 ·rename_i d h1 h2 hu
  cases h
  cases d <;> first
   | exact (h1 _ rfl).elim
   | exact (h2 _ _ rfl).elim
   | simp [hu]
 ·cases h
theorem sizeOf_run {t:TypeId} {n:Nat} (h:sizeT P t=some n):(sizeOf t).run P w=.ok n w:=by
 unfold sizeT at h
 split at h
 ·rename_i i hi;cases h;simp [sizeOf,typeInfo,hi]
 ·cases h
theorem zero_run {t:TypeId} {z:Value} (h:zeroT P t=some z):(zeroValue t).run P w=.ok z w:=by
 unfold zeroT at h
 split at h
 ·rename_i i hi;simp [zeroValue,typeInfo,hi,h]
 ·cases h
theorem under_run {t:TypeId} {d:TypeDesc} (h:P.underlying t=some d):(underlying t).run P w=.ok d w:=by
 simp [underlying,h]
theorem part_run {t:TypeId} {cs:Array Value} {off:Nat} {v:Value} (h:partV P t cs off=some v):(part t cs off).run P w=.ok v w:=by
 unfold partV at h
 unfold part
 split at h
 ·rename_i ha
  split at h
  ·rename_i n hn;cases h;simp [isAgg_run ha,sizeOf_run hn]
  ·cases h
 ·rename_i ha;simp [isAgg_run ha,h]
 ·cases h
end
section
variable {P:Program} {w:World} {d:Nat} (ih:∀ t x y r,eqV P d t x y=some r→(Op.equalIn d t x y).run P w=.ok r w)
include ih
theorem eqFs_of (xs ys:Array Value):∀ (fs:List Field) (r:Bool),eqFs P (eqV P d) xs ys fs=some r→(Op.eqFields d xs ys fs).run P w=.ok r w
 | [],r,h=>by simp [eqFs] at h;subst h;simp [Op.eqFields]
 | f :: fs,r,h=>by
  unfold eqFs at h
  unfold Op.eqFields
  split at h
  ·rename_i hn
   rw [if_pos hn]
   split at h
   ·rename_i a b ha hb
    split at h
    ·rename_i r1 s1 h1 h2
     cases h
     simp only [Sem.run_bind,part_run ha,part_run hb,Result.andThen_ok,ih f.type a b r1 h1]
     cases r1 with
     | true=>simpa using eqFs_of xs ys fs s1 h2
     | false=>simp
    ·cases h
   ·cases h
  ·rename_i hn
   rw [if_neg hn]
   exact eqFs_of xs ys fs r h
theorem eqAs_of (elem:TypeId) (n:Nat) (xs ys:Array Value):∀ (m i:Nat) (r:Bool),eqAs P (eqV P d) elem n xs ys m i=some r →
  ((forIn (List.range' i m) (none,()) (fun i _=>do
   if !(← Op.equalIn d elem (← part elem xs (i*n)) (← part elem ys (i*n))) then pure (ForInStep.done (some false,())) else pure (ForInStep.yield (none,()))):Sem (Option Bool×Unit))).run P w=.ok (if r then none else some false,()) w
 | 0,_,r,h=>by simp [eqAs] at h;subst h;simp
 | m+1,i,r,h=>by
  unfold eqAs at h
  split at h
  ·rename_i a b ha hb
   split at h
   ·rename_i r1 s1 h1 h2
    cases h
    rw [List.range'_succ]
    simp only [List.forIn_cons,Sem.run_bind,part_run ha,part_run hb,Result.andThen_ok,ih elem a b r1 h1]
    cases r1 with
    | true=>simpa using eqAs_of elem n xs ys m (i+1) s1 h2
    | false=>simp
   ·cases h
  ·cases h
end
theorem eqV_run {P:Program} {w:World}:∀ (d:Nat) (t:TypeId) (x y:Value) (r:Bool),eqV P d t x y=some r→(Op.equalIn d t x y).run P w=.ok r w:=by
 intro d
 induction d with
 | zero=>intro t x y r h;simp [eqV] at h
 | succ d ih =>
  intro t x y r h
  unfold eqV at h
  split at h
  case h_16 =>
   rename_i fields xs ys hu
   split at h
   ·rename_i hp
    have hfs:P.fieldsOf t=fields:=by simp [Program.fieldsOf,hu]
    rw [run_equalIn_struct w d t xs ys (by rw [hfs];exact hu) hp,hfs]
    exact eqFs_of ih xs ys fields.toList r h
   ·cases h
  case h_17 =>
   rename_i len elem xs ys hu
   split at h
   ·rename_i n hn
    have:=eqAs_of (w:=w) ih elem n xs ys len 0 r h
    simp only [Op.equalIn,Sem.run_bind,under_run hu,Result.andThen_ok,sizeOf_run hn]
    simp at this ⊢
    rw [this]
    cases r <;> simp
   ·cases h
  case h_2 =>
   rename_i hu
   split at h
   ·rename_i hk;cases h;simp [Op.equalIn,under_run hu,hk]
   ·cases h
  case h_18=>cases h
  all_goals (rename_i hu;cases h;simp [Op.equalIn,under_run hu,beq_toListBytes])
end Go.Mid
