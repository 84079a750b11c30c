/-
  THE MIDDLE LAYER, PART ONE: a partial heap, what a world owes to it, the model's own operations run over it, and calls over it. Generic in the program; nothing of a dump here.
-/
import Derived.Orders
import Derived.Below
import Derived.OrdersIn
import Derived.ControlIn
import Derived.RangeFuncRecord
import Derived.RangeFuncCalls
set_option linter.unusedSimpArgs false
set_option linter.unusedVariables false
set_option maxHeartbeats 8000000
set_option maxRecDepth 10000
set_option linter.unusedSimpArgs false
set_option linter.unusedVariables false
namespace Go.Mid
open Go Go.RowKit
abbrev Hp:=Nat→Option Obj
def Hp.set (h:Hp) (b:Nat) (o:Obj):Hp:=fun c=>if c=b then some o else h c
def Hp.cell? (h:Hp) (a:Addr):Option Value :=
 match h a.block with
 | some (.cells c _ _)=>if a.spot.isSome then none else c[a.off]?
 | _=>none
def Hp.frozen? (h:Hp) (a:Addr):Bool :=
 match h a.block with
 | some (.cells _ _ (lo,hi))=>lo≤a.off && a.off<hi
 | _=>false
def Hp.setCell (h:Hp) (a:Addr) (v:Value):Hp :=
 match h a.block with
 | some (.cells c e f)=>h.set a.block (.cells (if a.spot.isSome then c else c.setIfInBounds a.off v) e f)
 | _=>h
def Hp.freeze (h:Hp) (a:Addr) (n:Nat):Hp :=
 match h a.block with
 | some (.cells c e (lo,hi))=>h.set a.block (.cells c e (if lo==hi then (a.off,a.off+n) else (min lo a.off,max hi (a.off+n))))
 | _=>h
def Hp.le (h h':Hp):Prop:=∀ b o,h b=some o→h' b=some o
theorem Hp.le_refl (h:Hp):h.le h:=fun _ _ x=>x
theorem Hp.le_trans {a b c:Hp} (x:a.le b) (y:b.le c):a.le c:=fun k o e=>y k o (x k o e)
theorem Hp.le_set {h:Hp} {b:Nat} {o:Obj} (hb:h b=none):h.le (h.set b o):=fun c x e=>by
 unfold Hp.set;split
 ·rename_i hc;rw [hc,hb] at e;cases e
 ·exact e
theorem Hp.set_same (h:Hp) (b:Nat) (o:Obj):(h.set b o) b=some o:=by simp [Hp.set]
theorem Hp.set_other (h:Hp) {b c:Nat} (o:Obj) (hc:c≠b):(h.set b o) c=h c:=by simp [Hp.set,hc]
structure Sat (w0:World) (h:Hp) (w:World):Prop where
 os:w.os=w0.os
 tape:w.tape=w0.tape
 output:w.output=w0.output
 size:w0.heap.size≤w.heap.size
 known:∀ b o,h b=some o→w.heap[b]? = some o
structure Ext (w0:World) (h:Hp) (w:World) (h':Hp) (w':World):Prop where
 sat:Sat w0 h' w'
 grow:w.heap.size≤w'.heap.size
 priv:∀ b,b<w.heap.size→h b=none→w'.heap[b]? = w.heap[b]? ∧ h' b=none
theorem Sat.lt {w0:World} {h:Hp} {w:World} (s:Sat w0 h w) {b:Nat} {o:Obj} (e:h b=some o):b<w.heap.size:=by
 have:=s.known b o e
 exact (Array.getElem?_eq_some_iff.1 this).1
theorem Sat.fresh {w0:World} {h:Hp} {w:World} (s:Sat w0 h w):h w.heap.size=none:=by
 cases e:h w.heap.size with
 | none=>rfl
 | some o=>exact absurd (s.lt e) (Nat.lt_irrefl _)
theorem Ext.refl {w0:World} {h:Hp} {w:World} (s:Sat w0 h w):Ext w0 h w h w:=⟨s,Nat.le_refl _,fun _ _ e=>⟨rfl,e⟩⟩
theorem Ext.trans {w0:World} {h h1 h2:Hp} {w w1 w2:World} (a:Ext w0 h w h1 w1) (b:Ext w0 h1 w1 h2 w2):Ext w0 h w h2 w2 :=
 ⟨b.sat,Nat.le_trans a.grow b.grow,fun k hk e=>by
  obtain ⟨e1,n1⟩:=a.priv k hk e
  obtain ⟨e2,n2⟩:=b.priv k (Nat.lt_of_lt_of_le hk a.grow) n1
  exact ⟨e2.trans e1,n2⟩⟩
theorem Ext.forget {w0:World} {h h1 h2:Hp} {w w1:World} (a:Ext w0 h w h1 w1) (hle:h2.le h1):Ext w0 h w h2 w1 :=
 ⟨⟨a.sat.os,a.sat.tape,a.sat.output,a.sat.size,fun b o e=>a.sat.known b o (hle b o e)⟩,a.grow,fun k hk e=>by
  obtain ⟨e1,n1⟩:=a.priv k hk e
  refine ⟨e1,?_⟩
  cases hh:h2 k with
  | none=>rfl
  | some o=>rw [hle k o hh] at n1;cases n1⟩
def mid {α:Type} (P:Program):Sem α→Hp→(α→Hp→Prop)→Prop
 | .pure a,h,K=>K a h
 | .load _ a k,h,K=>match h.cell? a with
  | some v=>mid P (k v) h K
  | none=>False
 | .store _ a v k,h,K=>v.oneCell'=true∧match h.cell? a with
  | some _=>h.frozen? a=false∧mid P k (h.setCell a v) K
  | none=>False
 | .new o k,h,K=>∀ b,h b=none→mid P (k b) (h.set b o) K
 | .shape r k,h,K=>match h r with
  | some (.cells c e _)=>mid P (k (some (e,c.size))) h K
  | some _=>mid P (k none) h K
  | none=>False
 | .freeze a n k,h,K=>if n=0 then mid P k h K else match h a.block with
  | some (.cells ..)=>mid P k (h.freeze a n) K
  | _=>False
 | .frozen a k,h,K=>match h a.block with
  | some _=>mid P (k (h.frozen? a)) h K
  | none=>False
 | .getObj r k,h,K=>match h r with
  | some (.cells ..)=>False
  | some o=>mid P (k o) h K
  | none=>False
 | .setObj r o k,h,K=>match h r with
  | some (.cells ..)=>False
  | some _=>mid P k (h.set r o) K
  | none=>False
 | .choose q k,h,K=>if q.forced then mid P (k 0) h K else ∀ t,mid P (k (q.cut t)) h K
 | .sys _ _,_,_=>False
 | .program k,h,K=>mid P (k P) h K
 | .mark _ k,h,K=>mid P k h K
 | .halt _,_,_=>False
theorem mid_mono {α:Type} {P:Program} (s:Sem α):∀ {h:Hp} {K K':α→Hp→Prop},(∀ a h,K a h→K' a h)→mid P s h K→mid P s h K':=by
 induction s with
 | pure a=>intro h K K' hk hm;exact hk _ _ hm
 | load m a k ih=>intro h K K' hk hm;simp only [mid] at *;split at hm <;> first | exact ih _ hk hm | exact hm
 | store m a v k ih =>
  intro h K K' hk hm;simp only [mid] at *
  refine ⟨hm.1,?_⟩
  have hm:=hm.2
  split at hm <;> first | exact ⟨hm.1,ih hk hm.2⟩ | exact hm
 | new o k ih=>intro h K K' hk hm b hb;exact ih b hk (hm b hb)
 | shape r k ih=>intro h K K' hk hm;simp only [mid] at *;split at hm <;> first | exact ih _ hk hm | exact hm
 | freeze a n k ih =>
  intro h K K' hk hm;simp only [mid] at *
  by_cases hn:n=0
  ·rw [if_pos hn] at *;exact ih hk hm
  ·rw [if_neg hn] at *;split at hm <;> first | exact ih hk hm | exact hm
 | frozen a k ih=>intro h K K' hk hm;simp only [mid] at *;split at hm <;> first | exact ih _ hk hm | exact hm
 | getObj r k ih=>intro h K K' hk hm;simp only [mid] at *;split at hm <;> first | exact ih _ hk hm | exact hm
 | setObj r o k ih=>intro h K K' hk hm;simp only [mid] at *;split at hm <;> first | exact ih hk hm | exact hm
 | choose q k ih =>
  intro h K K' hk hm;simp only [mid] at *
  by_cases hq:q.forced=true
  ·rw [if_pos hq] at *;exact ih _ hk hm
  ·rw [if_neg hq] at *;exact fun t=>ih _ hk (hm t)
 | sys c k ih=>intro h K K' hk hm;exact hm
 | program k ih=>intro h K K' hk hm;exact ih _ hk hm
 | mark m k ih=>intro h K K' hk hm;exact ih hk hm
 | halt x=>intro h K K' hk hm;exact hm
section
variable {w0 w:World} {h:Hp}
theorem Sat.cell (s:Sat w0 h w) {a:Addr} {v:Value} (e:h.cell? a=some v):w.cell? a=some v:=by
 unfold Hp.cell? at e
 split at e
 ·rename_i c el f hb
  simp only [World.cell?,s.known _ _ hb]
  exact e
 ·cases e
theorem Sat.frozen (s:Sat w0 h w) {a:Addr} {o:Obj} (e:h a.block=some o):w.frozen? a=h.frozen? a:=by
 simp only [World.frozen?,Hp.frozen?,s.known _ _ e,e]
 cases o <;> rfl
theorem cell_block {a:Addr} {v:Value} (e:h.cell? a=some v):∃ c el f,h a.block=some (.cells c el f):=by
 unfold Hp.cell? at e
 split at e
 ·rename_i c el f hb;exact ⟨c,el,f,hb⟩
 ·cases e
theorem Ext.put (s:Sat w0 h w) {b:Nat} {o o':Obj} {w':World} (hb:h b=some o) (hos:w'.os=w.os) (htape:w'.tape=w.tape) (hout:w'.output=w.output)
  (hsize:w'.heap.size=w.heap.size) (hthis:w'.heap[b]? = some o') (hother:∀ k,k≠b→w'.heap[k]? = w.heap[k]?):Ext w0 h w (h.set b o') w' :=
 ⟨⟨hos.trans s.os,htape.trans s.tape,hout.trans s.output,by have:=s.size;omega,fun k x e=>by
   unfold Hp.set at e
   split at e
   ·rename_i hk;cases e;rw [hk];exact hthis
   ·rename_i hk;rw [hother k hk];exact s.known k x e⟩,by omega,fun k hk e=>by
   have hne:k≠b:=fun x=>by rw [x,hb] at e;cases e
   exact ⟨hother k hne,by rw [Hp.set_other _ _ hne];exact e⟩⟩
end
theorem mid_sound {α:Type} {P:Program} {w0:World} (s:Sem α):∀ {h:Hp} {K:α→Hp→Prop} {w:World},mid P s h K→Sat w0 h w →
  ∃ a h' w',s.run P w=.ok a w'∧Ext w0 h w h' w'∧K a h':=by
 induction s with
 | pure a=>intro h K w hm hs;exact ⟨a,h,w,rfl,Ext.refl hs,hm⟩
 | load m a k ih =>
  intro h K w hm hs
  simp only [mid] at hm
  split at hm
  ·rename_i v hv
   obtain ⟨x,h',w',hr,he,hk⟩:=ih v hm hs
   exact ⟨x,h',w',by simp only [Sem.run,hs.cell hv];exact hr,he,hk⟩
  ·exact hm.elim
 | store m a v k ih =>
  intro h K w hm hs
  simp only [mid] at hm
  obtain ⟨hv,hm⟩:=hm
  split at hm
  ·rename_i u hu
   obtain ⟨hf,hm⟩:=hm
   obtain ⟨c,el,f,hb⟩:=cell_block hu
   have hwb:=hs.known _ _ hb
   have hfz:w.frozen? a=false:=by rw [hs.frozen hb];exact hf
   have hstep:Ext w0 h w (h.setCell a v) (w.setCell a v):=by
    unfold Hp.setCell
    rw [hb]
    refine Ext.put hs hb rfl rfl rfl (by simp [World.setCell]) ?_ ?_
    ·simp only [World.setCell,Array.getElem?_modify,if_true,hwb,Option.map_some]
    ·intro k hk
     simp only [World.setCell,Array.getElem?_modify]
     rw [if_neg (fun e=>hk e.symm)]
   obtain ⟨x,h',w',hr,he,hk⟩:=ih hm hstep.sat
   refine ⟨x,h',w',?_,hstep.trans he,hk⟩
   have hcell:=hs.cell hu
   cases v <;> first
    | (simp [Value.oneCell'] at hv;done)
    | (simp only [Sem.run,hcell,hfz,Bool.false_eq_true,if_false];exact hr)
  ·exact hm.elim
 | new o k ih =>
  intro h K w hm hs
  have hm:=hm w.heap.size hs.fresh
  have hstep:Ext w0 h w (h.set w.heap.size o) (w.alloc o) :=
   ⟨⟨hs.os,hs.tape,hs.output,by have:=hs.size;simp;omega,fun b x e=>by
     unfold Hp.set at e
     split at e
     ·rename_i hb;cases e;subst hb;show (w.heap.push o)[w.heap.size]? = some o;simp
     ·rw [Below.heap_alloc _ _ _ (hs.lt e)];exact hs.known b x e⟩,by simp,fun b hb e =>
     ⟨Below.heap_alloc _ _ _ hb,by rw [Hp.set_other _ _ (by omega)];exact e⟩⟩
  obtain ⟨x,h',w',hr,he,hk⟩:=ih _ hm hstep.sat
  exact ⟨x,h',w',by simp only [Sem.run];exact hr,hstep.trans he,hk⟩
 | shape r k ih =>
  intro h K w hm hs
  simp only [mid] at hm
  have go:∀ y,w.shape? r=y→mid P (k y) h K→∃ a h' w',(Sem.shape r k).run P w=.ok a w'∧Ext w0 h w h' w'∧K a h':=fun y hy hm=>by
   obtain ⟨x,h',w',hr,he,hk⟩:=ih y hm hs
   exact ⟨x,h',w',by simp only [Sem.run,hy];exact hr,he,hk⟩
  cases hb:h r with
  | none=>rw [hb] at hm;exact hm.elim
  | some o =>
   rw [hb] at hm
   have hw:=hs.known _ _ hb
   cases o <;> exact go _ (by simp only [World.shape?,hw]) hm
 | freeze a n k ih =>
  intro h K w hm hs
  simp only [mid] at hm
  split at hm
  ·rename_i hn
   obtain ⟨x,h',w',hr,he,hk⟩:=ih hm hs
   exact ⟨x,h',w',by simp only [Sem.run,World.freeze,hn,if_true];exact hr,he,hk⟩
  ·rename_i hn
   split at hm
   ·rename_i c el f hb
    have hwb:=hs.known _ _ hb
    obtain ⟨lo,hi⟩:=f
    have hstep:Ext w0 h w (h.freeze a n) (w.freeze a n):=by
     unfold Hp.freeze World.freeze
     rw [hb]
     simp only [hn,if_false]
     refine Ext.put hs hb rfl rfl rfl (by simp) ?_ ?_
     ·simp only [Array.getElem?_modify,if_true,hwb,Option.map_some]
     ·intro k hk
      simp only [Array.getElem?_modify]
      rw [if_neg (fun e=>hk e.symm)]
    obtain ⟨x,h',w',hr,he,hk⟩:=ih hm hstep.sat
    exact ⟨x,h',w',by simp only [Sem.run];exact hr,hstep.trans he,hk⟩
   ·exact hm.elim
 | frozen a k ih =>
  intro h K w hm hs
  simp only [mid] at hm
  split at hm
  ·rename_i o hb
   obtain ⟨x,h',w',hr,he,hk⟩:=ih _ hm hs
   exact ⟨x,h',w',by simp only [Sem.run,hs.frozen hb];exact hr,he,hk⟩
  ·exact hm.elim
 | getObj r k ih =>
  intro h K w hm hs
  simp only [mid] at hm
  cases hb:h r with
  | none=>rw [hb] at hm;exact hm.elim
  | some o =>
   rw [hb] at hm
   have hw:=hs.known _ _ hb
   cases o with
   | cells c e f=>exact hm.elim
   | _ =>
    obtain ⟨x,h',w',hr,he,hk⟩:=ih _ hm hs
    exact ⟨x,h',w',by simp only [Sem.run,hw];exact hr,he,hk⟩
 | setObj r o k ih =>
  intro h K w hm hs
  simp only [mid] at hm
  cases hb:h r with
  | none=>rw [hb] at hm;exact hm.elim
  | some o' =>
   rw [hb] at hm
   have hw:=hs.known _ _ hb
   have hlt:=hs.lt hb
   have hstep:Ext w0 h w (h.set r o) { w with heap:=w.heap.setIfInBounds r o } :=
    Ext.put hs hb rfl rfl rfl (by simp) (by simp [hlt]) (fun k hk=>by simp [Array.getElem?_setIfInBounds_ne (Ne.symm hk)])
   cases o' with
   | cells c e f=>exact hm.elim
   | _ =>
    obtain ⟨x,h',w',hr,he,hk⟩:=ih hm hstep.sat
    exact ⟨x,h',w',by simp only [Sem.run,hw];exact hr,hstep.trans he,hk⟩
 | choose q k ih =>
  intro h K w hm hs
  simp only [mid] at hm
  split at hm
  ·rename_i hq
   obtain ⟨x,h',w',hr,he,hk⟩:=ih _ hm hs
   exact ⟨x,h',w',by simp only [Sem.run,hq,if_true];exact hr,he,hk⟩
  ·rename_i hq
   have hs':Sat w0 h { w with drawn:=w.drawn+1 }:=⟨hs.os,hs.tape,hs.output,hs.size,hs.known⟩
   obtain ⟨x,h',w',hr,he,hk⟩:=ih _ (hm (w.tape w.drawn q)) hs'
   exact ⟨x,h',w',by simp only [Sem.run,hq];exact hr,⟨he.sat,he.grow,he.priv⟩,hk⟩
 | sys c k ih=>intro h K w hm hs;exact hm.elim
 | program k ih =>
  intro h K w hm hs
  obtain ⟨x,h',w',hr,he,hk⟩:=ih _ hm hs
  exact ⟨x,h',w',by simp only [Sem.run];exact hr,he,hk⟩
 | mark m k ih =>
  intro h K w hm hs
  obtain ⟨x,h',w',hr,he,hk⟩:=ih hm hs
  exact ⟨x,h',w',by simp only [Sem.run];exact hr,he,hk⟩
 | halt x=>intro h K w hm hs;exact hm.elim
structure X (P:Program) (f:FuncId) (args:Array Value) (h:Hp) (K:Value→Hp→Prop):Prop where
 go:∀ w0 w,Sat w0 h w→Calls P f args w fun e w'=>∃ v h',e=.returned v∧Ext w0 h w h' w'∧K v h'
theorem X.mono {P:Program} {f:FuncId} {args:Array Value} {h:Hp} {K K':Value→Hp→Prop} (x:X P f args h K) (hk:∀ v h,K v h→K' v h):X P f args h K' :=
 ⟨fun w0 w s=>(x.go w0 w s).mono fun _ _ ⟨v,h',he,hx,k⟩=>⟨v,h',he,hx,hk _ _ k⟩⟩
theorem X.forget {P:Program} {f:FuncId} {args:Array Value} {h:Hp} {K:Value→Hp→Prop} (x:X P f args h fun v h'=>∃ h2,h2.le h'∧K v h2):X P f args h K :=
 ⟨fun w0 w s=>(x.go w0 w s).mono fun _ _ ⟨v,_,he,hx,h2,hle,k⟩=>⟨v,h2,he,hx.forget hle,k⟩⟩
def FW (r:Option Nat):Fence:={ Fence.wide with round:=r }
theorem calls_FW {r:Option Nat} {n:Nat} {P:Program} {f:FuncId} {args:Array Value} {w:World} {R:Ending→World→Prop} (h:Calls P f args w R):CallsIn (FW r) n P f args w R :=
 ⟨trivial,fun cs _=>(callsIn_wide (n:=n)).2 h |>.2 cs (room_wide _)⟩
structure XR (P:Program) (l:Nat) (f:FuncId) (tmps:Array Value) (asg body:Code) (h:Hp) (K:Value→Hp→Prop):Prop where
 go:∀ w0 w,Sat w0 h w→RoundIn Fence.wide 0 P l f tmps asg body w fun e w'=>∃ v h',e=.returned v∧Ext w0 h w h' w'∧K v h'
theorem round_FW {r:Option Nat} {n:Nat} {P:Program} {l:Nat} {f:FuncId} {tmps:Array Value} {asg body:Code} {w:World} {R:Ending→World→Prop} (h:RoundIn Fence.wide 0 P l f tmps asg body w R):RoundIn (FW r) n P l f tmps asg body w R :=
 ⟨trivial,fun c cs _=>h.2 c cs (room_wide _)⟩
theorem XR.mono {P:Program} {l:Nat} {f:FuncId} {tmps:Array Value} {asg body:Code} {h:Hp} {K K':Value→Hp→Prop} (x:XR P l f tmps asg body h K) (hk:∀ v h,K v h→K' v h):XR P l f tmps asg body h K' :=
 ⟨fun w0 w s=>(x.go w0 w s).mono fun _ _ ⟨v,h',he,hx,k⟩=>⟨v,h',he,hx,hk _ _ k⟩⟩
theorem mid_bind {α β:Type} {P:Program} (s:Sem α) (f:α→Sem β):∀ (h:Hp) (K:β→Hp→Prop),mid P (s >>= f) h K↔mid P s h fun a g=>mid P (f a) g K:=by
 show ∀ (h:Hp) (K:β→Hp→Prop),mid P (s.bind f) h K↔_
 induction s with
 | pure a=>intro h K;exact Iff.rfl
 | load m a k ih=>intro h K;simp only [Sem.bind,mid];split <;> first | exact ih _ _ _ | exact Iff.rfl
 | store m a v k ih=>intro h K;simp only [Sem.bind,mid];refine and_congr_right fun _=>?_;split <;> first | exact and_congr_right fun _=>ih _ _ | exact Iff.rfl
 | new o k ih=>intro h K;simp only [Sem.bind,mid];exact forall_congr' fun b=>imp_congr_right fun _=>ih _ _ _
 | shape r k ih=>intro h K;simp only [Sem.bind,mid];split <;> first | exact ih _ _ _ | exact Iff.rfl
 | freeze a n k ih=>intro h K;simp only [Sem.bind,mid];(repeat' split) <;> first | exact ih _ _ | exact Iff.rfl
 | frozen a k ih=>intro h K;simp only [Sem.bind,mid];split <;> first | exact ih _ _ _ | exact Iff.rfl
 | getObj r k ih=>intro h K;simp only [Sem.bind,mid];split <;> first | exact ih _ _ _ | exact Iff.rfl
 | setObj r o k ih=>intro h K;simp only [Sem.bind,mid];split <;> first | exact ih _ _ | exact Iff.rfl
 | choose q k ih=>intro h K;simp only [Sem.bind,mid];split <;> first | exact ih _ _ _ | exact forall_congr' fun t=>ih _ _ _
 | sys c k ih=>intro h K;exact Iff.rfl
 | program k ih=>intro h K;exact ih _ _ _
 | mark m k ih=>intro h K;exact ih _ _
 | halt x=>intro h K;exact Iff.rfl
end Go.Mid
