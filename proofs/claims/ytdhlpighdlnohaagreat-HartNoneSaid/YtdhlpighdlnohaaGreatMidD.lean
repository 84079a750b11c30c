/-
  THE MIDDLE LAYER, PART FOUR: regions. In the order of the text; and, where the order is drawn: what is shown of the order of the text holds of every order.
-/
import Derived.Test.YtdhlpighdlnohaaGreatMidC
set_option linter.unusedSimpArgs false
set_option linter.unusedVariables false
set_option maxHeartbeats 8000000
set_option maxRecDepth 10000
set_option linter.unusedSimpArgs false
set_option linter.unusedVariables false
namespace Go.Mid
open Go Go.RowKit
def wantM (ops:Array Oper) (o:Oper) (e:ME):Option Bool :=
 match o.guard with
 | none=>some true
 | some (j,want)=>match (ops[j]?).bind (·.dst) with
  | some d=>match e.env d with
   | .v (.bool b)=>some (b==want)
   | .v _=>some false
   | .ref _=>some false
   | .junk=>none
  | none=>some false
def planG (P:Program) (rf:RF) (ops:Array Oper) (o:Oper) (e:ME):Option Plan :=
 match wantM ops o e with
 | some b=>if b then plan P rf o e else some (.upd (dstU o.dst (.v undef)))
 | none=>none
def mlist (P:Program) (rf:RF) (ops:Array Oper):List Oper→ME→Hp→(ME→Hp→Prop)→Prop
 | [],e,h,K=>K e h
 | o :: rest,e,h,K=>run1 P rf o (planG P rf ops o e) e h fun e' h'=>mlist P rf ops rest e' h' K
def rdv {α:Type} (P:Program) (h:Hp):Sem α→Option α
 | .pure a=>some a
 | .load _ a k=>match h.cell? a with
  | some v=>rdv P h (k v)
  | none=>none
 | .shape r k=>match h r with
  | some (.cells c e _)=>rdv P h (k (some (e,c.size)))
  | some _=>rdv P h (k none)
  | none=>none
 | .frozen a k=>match h a.block with
  | some _=>rdv P h (k (h.frozen? a))
  | none=>none
 | .getObj r k=>match h r with
  | some (.cells ..)=>none
  | some o=>rdv P h (k o)
  | none=>none
 | .choose q k=>if q.forced then rdv P h (k 0) else none
 | .program k=>rdv P h (k P)
 | .mark _ k=>rdv P h k
 | _=>none
inductive Cl where
 | a | b | c | d | n | e
 deriving DecidableEq
def noHp:Hp:=fun _=>none
def updA (P:Program) (o:Oper) (pl:Option Plan):Option Upd :=
 match pl with
 | some (.upd u)=>some u
 | some (.act (.sem s))=>match rdv P noHp s with
  | some (.value v)=>some (dstU o.dst (.v v))
  | some .skip=>some (dstU o.dst (.v undef))
  | _=>none
 | _=>none
def runB (P:Program) (o:Oper) (pl:Option Plan) (h:Hp) (K:Upd→Prop):Prop :=
 match pl with
 | some (.upd u)=>K u
 | some (.act (.rd f))=>match f h with
  | some v=>K (dstU o.dst (.v v))
  | none=>False
 | some (.act (.call g args))=>∃ v,X P g args.toArray h (fun v' h'=>v'=v∧h'=h)∧K (dstU o.dst (.v v))
 | some (.act (.sem s))=>match rdv P h s with
  | some (.value v)=>K (dstU o.dst (.v v))
  | some .skip=>K (dstU o.dst (.v undef))
  | some (.enter f args)=>∃ v,X P f args h (fun v' h'=>v'=v∧h'=h)∧K (dstU o.dst (.v v))
  | _=>False
 | _=>False
def runD (_:Program) (Inv:Hp→Prop) (o:Oper) (pl:Option Plan) (K:Upd→Prop):Prop :=
 match pl with
 | some (.upd u)=>K u
 | some (.act (.rd f))=>∃ v,(∀ h,Inv h→f h=some v)∧K (dstU o.dst (.v v))
 | _=>False
def isNw:Option Plan→Bool
 | some (.upd _)=>true
 | some (.act (.nw _ _))=>true
 | _=>false
def UpInv (Inv:Hp→Prop):Prop:=∀ h h':Hp,Inv h→h.le h'→Inv h'
def mrun (P:Program) (rf:RF) (Inv:Hp→Prop) (cl:Cl) (o:Oper) (pl:Option Plan) (e:ME) (h:Hp) (K:ME→Hp→Prop):Prop :=
 match cl with
 | .a=>match updA P o pl with
  | some u=>K (u.app rf e) h
  | none=>False
 | .b=>runB P o pl h fun u=>K (u.app rf e) h
 | .c=>run1 P rf o pl e h fun e' h'=>Inv h'∧K e' h'
 | .d=>runD P Inv o pl fun u=>K (u.app rf e) h
 | .n=>isNw pl=true∧run1 P rf o pl e h K
 | .e=>run1 P rf o pl e h K
def mdraw (P:Program) (rf:RF) (Inv:Hp→Prop) (cl:Oper→Cl) (ops:Array Oper):List Oper→ME→Hp→(ME→Hp→Prop)→Prop
 | [],e,h,K=>K e h
 | o :: rest,e,h,K=>mrun P rf Inv (cl o) o (planG P rf ops o e) e h fun e' h'=>mdraw P rf Inv cl ops rest e' h' K
theorem fin_mono {P:Program} {nx:Next} {h:Hp} {K K':Value→Hp→Prop} (hk:∀ v h,K v h→K' v h) (hf:fin P nx h K):fin P nx h K':=by
 cases nx <;> first | exact hk _ _ hf | exact X.mono hf hk | exact XR.mono hf hk | exact hf
theorem aRun_mono {P:Program} {A:Action} {h:Hp} {K K':Value→Hp→Prop} (hk:∀ v h,K v h→K' v h) (hr:aRun P A h K):aRun P A h K':=by
 cases A with
 | sem s=>exact mid_mono s (fun _ _=>fin_mono hk) hr
 | rd f=>simp only [aRun] at *;split at hr <;> first | exact hk _ _ hr | exact hr
 | wr f=>simp only [aRun] at *;split at hr <;> first | exact hk _ _ hr | exact hr
 | nw o v=>exact fun b hb=>hk _ _ (hr b hb)
 | call g args=>exact X.mono hr hk
 | io f=>simp only [aRun] at *;split at hr <;> first | exact hk _ _ hr | exact hr
theorem run1_mono {P:Program} {rf:RF} {o:Oper} {pl:Option Plan} {e:ME} {h:Hp} {K K':ME→Hp→Prop} (hk:∀ e h,K e h→K' e h) (hr:run1 P rf o pl e h K):run1 P rf o pl e h K':=by
 unfold run1 at *
 split
 ·exact hk _ _ hr
 ·exact aRun_mono (fun _ _=>hk _ _) hr
 ·exact hr
theorem mlist_mono {P:Program} {rf:RF} {ops:Array Oper} {K K':ME→Hp→Prop} (hk:∀ e h,K e h→K' e h):∀ (l:List Oper) (e:ME) (h:Hp),mlist P rf ops l e h K→mlist P rf ops l e h K'
 | [],_,_,hr=>hk _ _ hr
 | _ :: rest,_,_,hr=>run1_mono (fun _ _=>mlist_mono hk rest _ _) hr
section
variable {P:Program}
theorem Hp.le_cell {h h':Hp} (hle:h.le h') {a:Addr} {v:Value} (e:h.cell? a=some v):h'.cell? a=some v:=by
 obtain ⟨c,el,f,hb⟩:=cell_block e
 unfold Hp.cell? at *
 rw [hle _ _ hb];rw [hb] at e;exact e
theorem rdv_mid {α:Type} {h h':Hp} (hle:h.le h') (s:Sem α):∀ {x:α},rdv P h s=some x→∀ {K:α→Hp→Prop},K x h'→mid P s h' K:=by
 induction s with
 | pure a=>intro x hx K hk;cases hx;exact hk
 | load m a k ih =>
  intro x hx K hk;simp only [rdv] at hx;simp only [mid]
  split at hx
  ·rename_i v hv;rw [Hp.le_cell hle hv];exact ih _ hx hk
  ·cases hx
 | shape r k ih =>
  intro x hx K hk;simp only [rdv] at hx;simp only [mid]
  cases hb:h r with
  | none=>rw [hb] at hx;cases hx
  | some o =>
   rw [hb] at hx;rw [hle _ _ hb]
   cases o <;> exact ih _ hx hk
 | frozen a k ih =>
  intro x hx K hk;simp only [rdv] at hx;simp only [mid]
  cases hb:h a.block with
  | none=>rw [hb] at hx;cases hx
  | some o =>
   rw [hb] at hx;rw [hle _ _ hb]
   have:h'.frozen? a=h.frozen? a:=by unfold Hp.frozen?;rw [hb,hle _ _ hb]
   rw [this]
   exact ih _ hx hk
 | getObj r k ih =>
  intro x hx K hk;simp only [rdv] at hx;simp only [mid]
  cases hb:h r with
  | none=>rw [hb] at hx;cases hx
  | some o =>
   rw [hb] at hx;rw [hle _ _ hb]
   cases o <;> first | (cases hx;done) | exact ih _ hx hk
 | choose q k ih =>
  intro x hx K hk;simp only [rdv] at hx;simp only [mid]
  split at hx
  ·rename_i hq;rw [if_pos hq];exact ih _ hx hk
  ·cases hx
 | program k ih=>intro x hx K hk;exact ih _ hx hk
 | mark m k ih=>intro x hx K hk;exact ih hx hk
 | _=>intro x hx K hk;cases hx
theorem noHp_le (h:Hp):noHp.le h:=fun _ _ e=>by cases e
theorem updA_run1 {rf:RF} {o:Oper} {pl:Option Plan} {e:ME} {h:Hp} {u:Upd} (hu:updA P o pl=some u) {K:ME→Hp→Prop} (hk:K (u.app rf e) h):run1 P rf o pl e h K:=by
 unfold updA at hu
 unfold run1
 split at hu
 ·cases hu;exact hk
 ·rename_i s
  split at hu
  ·rename_i v hv;cases hu;exact rdv_mid (noHp_le h) s hv hk
  ·rename_i hv;cases hu;exact rdv_mid (noHp_le h) s hv hk
  ·cases hu
 ·cases hu
theorem runB_spec {o:Oper} {pl:Option Plan} {h:Hp} {K:Upd→Prop} (hr:runB P o pl h K):∃ u,K u∧(∀ {K':Upd→Prop},K' u→runB P o pl h K') ∧
  (∀ {rf:RF} {e:ME} {K':ME→Hp→Prop},K' (u.app rf e) h→run1 P rf o pl e h K')∧(∀ A,pl=some (.act A)→∃ v,u=dstU o.dst (.v v))∧∀ u',pl=some (.upd u')→u=u':=by
 unfold runB at *
 unfold run1
 split at hr
 ·rename_i u
  exact ⟨u,hr,fun k=>k,fun k=>k,fun s hs=>(by cases hs),fun u' hu=>(by cases hu;rfl)⟩
 ·rename_i f
  split at hr
  ·rename_i v hv
   exact ⟨_,hr,fun k=>k,fun k=>(by simp only [aRun,hv];exact k),fun _ _=>⟨v,rfl⟩,fun u' hu=>(by cases hu)⟩
  ·exact hr.elim
 ·rename_i g args
  obtain ⟨v,hx,hk⟩:=hr
  refine ⟨_,hk,fun k=>⟨v,hx,k⟩,fun {rf e K'} k=>?_,fun _ _=>⟨v,rfl⟩,fun u' hu=>(by cases hu)⟩
  exact X.mono hx fun v' h' ⟨e1,e2⟩=>by subst e1;subst e2;exact k
 ·rename_i s
  split at hr
  ·rename_i v hv
   exact ⟨_,hr,fun k=>k,fun k=>rdv_mid (Hp.le_refl h) s hv k,fun _ _=>⟨v,rfl⟩,fun u' hu=>(by cases hu)⟩
  ·rename_i hv
   exact ⟨_,hr,fun k=>k,fun k=>rdv_mid (Hp.le_refl h) s hv k,fun _ _=>⟨undef,rfl⟩,fun u' hu=>(by cases hu)⟩
  ·rename_i f args hv
   obtain ⟨v,hx,hk⟩:=hr
   refine ⟨_,hk,fun k=>⟨v,hx,k⟩,fun {rf e K'} k=>rdv_mid (Hp.le_refl h) s hv ?_,fun _ _=>⟨v,rfl⟩,fun u' hu=>(by cases hu)⟩
   exact X.mono hx fun v' h' ⟨e1,e2⟩=>by subst e1;subst e2;exact k
  ·exact hr.elim
 ·exact hr.elim
theorem updA_spec {o:Oper} {pl:Option Plan} {u:Upd} (hu:updA P o pl=some u):(∀ A,pl=some (.act A)→∃ v,u=dstU o.dst (.v v))∧∀ u',pl=some (.upd u')→u=u':=by
 unfold updA at hu
 split at hu
 ·cases hu;exact ⟨fun s hs=>(by cases hs),fun u' hu=>(by cases hu;rfl)⟩
 ·refine ⟨fun _ _=>?_,fun u' hu=>(by cases hu)⟩
  split at hu
  ·cases hu;exact ⟨_,rfl⟩
  ·cases hu;exact ⟨_,rfl⟩
  ·cases hu
 ·cases hu
theorem runD_spec {Inv:Hp→Prop} {o:Oper} {pl:Option Plan} {K:Upd→Prop} (hr:runD P Inv o pl K):∃ u,K u∧(∀ {K':Upd→Prop},K' u→runD P Inv o pl K') ∧
  (∀ {rf:RF} {e:ME} {h:Hp} {K':ME→Hp→Prop},Inv h→K' (u.app rf e) h→run1 P rf o pl e h K')∧(∀ A,pl=some (.act A)→∃ v,u=dstU o.dst (.v v))∧∀ u',pl=some (.upd u')→u=u':=by
 unfold runD at *
 unfold run1
 split at hr
 ·rename_i u
  exact ⟨u,hr,fun k=>k,fun _ k=>k,fun s hs=>(by cases hs),fun u' hu=>(by cases hu;rfl)⟩
 ·rename_i f
  obtain ⟨v,hv,hk⟩:=hr
  exact ⟨_,hk,fun k=>⟨v,hv,k⟩,fun hi k=>(by simp only [aRun,hv _ hi];exact k),fun _ _=>⟨v,rfl⟩,fun u' hu=>(by cases hu)⟩
 ·exact hr.elim
theorem mrun_run1 {rf:RF} {Inv:Hp→Prop} {k:Cl} {o:Oper} {pl:Option Plan} {e:ME} {h:Hp} {K:ME→Hp→Prop} (hke:k≠.e) (hi:Inv h) (hup:k=.n→UpInv Inv) (hr:mrun P rf Inv k o pl e h K):run1 P rf o pl e h fun e' h'=>Inv h'∧K e' h':=by
 unfold mrun at hr
 split at hr
 ·split at hr
  ·rename_i u hu;exact updA_run1 hu ⟨hi,hr⟩
  ·exact hr.elim
 ·obtain ⟨u,hk,_,h2,_⟩:=runB_spec hr;exact h2 ⟨hi,hk⟩
 ·exact hr
 ·obtain ⟨u,hk,_,h2,_⟩:=runD_spec hr;exact h2 hi ⟨hi,hk⟩
 ·obtain ⟨hn,hr⟩:=hr
  cases pl with
  | none=>exact hr
  | some p =>
   cases p with
   | upd u=>exact ⟨hi,hr⟩
   | act A =>
    cases A with
    | nw ob v=>exact fun b hb=>⟨hup rfl h _ hi (Hp.le_set hb),hr b hb⟩
    | _=>cases hn
 ·exact absurd rfl hke
theorem mrun_run0 {rf:RF} {Inv:Hp→Prop} {k:Cl} {o:Oper} {pl:Option Plan} {e:ME} {h:Hp} {K:ME→Hp→Prop} (hk:k=.a∨k=.e) (hr:mrun P rf Inv k o pl e h K):run1 P rf o pl e h K:=by
 rcases hk with rfl | rfl
 ·unfold mrun at hr
  simp only at hr
  split at hr
  ·rename_i u hu;exact updA_run1 hu hr
  ·exact hr.elim
 ·exact hr
def Stable:Action→Prop
 | .rd f=>∀ (h h':Hp) v,h.le h'→f h=some v→f h'=some v
 | .wr f=>(∀ (h h':Hp) v,h.le h'→f h=some v→f h'=some v)∧∀ (h:Hp) c o,f h=some (c,o)→∃ x,h c=some x
 | .io f=>(∀ (h h':Hp) v,h.le h'→f h=some v→f h'=some v)∧∀ (h:Hp) v c o,f h=some (v,some (c,o))→∃ x,h c=some x
 | _=>True
section
variable {h h':Hp}
theorem loadH_st {t:TypeId} {a:Addr} {v:Value} (hle:h.le h') (hl:loadH P t h a=some v):loadH P t h' a=some v:=by
 unfold loadH at hl ⊢
 split at hl
 ·split at hl
  ·rename_i n c e f h1 h2
   rw [h1,hle _ _ h2]
   exact hl
  ·cases hl
 ·exact Hp.le_cell hle hl
 ·cases hl
theorem storeH_st {t:TypeId} {a:Addr} {z:Value} {v:Nat×Obj} (hle:h.le h') (hl:storeH P t h a z=some v):storeH P t h' a z=some v:=by
 unfold storeH at hl ⊢
 split at hl
 ·rename_i n c e f h1 h2
  rw [h1,hle _ _ h2];exact hl
 ·cases hl
theorem lookH_st {t:TypeId} {x k:Value} {ok:Bool} {v:Value} (hle:h.le h') (hl:lookH P t h x k ok=some v):lookH P t h' x k ok=some v:=by
 unfold lookH at hl ⊢
 split at hl
 ·split at hl
  ·split at hl
   ·exact hl
   ·split at hl
    ·rename_i hb;simp only [hle _ _ hb];exact hl
    ·cases hl
   ·cases hl
  ·cases hl
 ·cases hl
theorem updH_st {t:TypeId} {m k x:Value} {v:Nat×Obj} (hle:h.le h') (hl:updH P t h m k x=some v):updH P t h' m k x=some v:=by
 unfold updH at hl ⊢
 split at hl
 ·split at hl
  ·split at hl
   ·rename_i hb;simp only [hle _ _ hb];exact hl
   ·cases hl
  ·cases hl
 ·cases hl
theorem delH_st {t:TypeId} {m k:Value} {v:Value×Option (Nat×Obj)} (hle:h.le h') (hl:delH P t h m k=some v):delH P t h' m k=some v:=by
 unfold delH at hl ⊢
 split at hl
 ·split at hl
  ·exact hl
  ·split at hl
   ·rename_i hb;simp only [hle _ _ hb];exact hl
   ·cases hl
  ·cases hl
 ·cases hl
theorem entH_st {t:TypeId} {m k:Value} {v:Value×Option (Nat×Obj)} (hle:h.le h') (hl:entH P t h m k=some v):entH P t h' m k=some v:=by
 unfold entH at hl ⊢
 split at hl
 ·split at hl
  ·split at hl
   ·rename_i hb;simp only [hle _ _ hb];exact hl
   ·cases hl
  ·cases hl
 ·cases hl
theorem entS_st {m k x:Value} {v:Nat×Obj} (hle:h.le h') (hl:entS h m k x=some v):entS h' m k x=some v:=by
 unfold entS at hl ⊢
 split at hl
 ·split at hl
  ·rename_i hb;simp only [hle _ _ hb];exact hl
  ·cases hl
 ·cases hl
theorem clrH_st {t:TypeId} {x:Value} {v:Value×Option (Nat×Obj)} (hle:h.le h') (hl:clrH P t h x=some v):clrH P t h' x=some v:=by
 unfold clrH at hl ⊢
 split at hl
 ·exact hl
 ·split at hl
  ·rename_i h1 hb;simp only [h1,hle _ _ hb];exact hl
  ·cases hl
 ·cases hl
theorem nextH_st {it:Value} {v:Value×Option (Nat×Obj)} (hle:h.le h') (hl:nextH h it=some v):nextH h' it=some v:=by
 unfold nextH at hl ⊢
 split at hl
 ·split at hl
  ·rename_i hb;simp only [hle _ _ hb];exact hl
  ·cases hl
 ·cases hl
theorem storeH_kn {t:TypeId} {a:Addr} {z:Value} {c:Nat} {o:Obj} (hl:storeH P t h a z=some (c,o)):∃ x,h c=some x:=by
 unfold storeH at hl
 split at hl
 ·rename_i hb;split at hl
  ·cases hl;exact ⟨_,hb⟩
  ·cases hl
 ·cases hl
theorem updH_kn {t:TypeId} {m k x:Value} {c:Nat} {o:Obj} (hl:updH P t h m k x=some (c,o)):∃ x,h c=some x:=by
 unfold updH at hl
 (repeat' split at hl) <;> first
  | (cases hl;exact ⟨_,‹_›⟩)
  | cases hl
theorem delH_kn {t:TypeId} {m k v:Value} {c:Nat} {o:Obj} (hl:delH P t h m k=some (v,some (c,o))):∃ x,h c=some x:=by
 unfold delH at hl
 (repeat' split at hl) <;> first
  | (cases hl;exact ⟨_,‹_›⟩)
  | cases hl
theorem entH_kn {t:TypeId} {m k v:Value} {c:Nat} {o:Obj} (hl:entH P t h m k=some (v,some (c,o))):∃ x,h c=some x:=by
 unfold entH at hl
 (repeat' split at hl) <;> first
  | (cases hl;exact ⟨_,‹_›⟩)
  | cases hl
theorem entS_kn {m k x:Value} {c:Nat} {o:Obj} (hl:entS h m k x=some (c,o)):∃ x,h c=some x:=by
 unfold entS at hl
 (repeat' split at hl) <;> first
  | (cases hl;exact ⟨_,‹_›⟩)
  | cases hl
theorem clrH_kn {t:TypeId} {x v:Value} {c:Nat} {o:Obj} (hl:clrH P t h x=some (v,some (c,o))):∃ x,h c=some x:=by
 unfold clrH at hl
 (repeat' split at hl) <;> first
  | (cases hl;exact ⟨_,‹_›⟩)
  | cases hl
theorem nextH_kn {it v:Value} {c:Nat} {o:Obj} (hl:nextH h it=some (v,some (c,o))):∃ x,h c=some x:=by
 unfold nextH at hl
 (repeat' split at hl) <;> first
  | (cases hl;exact ⟨_,‹_›⟩)
  | cases hl
theorem lenH_st {t:TypeId} {x v:Value} (hle:h.le h') (hl:lenH P t h x=some v):lenH P t h' x=some v:=by
 unfold lenH at hl ⊢
 split at hl
 ·split at hl
  ·rename_i hb;simp only [hle _ _ hb];exact hl
  ·cases hl
 ·cases hl
end
theorem actOf_stable (ρ:Operand→Value) (o:Oper):Stable (actOf P ρ o):=by
 unfold actOf
 split <;> (repeat' split) <;> first
  | trivial
  | exact fun _ _ _ hle hl=>loadH_st hle hl
  | exact ⟨fun _ _ _ hle hl=>storeH_st hle hl,fun _ _ _ hl=>storeH_kn hl⟩
  | exact fun _ _ _ hle hl=>lookH_st hle hl
  | exact ⟨fun _ _ _ hle hl=>updH_st hle hl,fun _ _ _ hl=>updH_kn hl⟩
  | exact ⟨fun _ _ _ hle hl=>delH_st hle hl,fun _ _ _ _ hl=>delH_kn hl⟩
  | exact ⟨fun _ _ _ hle hl=>entH_st hle hl,fun _ _ _ _ hl=>entH_kn hl⟩
  | exact ⟨fun _ _ _ hle hl=>entS_st hle hl,fun _ _ _ hl=>entS_kn hl⟩
  | exact ⟨fun _ _ _ hle hl=>clrH_st hle hl,fun _ _ _ _ hl=>clrH_kn hl⟩
  | exact ⟨fun _ _ _ hle hl=>nextH_st hle hl,fun _ _ _ _ hl=>nextH_kn hl⟩
  | exact fun _ _ _ hle hl=>lenH_st hle hl
theorem Hp.set_comm (h:Hp) {b c:Nat} (o o':Obj) (hn:b≠c):(h.set b o).set c o'=(h.set c o').set b o:=by
 funext k;unfold Hp.set
 by_cases h1:k=c
 ·subst h1;simp [Ne.symm hn]
 ·simp [h1]
theorem Hp.ne_none {h:Hp} {b c:Nat} {o:Obj} (hb:h b=none) (hc:h c=some o):c≠b:=fun e=>by rw [e,hb] at hc;cases hc
theorem cell_new {h:Hp} {a:Addr} {v:Value} {b:Nat} {o:Obj} (hb:h b=none) (hc:h.cell? a=some v):(h.set b o).cell? a=some v:=Hp.le_cell (Hp.le_set hb) hc
theorem mid_new {α : Type} {b : Nat} {ob : Obj} (s : Sem α) : ∀ {h : Hp} {K : α → Hp → Prop}, h b = none → mid P s h K → mid P s (h.set b ob) fun a h' => ∃ h1, h1 b = none ∧ h' = h1.set b ob ∧ K a h1 := by
  induction s with
  | pure a => intro h K hb hm; exact ⟨h, hb, rfl, hm⟩
  | load m a k ih =>
    intro h K hb hm; simp only [mid] at *
    split at hm
    · rename_i v hv; rw [cell_new hb hv]; exact ih v hb hm
    · exact hm.elim
  | store m a v k ih =>
    intro h K hb hm; simp only [mid] at *
    refine ⟨hm.1, ?_⟩
    have hm := hm.2
    split at hm
    · rename_i u hu
      rw [cell_new hb hu]
      obtain ⟨c, el, f, hc⟩ := cell_block hu
      have hne := Hp.ne_none hb hc
      have hsb : (h.set b ob) a.block = some (.cells c el f) := by rw [Hp.set_other _ _ hne]; exact hc
      refine ⟨?_, ?_⟩
      · have := hm.1
        unfold Hp.frozen? at this ⊢
        rw [hsb]; rw [hc] at this; exact this
      · have e1 : (h.set b ob).setCell a v = (h.setCell a v).set b ob := by
          unfold Hp.setCell; rw [hsb, hc]; exact Hp.set_comm _ _ _ (Ne.symm hne)
        rw [e1]
        refine ih ?_ hm.2
        unfold Hp.setCell; rw [hc]
        show (h.set a.block _) b = none
        rw [Hp.set_other _ _ (Ne.symm hne)]; exact hb
    · exact hm.elim
  | new o k ih =>
    intro h K hb hm c hc
    have hne : c ≠ b := fun e => by subst e; rw [Hp.set_same] at hc; cases hc
    have hc' : h c = none := by rw [Hp.set_other _ _ hne] at hc; exact hc
    rw [Hp.set_comm _ _ _ (Ne.symm hne)]
    exact ih c (by rw [Hp.set_other _ _ (Ne.symm hne)]; exact hb) (hm c hc')
  | shape r k ih =>
    intro h K hb hm; simp only [mid] at *
    cases hr : h r with
    | none => rw [hr] at hm; exact hm.elim
    | some x =>
      rw [hr] at hm
      rw [Hp.set_other _ _ (Hp.ne_none hb hr), hr]
      cases x <;> exact ih _ hb hm
  | freeze a n k ih =>
    intro h K hb hm; simp only [mid] at *
    by_cases hn : n = 0
    · rw [if_pos hn] at *; exact ih hb hm
    · rw [if_neg hn] at *
      cases hr : h a.block with
      | none => rw [hr] at hm; exact hm.elim
      | some x =>
        rw [hr] at hm
        have hne := Hp.ne_none hb hr
        rw [Hp.set_other _ _ hne, hr]
        cases x with
        | cells c e f =>
          have e1 : (h.set b ob).freeze a n = (h.freeze a n).set b ob := by
            unfold Hp.freeze; rw [Hp.set_other _ _ hne, hr]; exact Hp.set_comm _ _ _ (Ne.symm hne)
          show mid P k ((h.set b ob).freeze a n) _
          rw [e1]
          refine ih ?_ hm
          unfold Hp.freeze; rw [hr]
          show (h.set a.block _) b = none
          rw [Hp.set_other _ _ (Ne.symm hne)]; exact hb
        | _ => exact hm.elim
  | frozen a k ih =>
    intro h K hb hm; simp only [mid] at *
    cases hr : h a.block with
    | none => rw [hr] at hm; exact hm.elim
    | some x =>
      rw [hr] at hm
      rw [Hp.set_other _ _ (Hp.ne_none hb hr), hr]
      have : (h.set b ob).frozen? a = h.frozen? a := by unfold Hp.frozen?; rw [Hp.set_other _ _ (Hp.ne_none hb hr)]
      simp only [this]
      exact ih _ hb hm
  | getObj r k ih =>
    intro h K hb hm; simp only [mid] at *
    cases hr : h r with
    | none => rw [hr] at hm; exact hm.elim
    | some x =>
      rw [hr] at hm
      rw [Hp.set_other _ _ (Hp.ne_none hb hr), hr]
      cases x <;> first | exact hm.elim | exact ih _ hb hm
  | setObj r o k ih =>
    intro h K hb hm; simp only [mid] at *
    cases hr : h r with
    | none => rw [hr] at hm; exact hm.elim
    | some x =>
      rw [hr] at hm
      have hne := Hp.ne_none hb hr
      rw [Hp.set_other _ _ hne, hr]
      cases x <;> first
        | exact hm.elim
        | (simp only []
           rw [Hp.set_comm _ _ _ (Ne.symm hne)]
           exact ih (by rw [Hp.set_other _ _ (Ne.symm hne)]; exact hb) hm)
  | choose q k ih =>
    intro h K hb hm; simp only [mid] at *
    by_cases hq : q.forced = true
    · rw [if_pos hq] at *; exact ih _ hb hm
    · rw [if_neg hq] at *; exact fun t => ih _ hb (hm t)
  | sys c k ih => intro h K hb hm; exact hm
  | program k ih => intro h K hb hm; exact ih _ hb hm
  | mark m k ih => intro h K hb hm; exact ih hb hm
  | halt x => intro h K hb hm; exact hm
theorem X_new {f:FuncId} {args:Array Value} {h:Hp} {K:Value→Hp→Prop} {b:Nat} {ob:Obj} (hb:h b=none) (x:X P f args h K):X P f args (h.set b ob) fun v h'=>∃ h1,h1 b=none∧h'=h1.set b ob∧K v h1:=by
 refine ⟨fun w0 w s=>?_⟩
 have hwb:=s.known b ob (Hp.set_same _ _ _)
 have hlt:=s.lt (Hp.set_same h b ob)
 have s':Sat w0 h w:=⟨s.os,s.tape,s.output,s.size,fun c o e=>s.known c o (Hp.le_set hb c o e)⟩
 refine (x.go w0 w s').mono fun e w' ⟨v,h',he,hx,hk⟩=>?_
 obtain ⟨p1,p2⟩:=hx.priv b hlt hb
 refine ⟨v,h'.set b ob,he,⟨⟨hx.sat.os,hx.sat.tape,hx.sat.output,hx.sat.size,fun c o e=>?_⟩,hx.grow,fun c hc e=>?_⟩,h',p2,rfl,hk⟩
 ·unfold Hp.set at e
  split at e
  ·rename_i hcb;subst hcb;cases e;rw [p1];exact hwb
  ·exact hx.sat.known c o e
 ·have hne:c≠b:=fun ee=>by subst ee;rw [Hp.set_same] at e;cases e
  rw [Hp.set_other _ _ hne] at e ⊢
  exact hx.priv c hc e
theorem XR_new {l:Nat} {f:FuncId} {tmps:Array Value} {asg body:Code} {h:Hp} {K:Value→Hp→Prop} {b:Nat} {ob:Obj} (hb:h b=none) (x:XR P l f tmps asg body h K):XR P l f tmps asg body (h.set b ob) fun v h'=>∃ h1,h1 b=none∧h'=h1.set b ob∧K v h1:=by
 refine ⟨fun w0 w s=>?_⟩
 have hwb:=s.known b ob (Hp.set_same _ _ _)
 have hlt:=s.lt (Hp.set_same h b ob)
 have s':Sat w0 h w:=⟨s.os,s.tape,s.output,s.size,fun c o e=>s.known c o (Hp.le_set hb c o e)⟩
 refine (x.go w0 w s').mono fun e w' ⟨v,h',he,hx,hk⟩=>?_
 obtain ⟨p1,p2⟩:=hx.priv b hlt hb
 refine ⟨v,h'.set b ob,he,⟨⟨hx.sat.os,hx.sat.tape,hx.sat.output,hx.sat.size,fun c o e=>?_⟩,hx.grow,fun c hc e=>?_⟩,h',p2,rfl,hk⟩
 ·unfold Hp.set at e
  split at e
  ·rename_i hcb;subst hcb;cases e;rw [p1];exact hwb
  ·exact hx.sat.known c o e
 ·have hne:c≠b:=fun ee=>by subst ee;rw [Hp.set_same] at e;cases e
  rw [Hp.set_other _ _ hne] at e ⊢
  exact hx.priv c hc e
theorem aRun_new {A:Action} {h:Hp} {K:Value→Hp→Prop} {b:Nat} {ob:Obj} (st:Stable A) (hb:h b=none) (hr:aRun P A h K):aRun P A (h.set b ob) fun v h'=>∃ h1,h1 b=none∧h'=h1.set b ob∧K v h1:=by
 have hle:h.le (h.set b ob):=Hp.le_set hb
 cases A with
 | sem s =>
  refine mid_mono s (fun nx h' hh=>?_) (mid_new (ob:=ob) s hb hr)
  obtain ⟨h1,n1,rfl,hf⟩:=hh
  cases nx <;> first
   | exact ⟨h1,n1,rfl,hf⟩
   | exact X_new n1 hf
   | exact XR_new n1 hf
   | exact hf
 | rd f =>
  simp only [aRun] at hr ⊢
  split at hr
  ·rename_i v hv;rw [st _ _ _ hle hv];exact ⟨h,hb,rfl,hr⟩
  ·exact hr.elim
 | wr f =>
  simp only [aRun] at hr ⊢
  split at hr
  ·rename_i c o hv
   obtain ⟨x,hx⟩:=st.2 _ _ _ hv
   have hne:=Hp.ne_none hb hx
   rw [st.1 _ _ _ hle hv]
   exact ⟨h.set c o,by rw [Hp.set_other _ _ (Ne.symm hne)];exact hb,Hp.set_comm _ _ _ (Ne.symm hne),hr⟩
  ·exact hr.elim
 | nw o v =>
  intro c hc
  have hne:c≠b:=fun e=>by subst e;rw [Hp.set_same] at hc;cases hc
  rw [Hp.set_other _ _ hne] at hc
  refine ⟨h.set c o,by rw [Hp.set_other _ _ (Ne.symm hne)];exact hb,Hp.set_comm _ _ _ (Ne.symm hne),hr c hc⟩
 | call g args=>exact X_new hb hr
 | io f =>
  simp only [aRun] at hr ⊢
  split at hr
  ·rename_i v bo hv
   rw [st.1 _ _ _ hle hv]
   cases bo with
   | none=>exact ⟨h,hb,rfl,hr⟩
   | some co =>
    obtain ⟨c,o⟩:=co
    obtain ⟨x,hx⟩:=st.2 _ _ _ _ hv
    have hne:=Hp.ne_none hb hx
    exact ⟨h.set c o,by rw [Hp.set_other _ _ (Ne.symm hne)];exact hb,Hp.set_comm _ _ _ (Ne.symm hne),hr⟩
  ·exact hr.elim
theorem rdv_le {α:Type} {h h':Hp} (hle:h.le h') (s:Sem α):∀ {x:α},rdv P h s=some x→rdv P h' s=some x:=by
 induction s with
 | pure a=>intro x hx;exact hx
 | load m a k ih =>
  intro x hx;simp only [rdv] at *
  split at hx
  ·rename_i v hv;rw [Hp.le_cell hle hv];exact ih _ hx
  ·cases hx
 | shape r k ih =>
  intro x hx;simp only [rdv] at *
  cases hb:h r with
  | none=>rw [hb] at hx;cases hx
  | some o=>rw [hb] at hx;rw [hle _ _ hb];cases o <;> exact ih _ hx
 | frozen a k ih =>
  intro x hx;simp only [rdv] at *
  cases hb:h a.block with
  | none=>rw [hb] at hx;cases hx
  | some o =>
   rw [hb] at hx;rw [hle _ _ hb]
   have:h'.frozen? a=h.frozen? a:=by unfold Hp.frozen?;rw [hb,hle _ _ hb]
   simp only [this]
   exact ih _ hx
 | getObj r k ih =>
  intro x hx;simp only [rdv] at *
  cases hb:h r with
  | none=>rw [hb] at hx;cases hx
  | some o=>rw [hb] at hx;rw [hle _ _ hb];cases o <;> first | (cases hx;done) | exact ih _ hx
 | choose q k ih =>
  intro x hx;simp only [rdv] at *
  split at hx
  ·rename_i hq;rw [if_pos hq];exact ih _ hx
  ·cases hx
 | program k ih=>intro x hx;exact ih _ hx
 | mark m k ih=>intro x hx;exact ih hx
 | _=>intro x hx;cases hx
theorem runB_new {o:Oper} {pl:Option Plan} {h:Hp} {K:Upd→Prop} {b:Nat} {ob:Obj} (st:∀ A,pl=some (.act A)→Stable A) (hb:h b=none) (hr:runB P o pl h K):runB P o pl (h.set b ob) K:=by
 have hle:h.le (h.set b ob):=Hp.le_set hb
 unfold runB at *
 split at hr
 ·exact hr
 ·rename_i f
  split at hr
  ·rename_i v hv;rw [st _ rfl _ _ _ hle hv];exact hr
  ·exact hr.elim
 ·rename_i g args
  obtain ⟨v,hx,hk⟩:=hr
  exact ⟨v,(X_new hb hx).mono fun v' h' ⟨h1,_,e,e1,e2⟩=>⟨e1,by rw [e,e2]⟩,hk⟩
 ·rename_i s
  split at hr
  ·rename_i v hv;simp only [rdv_le hle s hv];exact hr
  ·rename_i hv;simp only [rdv_le hle s hv];exact hr
  ·rename_i f args hv
   obtain ⟨v,hx,hk⟩:=hr
   simp only [rdv_le hle s hv]
   exact ⟨v,(X_new hb hx).mono fun v' h' ⟨h1,_,e,e1,e2⟩=>⟨e1,by rw [e,e2]⟩,hk⟩
  ·exact hr.elim
 ·exact hr.elim
def Fin (h:Hp):Prop:=∃ B,∀ b,B≤b→h b=none
theorem Sat.fin {w0:World} {h:Hp} {w:World} (s:Sat w0 h w):Fin h:=⟨w.heap.size,fun b hb=>by
 cases e:h b with
 | none=>rfl
 | some o=>have:=s.lt e;omega⟩
theorem Fin.set {h:Hp} (f:Fin h) (b:Nat) (o:Obj):Fin (h.set b o):=by
 obtain ⟨B,hB⟩:=f
 exact ⟨max B (b+1),fun c hc=>by rw [Hp.set_other _ _ (by omega)];exact hB c (by omega)⟩
theorem Fin.setO {h:Hp} (f:Fin h) (bo:Option (Nat×Obj)):Fin (h.setO bo):=by
 cases bo with
 | none=>exact f
 | some x=>exact Fin.set f _ _
theorem Fin.setCell {h:Hp} (f:Fin h) (a:Addr) (v:Value):Fin (h.setCell a v):=by unfold Hp.setCell;split <;> first | exact f.set _ _ | exact f
theorem Fin.freeze {h:Hp} (f:Fin h) (a:Addr) (n:Nat):Fin (h.freeze a n):=by unfold Hp.freeze;split <;> first | exact f.set _ _ | exact f
theorem mid_fin {α:Type} (s:Sem α):∀ {h:Hp} {K:α→Hp→Prop},Fin h→mid P s h K→mid P s h fun a h'=>K a h'∧Fin h':=by
 induction s with
 | pure a=>intro h K hf hm;exact ⟨hm,hf⟩
 | load m a k ih=>intro h K hf hm;simp only [mid] at *;split at hm <;> first | exact ih _ hf hm | exact hm
 | store m a v k ih =>
  intro h K hf hm;simp only [mid] at *
  refine ⟨hm.1,?_⟩
  have hm:=hm.2
  split at hm <;> first | exact ⟨hm.1,ih (hf.setCell _ _) hm.2⟩ | exact hm
 | new o k ih=>intro h K hf hm b hb;exact ih b (hf.set _ _) (hm b hb)
 | shape r k ih=>intro h K hf hm;simp only [mid] at *;split at hm <;> first | exact ih _ hf hm | exact hm
 | freeze a n k ih =>
  intro h K hf hm;simp only [mid] at *
  by_cases hn:n=0
  ·rw [if_pos hn] at *;exact ih hf hm
  ·rw [if_neg hn] at *;split at hm <;> first | exact ih (hf.freeze _ _) hm | exact hm
 | frozen a k ih=>intro h K hf hm;simp only [mid] at *;split at hm <;> first | exact ih _ hf hm | exact hm
 | getObj r k ih=>intro h K hf hm;simp only [mid] at *;split at hm <;> first | exact ih _ hf hm | exact hm
 | setObj r o k ih=>intro h K hf hm;simp only [mid] at *;split at hm <;> first | exact ih (hf.set _ _) hm | exact hm
 | choose q k ih =>
  intro h K hf hm;simp only [mid] at *
  by_cases hq:q.forced=true
  ·rw [if_pos hq] at *;exact ih _ hf hm
  ·rw [if_neg hq] at *;exact fun t=>ih _ hf (hm t)
 | sys c k ih=>intro h K hf hm;exact hm
 | program k ih=>intro h K hf hm;exact ih _ hf hm
 | mark m k ih=>intro h K hf hm;exact ih hf hm
 | halt x=>intro h K hf hm;exact hm
theorem X.fin {f:FuncId} {args:Array Value} {h:Hp} {K:Value→Hp→Prop} (x:X P f args h K):X P f args h fun v h'=>K v h'∧Fin h' :=
 ⟨fun w0 w s=>(x.go w0 w s).mono fun _ _ ⟨v,h',he,hx,k⟩=>⟨v,h',he,hx,k,hx.sat.fin⟩⟩
theorem XR.fin {l:Nat} {f:FuncId} {tmps:Array Value} {asg body:Code} {h:Hp} {K:Value→Hp→Prop} (x:XR P l f tmps asg body h K):XR P l f tmps asg body h fun v h'=>K v h'∧Fin h' :=
 ⟨fun w0 w s=>(x.go w0 w s).mono fun _ _ ⟨v,h',he,hx,k⟩=>⟨v,h',he,hx,k,hx.sat.fin⟩⟩
theorem fin_fin {nx:Next} {h:Hp} {K:Value→Hp→Prop} (hf:Fin h) (hx:fin P nx h K):fin P nx h fun v h'=>K v h'∧Fin h':=by
 cases nx <;> first | exact ⟨hx,hf⟩ | exact X.fin hx | exact XR.fin hx | exact hx
theorem aRun_fin {A:Action} {h:Hp} {K:Value→Hp→Prop} (hf:Fin h) (hr:aRun P A h K):aRun P A h fun v h'=>K v h'∧Fin h':=by
 cases A with
 | sem s=>exact mid_mono s (fun nx h' ⟨x,y⟩=>fin_fin y x) (mid_fin s hf hr)
 | rd f=>simp only [aRun] at *;split at hr <;> first | exact ⟨hr,hf⟩ | exact hr
 | wr f=>simp only [aRun] at *;split at hr <;> first | exact ⟨hr,hf.set _ _⟩ | exact hr
 | nw o v=>exact fun b hb=>⟨hr b hb,hf.set _ _⟩
 | call g args=>exact X.fin hr
 | io f=>simp only [aRun] at *;split at hr <;> first | exact ⟨hr,Fin.setO hf _⟩ | exact hr
theorem Fin.world {h:Hp} (f:Fin h):∃ w0 w,Sat w0 h w:=by
 obtain ⟨B,hB⟩:=f
 let w:World:={ (default:World) with heap:=(Array.range B).map fun b=>(h b).getD default }
 refine ⟨w,w,rfl,rfl,rfl,Nat.le_refl _,fun b o e=>?_⟩
 have hb:b<B:=by
  rcases Nat.lt_or_ge b B with h' | h'
  ·exact h'
  ·rw [hB b h'] at e;cases e
 show ((Array.range B).map fun b=>(h b).getD default)[b]? = some o
 simp [hb,e]
theorem X.noway {f:FuncId} {args:Array Value} {h:Hp} (hf:Fin h) (x:X P f args h fun _ _=>False):False:=by
 obtain ⟨w0,w,hs⟩:=hf.world
 obtain ⟨en,w'',fr,⟨_,_,_,_,hh⟩,_⟩:=x.go w0 w hs []
 exact hh
theorem XR.noway {l:Nat} {f:FuncId} {tmps:Array Value} {asg body:Code} {h:Hp} (hf:Fin h) (x:XR P l f tmps asg body h fun _ _=>False):False:=by
 obtain ⟨w0,w,hs⟩:=hf.world
 obtain ⟨en,w'',⟨_,_,_,_,hh⟩,_⟩:=(x.go w0 w hs).2 (Frame.enter P 0 #[] .normal) [] (room_wide _)
 exact hh
theorem aRun_some {A:Action} {h:Hp} (hf:Fin h) (hr:aRun P A h fun _ _=>False):False:=by
 cases A with
 | sem s =>
  obtain ⟨w0,w,hs⟩:=hf.world
  obtain ⟨nx,h',w',_,hx,hfin⟩:=mid_sound (w0:=w0) s hr hs
  cases nx <;> first
   | exact hfin
   | exact X.noway hx.sat.fin hfin
   | exact XR.noway hx.sat.fin hfin
 | rd f=>simp only [aRun] at hr;split at hr <;> exact hr
 | wr f=>simp only [aRun] at hr;split at hr <;> exact hr
 | nw o v=>obtain ⟨B,hB⟩:=hf;exact hr B (hB B (Nat.le_refl _))
 | call g args=>exact X.noway hf hr
 | io f=>simp only [aRun] at hr;split at hr <;> exact hr
theorem run1_some {rf:RF} {o:Oper} {pl:Option Plan} {e:ME} {h:Hp} (hf:Fin h) (hr:run1 P rf o pl e h fun _ _=>False):False:=by
 unfold run1 at hr
 split at hr
 ·exact hr
 ·exact aRun_some hf hr
 ·exact hr
end
def makes (rf:RF) (o:Oper):Option Nat :=
 match o.op,o.dst with
 | .alloc _,some d | .box _ _,some d=>if rf.of d=some d then some d else none
 | _,_=>none
def writes (rf:RF) (o:Oper):Option Nat :=
 match o.op with
 | .store _ (.tmp t) _=>rf.of t
 | _=>none
def touched (rf:RF) (ops:Array Oper) (o:Oper):List Nat:=((o.looksAt ops)++o.dst.toList).filterMap rf.of
def turned (rf:RF) (o:Oper):List Nat:=(makes rf o).toList++(writes rf o).toList
def indep (rf:RF) (ops:Array Oper) (x y:Oper):Bool :=
 x.apart ops y && (turned rf x).all (fun b=>!(touched rf ops y).contains b) && (turned rf y).all (fun b=>!(touched rf ops x).contains b)
def Upd.fits (rf:RF) (o:Oper):Upd→Prop
 | .none=>True
 | .slot d _=>o.dst=some d
 | .newbox t _=>o.dst=some t∧rf.of t=some t∧t ∈ turned rf o
 | .setbox b _=>b ∈ turned rf o
theorem fits_dstU (rf:RF) (o:Oper) (m:MV):Upd.fits rf o (dstU o.dst m):=by
 cases hd:o.dst with
 | none=>trivial
 | some d=>exact hd
def Agree (rf:RF) (ops:Array Oper) (o:Oper) (e e':ME):Prop :=
 (∀ s,s ∈ o.looksAt ops→e.env s=e'.env s)∧∀ b,b ∈ touched rf ops o→e.box b=e'.box b
section
variable {rf:RF} {ops:Array Oper} {x y:Oper}
theorem indep_spec (hi:indep rf ops x y=true):(∀ d,x.dst=some d→d ∉ y.looksAt ops)∧(∀ d,x.dst=some d→y.dst≠some d)∧(∀ d,y.dst=some d→d ∉ x.looksAt ops) ∧
  (∀ b,b ∈ turned rf x→b ∉ touched rf ops y)∧∀ b,b ∈ turned rf y→b ∉ touched rf ops x:=by
 simp only [indep,Bool.and_eq_true,List.all_eq_true,Bool.not_eq_true',List.contains_eq_mem,decide_eq_false_iff_not] at hi
 obtain ⟨⟨h1,h2⟩,h3⟩:=hi
 obtain ⟨a,b,c⟩:=Oper.apart_spec h1
 exact ⟨a,b,c,h2,h3⟩
theorem mem_touched_look {s b:Nat} {o:Oper} (hs:s ∈ o.looksAt ops) (hb:rf.of s=some b):b ∈ touched rf ops o :=
 List.mem_filterMap.2 ⟨s,List.mem_append_left _ hs,hb⟩
theorem mem_touched_dst {d b:Nat} {o:Oper} (hs:o.dst=some d) (hb:rf.of d=some b):b ∈ touched rf ops o :=
 List.mem_filterMap.2 ⟨d,List.mem_append_right _ (by simp [hs]),hb⟩
theorem agree_app {u:Upd} {e:ME} (hd:∀ d,x.dst=some d→d ∉ y.looksAt ops) (ht:∀ b,b ∈ turned rf x→b ∉ touched rf ops y) (hu:u.fits rf x):Agree rf ops y e (u.app rf e):=by
 cases u with
 | none=>exact ⟨fun _ _=>rfl,fun _ _=>rfl⟩
 | slot d m=>exact ⟨fun s hs=>(upd_other _ _ (fun (e:s=d)=>hd d hu (e ▸ hs))).symm,fun _ _=>rfl⟩
 | newbox t cs =>
  obtain ⟨h1,h2,h3⟩:=hu
  refine ⟨fun s hs=>?_,fun b hb=>(upd_other _ _ (fun (e:b=t)=>ht t h3 (e ▸ hb))).symm⟩
  show _=upd (kill rf t e.env) t _ s
  rw [upd_other _ _ (fun (e:s=t)=>hd t h1 (e ▸ hs))]
  unfold kill
  rw [if_neg (fun hr=>ht t h3 (mem_touched_look hs hr))]
 | setbox b cs=>exact ⟨fun _ _=>rfl,fun k hc=>(upd_other _ _ (fun (e:k=b)=>ht b hu (e ▸ hc))).symm⟩
theorem turned_touched {b:Nat} {o:Oper} (hb:b ∈ turned rf o):b ∈ touched rf ops o:=by
 rcases List.mem_append.1 hb with h | h
 ·unfold makes at h
  split at h
  ·rename_i el d _ hd
   split at h
   ·rename_i hr;simp only [Option.toList_some,List.mem_singleton] at h;subst h;exact mem_touched_dst hd hr
   ·cases h
  ·rename_i el x d _ hd
   split at h
   ·rename_i hr;simp only [Option.toList_some,List.mem_singleton] at h;subst h;exact mem_touched_dst hd hr
   ·cases h
  ·cases h
 ·unfold writes at h
  split at h
  ·rename_i t ht y he
   refine mem_touched_look (s:=ht) (List.mem_append_left _ (List.mem_filterMap.2 ⟨.tmp ht,by simp [he,Op.operands],rfl⟩)) (by simpa using h)
  ·cases h
theorem upd_comm {α:Type} (f:Nat→α) {i j:Nat} (v w:α) (h:i≠j):upd (upd f i v) j w=upd (upd f j w) i v:=by
 funext s;unfold upd
 by_cases h1:s=j
 ·subst h1;simp [Ne.symm h]
 ·simp [h1]
theorem kill_upd {f:Nat→MV} {t d:Nat} {m:MV} (h:rf.of d≠some t):kill rf t (upd f d m)=upd (kill rf t f) d m:=by
 funext s;unfold kill upd
 by_cases h1:s=d
 ·subst h1;simp [h]
 ·simp [h1]
theorem kill_comm {f:Nat→MV} {t u:Nat}:kill rf t (kill rf u f)=kill rf u (kill rf t f):=by
 funext s;unfold kill
 by_cases h1:rf.of s=some t <;> by_cases h2:rf.of s=some u <;> simp [h1,h2]
theorem app_comm {u v:Upd} {e:ME} (hi:indep rf ops x y=true) (hu:u.fits rf x) (hv:v.fits rf y):u.app rf (v.app rf e)=v.app rf (u.app rf e):=by
 obtain ⟨h1,h2,h3,h4,h5⟩:=indep_spec hi
 have hne:∀ d k,x.dst=some d→y.dst=some k→d≠k:=fun d k a b c=>h2 d a (c ▸ b)
 cases u with
 | none=>rfl
 | slot d m =>
  cases v with
  | none=>rfl
  | slot k n=>show ME.mk _ _=ME.mk _ _;congr 1;exact upd_comm _ _ _ (Ne.symm (hne d k hu hv))
  | newbox t cs =>
   obtain ⟨g1,g2,g3⟩:=hv
   have hrt:rf.of d≠some t:=fun e=>h5 t g3 (mem_touched_dst hu e)
   show ME.mk _ _=ME.mk _ _
   congr 1
   show upd (upd (kill rf t e.env) t _) d m=upd (kill rf t (upd e.env d m)) t _
   rw [kill_upd hrt,upd_comm _ _ _ (hne d t hu g1)]
  | setbox b cs=>rfl
 | newbox t cs =>
  obtain ⟨g1,g2,g3⟩:=hu
  cases v with
  | none=>rfl
  | slot d m =>
   have hrt:rf.of d≠some t:=fun e=>h4 t g3 (mem_touched_dst hv e)
   show ME.mk _ _=ME.mk _ _
   congr 1
   show upd (kill rf t (upd e.env d m)) t _=upd (upd (kill rf t e.env) t _) d m
   rw [kill_upd hrt,upd_comm _ _ _ (Ne.symm (hne t d g1 hv))]
  | newbox k ds =>
   obtain ⟨f1,f2,f3⟩:=hv
   have htk:t≠k:=hne t k g1 f1
   show ME.mk _ _=ME.mk _ _
   congr 1
   ·show upd (kill rf t (upd (kill rf k e.env) k _)) t _=upd (kill rf k (upd (kill rf t e.env) t _)) k _
    rw [kill_upd (by rw [f2];intro e;exact htk (Option.some.inj e).symm),kill_upd (by rw [g2];intro e;exact htk (Option.some.inj e)),kill_comm,upd_comm _ _ _ (Ne.symm htk)]
   ·exact upd_comm _ _ _ (Ne.symm htk)
  | setbox b ds =>
   show ME.mk _ _=ME.mk _ _
   congr 1
   exact upd_comm _ _ _ (fun e=>h4 t g3 (by subst e;exact absurd (mem_touched_dst g1 g2) (h5 _ hv)))
 | setbox b cs =>
  cases v with
  | none=>rfl
  | slot d m=>rfl
  | newbox t ds =>
   obtain ⟨f1,f2,f3⟩:=hv
   show ME.mk _ _=ME.mk _ _
   congr 1
   exact upd_comm _ _ _ (fun e=>h4 b hu (by subst e;exact mem_touched_dst f1 f2))
  | setbox c ds =>
   show ME.mk _ _=ME.mk _ _
   congr 1
   exact upd_comm _ _ _ (fun e=>h4 b hu (by subst e;exact turned_touched hv))
end
end Go.Mid
