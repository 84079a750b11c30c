/-
  THE MIDDLE LAYER, PART ELEVEN: regions, code and functions in the form in which 'whnf' goes through them.
-/
import Derived.Test.YtdhlpighdlnohaaGreatMidJ
set_option linter.unusedSimpArgs false
set_option linter.unusedVariables false
set_option maxHeartbeats 8000000
set_option maxRecDepth 10000
set_option linter.unusedSimpArgs false
set_option linter.unusedVariables false
namespace Go.Mid
open Go Go.RowKit
def ME.put (e:ME) (d:Nat) (m:MV):ME:=⟨upd e.env d m,e.box⟩
def vguard (ops:Array Oper) (o:Oper) (e:ME) (F:Bool→ME→Prop):Prop :=
 match o.guard with
 | none=>F true e
 | some (j,want)=>match (ops[j]?).bind (·.dst) with
  | some d=>match e.env d with
   | .v (.bool b)=>bcase b fun b'=>F (b'==want) (ME.put e d (.v (.bool b')))
   | .v _=>F false e
   | .ref _=>F false e
   | .junk=>False
  | none=>F false e
theorem upd_eq {α:Type} (f:Nat→α) (k:Nat) {x:α} (h:f k=x):upd f k x=f:=by
 funext s;unfold upd;split
 ·rename_i hs;rw [hs,h]
 ·rfl
theorem vguard_elim {ops:Array Oper} {o:Oper} {e:ME} {F:Bool→ME→Prop} (h:vguard ops o e F):∃ b,wantM ops o e=some b∧F b e:=by
 unfold vguard at h
 unfold wantM
 split at h
 ·rename_i hg;rw [hg];exact ⟨true,rfl,h⟩
 ·rename_i j want hg
  rw [hg]
  simp only
  split at h
  ·rename_i d hd
   rw [hd]
   simp only
   split at h
   ·rename_i b hb
    have:=bcase_elim h
    rw [hb]
    unfold ME.put at this
    rw [upd_eq _ _ hb] at this
    exact ⟨_,rfl,this⟩
   ·rename_i y hn hy
    rw [hy]
    refine ⟨false,?_,h⟩
    cases y <;> first | rfl | exact (hn _ rfl).elim
   ·rename_i off hy;rw [hy];exact ⟨false,rfl,h⟩
   ·exact h.elim
  ·rename_i hd;rw [hd];exact ⟨false,rfl,h⟩
structure ioK (x:Option (Value×Option (Nat×Obj))) (h:Hp) (K:Value→Hp→Prop):Prop where
 go:match x with
  | some (v,bo)=>K v (h.setO bo)
  | none=>False
structure semK (P:Program) (s:Sem Next) (h:Hp) (K:Next→Hp→Prop):Prop where
 go:mid P s h K
def aRunK (P:Program):Action→Hp→(Value→Hp→Prop)→Prop
 | .sem s,h,K=>semK P s h fun nx h'=>fin P nx h' K
 | .rd f,h,K=>∃ v,f h=some v∧K v h
 | .wr f,h,K=>∃ bo,f h=some bo∧K undef (h.set bo.1 bo.2)
 | .nw o v,h,K=>∀ b,h b=none→K (v b) (h.set b o)
 | .call g args,h,K=>X P g args.toArray h K
 | .io f,h,K=>ioK (f h) h K
theorem aRunK_of {P:Program} {A:Action} {h:Hp} {K:Value→Hp→Prop} (hr:aRun P A h K):aRunK P A h K:=by
 cases A with
 | rd f =>
  simp only [aRun] at hr
  split at hr
  ·rename_i v hv;exact ⟨v,hv,hr⟩
  ·exact hr.elim
 | wr f =>
  simp only [aRun] at hr
  split at hr
  ·rename_i b o hv;exact ⟨(b,o),hv,hr⟩
  ·exact hr.elim
 | io f=>exact ⟨hr⟩
 | sem s=>exact ⟨hr⟩
 | _=>exact hr
theorem aRunK_yv {P:Program} {ρ:Operand→Value} {o:Oper} {y:Value} {args:List Value} {h:Hp} {K:Value→Hp→Prop} {x:Operand} {xs:Array Operand} {tys:Array TypeId}
  (ho:o.op=.call { callee:=.value x,args:=xs,argTypes:=tys }) (hρ:ρ x=y) (hargs:xs.toList.map ρ=args) (hy:YV P y args h K):aRunK P (actOf P ρ o) h K:=aRunK_of (hy.go ρ o x xs tys ho hρ hargs)
theorem aRunK_elim {P:Program} {A:Action} {h:Hp} {K:Value→Hp→Prop} (hr:aRunK P A h K):aRun P A h K:=by
 cases A with
 | rd f=>obtain ⟨v,hv,hk⟩:=hr;simp only [aRun,hv];exact hk
 | wr f=>obtain ⟨⟨b,o⟩,hv,hk⟩:=hr;simp only [aRun,hv];exact hk
 | io f=>exact hr.go
 | sem s=>exact hr.go
 | _=>exact hr
def runK (P:Program) (rf:RF) (o:Oper) (pl:Plan) (e:ME) (h:Hp) (K:ME→Hp→Prop):Prop :=
 match pl with
 | .upd u=>K (u.app rf e) h
 | .act A=>aRunK P A h fun v h'=>K ((dstU o.dst (.v v)).app rf e) h'
theorem runK_elim {P:Program} {rf:RF} {o:Oper} {pl:Plan} {e:ME} {h:Hp} {K:ME→Hp→Prop} (hr:runK P rf o pl e h K):run1 P rf o (some pl) e h K:=by
 cases pl with
 | upd u=>exact hr
 | act A=>exact aRunK_elim hr
def bRunK (P:Program) (A:Action) (h:Hp) (K:Value→Prop):Prop :=
 match A with
 | .rd f=>∃ v,f h=some v∧K v
 | .call g args=>∃ v,X P g args.toArray h (fun v' h'=>v'=v∧h'=h)∧K v
 | _=>False
def nRunK (A:Action) (h:Hp) (K:Value→Hp→Prop):Prop :=
 match A with
 | .nw o v=>∀ b,h b=none→K (v b) (h.set b o)
 | _=>False
def mrunK (P:Program) (rf:RF) (Inv:Hp→Prop) (cl:Cl) (o:Oper) (pl:Plan) (e:ME) (h:Hp) (K:ME→Hp→Prop):Prop :=
 match cl with
 | .a=>match pl with
  | .upd u=>K (u.app rf e) h
  | .act _=>False
 | .b=>match pl with
  | .upd u=>K (u.app rf e) h
  | .act A=>bRunK P A h fun v=>K ((dstU o.dst (.v v)).app rf e) h
 | .c=>runK P rf o pl e h fun e' h'=>Inv h'∧K e' h'
 | .n=>match pl with
  | .upd u=>K (u.app rf e) h
  | .act A=>nRunK A h fun v h'=>K ((dstU o.dst (.v v)).app rf e) h'
 | .d=>match pl with
  | .upd u=>K (u.app rf e) h
  | .act (.rd f)=>∃ v,(∀ h,Inv h→f h=some v)∧K ((dstU o.dst (.v v)).app rf e) h
  | .act _=>False
 | .e=>runK P rf o pl e h K
theorem mrunK_elim {P:Program} {rf:RF} {Inv:Hp→Prop} {cl:Cl} {o:Oper} {pl:Plan} {e:ME} {h:Hp} {K:ME→Hp→Prop} (hr:mrunK P rf Inv cl o pl e h K):mrun P rf Inv cl o (some pl) e h K:=by
 cases cl with
 | a =>
  cases pl with
  | upd u=>exact hr
  | act A=>exact hr.elim
 | b =>
  cases pl with
  | upd u=>exact hr
  | act A =>
   cases A with
   | rd f =>
    obtain ⟨v,hv,hk⟩:=hr
    show (match f h with | some v=>K ((dstU o.dst (.v v)).app rf e) h | none=>False)
    rw [hv];exact hk
   | call g args=>exact hr
   | _=>exact hr.elim
 | c =>
  have hr:runK P rf o pl e h (fun e' h'=>Inv h'∧K e' h'):=hr
  show run1 P rf o (some pl) e h (fun e' h'=>Inv h'∧K e' h')
  exact runK_elim hr
 | d =>
  cases pl with
  | upd u=>exact hr
  | act A =>
   cases A with
   | rd f=>exact hr
   | _=>exact hr.elim
 | n =>
  cases pl with
  | upd u=>exact ⟨rfl,hr⟩
  | act A =>
   cases A with
   | nw o v=>exact ⟨rfl,hr⟩
   | _=>exact hr.elim
 | e =>
  have hr:runK P rf o pl e h K:=hr
  show run1 P rf o (some pl) e h K
  exact runK_elim hr
def aRunU (P:Program):Action→Hp→(Value→Hp→Prop)→(List PanicEntry→Hp→Prop)→Prop
 | .call g args,h,K,E=>XE P g args.toArray h K E
 | .sem s,h,K,_=>semK P s h fun nx h'=>fin P nx h' K
 | .rd f,h,K,_=>∃ v,f h=some v∧K v h
 | .wr f,h,K,_=>∃ bo,f h=some bo∧K undef (h.set bo.1 bo.2)
 | .nw o v,h,K,_=>∀ b,h b=none→K (v b) (h.set b o)
 | .io f,h,K,_=>ioK (f h) h K
def uRunK (P:Program) (rf:RF) (o:Oper) (pl:Plan) (e:ME) (h:Hp) (K:ME→Hp→Prop) (E:List PanicEntry→Hp→Prop):Prop :=
 match pl with
 | .upd u=>K (u.app rf e) h
 | .act A=>match o.op with
  | .panic x=>match ev e x with
   | .v (.iface t v)=>E [{ v:=.iface t v,recovered:=false }] h
   | _=>False
  | _=>aRunU P A h (fun v h'=>K ((dstU o.dst (.v v)).app rf e) h') E
theorem uRunK_elim {P:Program} {rf:RF} {o:Oper} {pl:Plan} {e:ME} {h:Hp} {K:ME→Hp→Prop} {E:List PanicEntry→Hp→Prop} (hr:uRunK P rf o pl e h K E):run1U P rf o (some pl) e h K E:=by
 unfold uRunK at hr
 unfold run1U
 cases pl with
 | upd u=>exact hr
 | act A =>
  simp only at hr ⊢
  split at hr
  ·rename_i x hx
   split
   ·rename_i y hy;cases hx.symm.trans hy;exact hr
   ·rename_i hn;exact absurd hx (hn x)
  ·rename_i hne
   split
   ·rename_i y hy;exact absurd hy (hne y)
   cases A with
   | call g args=>exact hr
   | sem s=>exact aRunK_elim (P:=P) (A:=.sem s) (h:=h) (K:=fun v h'=>K ((dstU o.dst (.v v)).app rf e) h') hr
   | rd f=>exact aRunK_elim (P:=P) (A:=.rd f) (h:=h) (K:=fun v h'=>K ((dstU o.dst (.v v)).app rf e) h') hr
   | wr f=>exact aRunK_elim (P:=P) (A:=.wr f) (h:=h) (K:=fun v h'=>K ((dstU o.dst (.v v)).app rf e) h') hr
   | nw ob vv=>exact aRunK_elim (P:=P) (A:=.nw ob vv) (h:=h) (K:=fun v h'=>K ((dstU o.dst (.v v)).app rf e) h') hr
   | io f=>exact aRunK_elim (P:=P) (A:=.io f) (h:=h) (K:=fun v h'=>K ((dstU o.dst (.v v)).app rf e) h') hr
def ustep (P:Program) (rf:RF) (ops:Array Oper) (o:Oper) (ih:ME→Hp→(Exit→ME→Hp→Prop)→Prop) (e:ME) (h:Hp) (K:Exit→ME→Hp→Prop):Prop :=
 vguard ops o e fun b e1=>match b with
  | true=>planK P rf o e1 fun pl=>uRunK P rf o pl e1 h (fun e' h'=>ih e' h' K) fun ch h'=>K (.panic ch) e1 h'
  | false=>ih ((dstU o.dst (.v undef)).app rf e1) h K
def ulist (P:Program) (rf:RF) (ops:Array Oper) (l:List Oper):ME→Hp→(Exit→ME→Hp→Prop)→Prop :=
 List.rec (motive:=fun _=>ME→Hp→(Exit→ME→Hp→Prop)→Prop) (fun e h K=>K .normal e h) (fun o _ ih=>ustep P rf ops o ih) l
theorem ulist_elim {P:Program} {rf:RF} {ops:Array Oper} {K:Exit→ME→Hp→Prop}:∀ (l:List Oper) (e:ME) (h:Hp),ulist P rf ops l e h K→mlistU P rf ops l e h K
 | [],_,_,hr=>hr
 | o :: rest,e,h,hr=>by
  have hr:vguard ops o e fun b e1=>match b with
   | true=>planK P rf o e1 fun pl=>uRunK P rf o pl e1 h (fun e' h'=>ulist P rf ops rest e' h' K) fun ch h'=>K (.panic ch) e1 h'
   | false=>ulist P rf ops rest ((dstU o.dst (.v undef)).app rf e1) h K:=hr
  obtain ⟨b,hw,hr⟩:=vguard_elim hr
  show run1U P rf o (planG P rf ops o e) e h _ _
  unfold planG
  rw [hw]
  cases b with
  | true =>
   obtain ⟨pl,hp,hk⟩:=planK_elim hr
   simp only [if_true,hp]
   exact run1U_mono (fun e' h' hh=>ulist_elim rest e' h' hh) (fun _ _ hh=>hh) (uRunK_elim hk)
  | false=>exact ulist_elim rest _ h hr
def vstep (P:Program) (rf:RF) (ops:Array Oper) (o:Oper) (ih:ME→Hp→(ME→Hp→Prop)→Prop) (e:ME) (h:Hp) (K:ME→Hp→Prop):Prop :=
 vguard ops o e fun b e1=>match b with
  | true=>planK P rf o e1 fun pl=>runK P rf o pl e1 h fun e' h'=>ih e' h' K
  | false=>ih ((dstU o.dst (.v undef)).app rf e1) h K
def vlist (P:Program) (rf:RF) (ops:Array Oper) (l:List Oper):ME→Hp→(ME→Hp→Prop)→Prop :=
 List.rec (motive:=fun _=>ME→Hp→(ME→Hp→Prop)→Prop) (fun e h K=>K e h) (fun o _ ih=>vstep P rf ops o ih) l
def dstep (P:Program) (rf:RF) (Inv:Hp→Prop) (cl:Oper→Cl) (ops:Array Oper) (o:Oper) (ih:ME→Hp→(ME→Hp→Prop)→Prop) (e:ME) (h:Hp) (K:ME→Hp→Prop):Prop :=
 vguard ops o e fun b e1=>match b with
  | true=>planK P rf o e1 fun pl=>mrunK P rf Inv (cl o) o pl e1 h fun e' h'=>ih e' h' K
  | false=>ih ((dstU o.dst (.v undef)).app rf e1) h K
def vdraw (P:Program) (rf:RF) (Inv:Hp→Prop) (cl:Oper→Cl) (ops:Array Oper) (l:List Oper):ME→Hp→(ME→Hp→Prop)→Prop :=
 List.rec (motive:=fun _=>ME→Hp→(ME→Hp→Prop)→Prop) (fun e h K=>K e h) (fun o _ ih=>dstep P rf Inv cl ops o ih) l
theorem vlist_elim {P:Program} {rf:RF} {ops:Array Oper} {K:ME→Hp→Prop}:∀ (l:List Oper) (e:ME) (h:Hp),vlist P rf ops l e h K→mlist P rf ops l e h K
 | [],_,_,hr=>hr
 | o :: rest,e,h,hr=>by
  have hr:vguard ops o e fun b e1=>match b with
   | true=>planK P rf o e1 fun pl=>runK P rf o pl e1 h fun e' h'=>vlist P rf ops rest e' h' K
   | false=>vlist P rf ops rest ((dstU o.dst (.v undef)).app rf e1) h K:=hr
  obtain ⟨b,hw,hr⟩:=vguard_elim hr
  show run1 P rf o (planG P rf ops o e) e h _
  unfold planG
  rw [hw]
  cases b with
  | true =>
   obtain ⟨pl,hp,hk⟩:=planK_elim hr
   simp only [if_true,hp]
   exact run1_mono (fun e' h' hh=>vlist_elim rest e' h' hh) (runK_elim hk)
  | false=>exact vlist_elim rest _ h hr
theorem vdraw_elim {P:Program} {rf:RF} {Inv:Hp→Prop} {cl:Oper→Cl} {ops:Array Oper} {K:ME→Hp→Prop}:∀ (l:List Oper) (e:ME) (h:Hp),(∀ y ∈ l,cl y=.n→UpInv Inv)→eLast cl l→(Inv h∨∀ y ∈ l,cl y=.a)→vdraw P rf Inv cl ops l e h K→mdraw P rf Inv cl ops l e h K
 | [],_,_,_,_,_,hr=>hr
 | o :: rest,e,h,hup,hE,hi,hr=>by
  have hir:Inv h∨∀ y ∈ rest,cl y=.a:=hi.imp id fun hh y hy=>hh y (List.mem_cons_of_mem _ hy)
  have hio:cl o≠.a→Inv h:=fun hn=>hi.resolve_right fun hh=>hn (hh o (by simp))
  have hEo:=hE.1
  have hEr:=hE.2
  have hupr:∀ y ∈ rest,cl y=.n→UpInv Inv:=fun y hy=>hup y (List.mem_cons_of_mem _ hy)
  have hr:vguard ops o e fun b e1=>match b with
   | true=>planK P rf o e1 fun pl=>mrunK P rf Inv (cl o) o pl e1 h fun e' h'=>vdraw P rf Inv cl ops rest e' h' K
   | false=>vdraw P rf Inv cl ops rest ((dstU o.dst (.v undef)).app rf e1) h K:=hr
  obtain ⟨b,hw,hr⟩:=vguard_elim hr
  show mrun P rf Inv (cl o) o (planG P rf ops o e) e h _
  unfold planG
  rw [hw]
  cases b with
  | true =>
   obtain ⟨pl,hp,hk⟩:=planK_elim hr
   simp only [if_true,hp]
   have h1:=mrunK_elim hk
   have hupo:=hup o (by simp)
   generalize cl o=k at *
   cases k with
   | a =>
    unfold mrun at *
    simp only at *
    split at h1
    ·exact vdraw_elim rest _ h hupr hEr hir h1
    ·exact h1
   | b=>unfold mrun at *;simp only at *;obtain ⟨u,q1,q2,_⟩:=runB_spec h1;exact q2 (vdraw_elim rest _ h hupr hEr hir q1)
   | c =>
    have h1:run1 P rf o (some pl) e h (fun e' h'=>Inv h'∧vdraw P rf Inv cl ops rest e' h' K):=h1
    show run1 P rf o (some pl) e h (fun e' h'=>Inv h'∧mdraw P rf Inv cl ops rest e' h' K)
    exact run1_mono (fun e' h' ⟨x,y⟩=>⟨x,vdraw_elim rest e' h' hupr hEr (.inl x) y⟩) h1
   | d=>unfold mrun at *;simp only at *;obtain ⟨u,q1,q2,_⟩:=runD_spec h1;exact q2 (vdraw_elim rest _ h hupr hEr hir q1)
   | n=>exact mrun_mono (fun e' h' ⟨x,y⟩=>vdraw_elim rest e' h' hupr hEr (.inl y) x) (mrun_inv (by decide) hupo (hio (by decide)) h1)
   | e=>exact mrun_mono (k:=.e) (fun e' h' x=>vdraw_elim rest e' h' hupr hEr (.inr (hEo rfl)) x) h1
  | false =>
   simp only [Bool.false_eq_true,if_false]
   have:=vdraw_elim rest _ h hupr hEr hir hr
   generalize cl o=k at *
   cases k <;> first | exact this | exact ⟨hio (by decide),this⟩ | exact ⟨rfl,this⟩
def dstepU (P:Program) (rf:RF) (Inv:Hp→Prop) (cl:Oper→Cl) (ops:Array Oper) (ep:ME) (o:Oper) (ih:ME→Hp→(Exit→ME→Hp→Prop)→Prop) (e:ME) (h:Hp) (K:Exit→ME→Hp→Prop):Prop :=
 vguard ops o e fun b e1=>match b with
  | true=>planK P rf o e1 fun pl=>match isPC cl o with
   | true=>uRunK P rf o pl e1 h (fun e' h'=>Inv h'∧ih e' h' K) fun ch h'=>K (.panic ch) ep h'
   | false=>mrunK P rf Inv (cl o) o pl e1 h fun e' h'=>ih e' h' K
  | false=>ih ((dstU o.dst (.v undef)).app rf e1) h K
def udraw (P:Program) (rf:RF) (Inv:Hp→Prop) (cl:Oper→Cl) (ops:Array Oper) (ep:ME) (l:List Oper):ME→Hp→(Exit→ME→Hp→Prop)→Prop :=
 List.rec (motive:=fun _=>ME→Hp→(Exit→ME→Hp→Prop)→Prop) (fun e h K=>K .normal e h) (fun o _ ih=>dstepU P rf Inv cl ops ep o ih) l
theorem udraw_elim {P:Program} {rf:RF} {Inv:Hp→Prop} {cl:Oper→Cl} {ops:Array Oper} {ep:ME} {K:Exit→ME→Hp→Prop}:∀ (l:List Oper) (e:ME) (h:Hp),(∀ y ∈ l,cl y=.n→UpInv Inv)→(∀ y ∈ l,cl y≠.e)→Inv h→udraw P rf Inv cl ops ep l e h K→mdrawU P rf Inv cl ops ep l e h K
 | [],_,_,_,_,_,hr=>hr
 | o :: rest,e,h,hup,hE,hi,hr=>by
  have hEo:=hE o (by simp)
  have hEr:∀ y ∈ rest,cl y≠.e:=fun y hy=>hE y (List.mem_cons_of_mem _ hy)
  have hupr:∀ y ∈ rest,cl y=.n→UpInv Inv:=fun y hy=>hup y (List.mem_cons_of_mem _ hy)
  have hupo:=hup o (by simp)
  have hr:vguard ops o e fun b e1=>match b with
   | true=>planK P rf o e1 fun pl=>match isPC cl o with
    | true=>uRunK P rf o pl e1 h (fun e' h'=>Inv h'∧udraw P rf Inv cl ops ep rest e' h' K) fun ch h'=>K (.panic ch) ep h'
    | false=>mrunK P rf Inv (cl o) o pl e1 h fun e' h'=>udraw P rf Inv cl ops ep rest e' h' K
   | false=>udraw P rf Inv cl ops ep rest ((dstU o.dst (.v undef)).app rf e1) h K:=hr
  obtain ⟨b,hw,hr⟩:=vguard_elim hr
  show (match isPC cl o with
   | true=>run1U P rf o (planG P rf ops o e) e h (fun e' h'=>Inv h'∧mdrawU P rf Inv cl ops ep rest e' h' K) fun ch h'=>K (.panic ch) ep h'
   | false=>mrun P rf Inv (cl o) o (planG P rf ops o e) e h fun e' h'=>mdrawU P rf Inv cl ops ep rest e' h' K)
  unfold planG
  rw [hw]
  cases b with
  | true =>
   obtain ⟨pl,hp,hk⟩:=planK_elim hr
   simp only [if_true,hp]
   cases hpc:isPC cl o with
   | true =>
    rw [hpc] at hk
    exact run1U_mono (fun e' h' hh=>⟨hh.1,udraw_elim rest e' h' hupr hEr hh.1 hh.2⟩) (fun _ _ hh=>hh) (uRunK_elim hk)
   | false =>
    rw [hpc] at hk
    have h1:=mrun_inv hEo hupo hi (mrunK_elim hk)
    exact mrun_mono (fun e' h' ⟨x,y⟩=>udraw_elim rest e' h' hupr hEr y x) h1
  | false =>
   simp only [Bool.false_eq_true,if_false]
   have:=udraw_elim rest _ h hupr hEr hi hr
   cases hpc:isPC cl o with
   | true=>exact ⟨hi,this⟩
   | false =>
    simp only
    generalize cl o=k at *
    cases k <;> first | exact this | exact ⟨hi,this⟩ | exact ⟨rfl,this⟩
def anyD (cl:Oper→Cl) (ops:Array Oper):Bool:=ops.toList.any fun o=>match cl o with
 | .d=>true
 | _=>false
def anyN (cl:Oper→Cl) (ops:Array Oper):Bool:=ops.toList.any fun o=>match cl o with
 | .n=>true
 | _=>false
def orderOf:List (Nat×List Nat)→Nat→Array Oper→List Oper
 | [],_,ops=>ops.toList
 | p :: r,id,ops=>match Nat.beq p.1 id with
  | true=>p.2.map fun i=>ops.toList.getD i default
  | false=>orderOf r id ops
theorem orderOf_eq (id:Nat) (ops:Array Oper):∀ pm:List (Nat×List Nat),orderOf pm id ops=(permOf pm id ops.size).map (ops.getD · default)
 | []=>by
  show ops.toList=(List.range ops.size).map _
  apply List.ext_getElem
  ·simp
  ·intro i h1 h2
   simp at h1
   simp [h1]
 | p :: r=>by
  unfold orderOf permOf
  split
  ·rename_i hb
   rw [if_pos (Nat.eq_of_beq_eq_true hb)]
   apply List.map_congr_left
   intro i _
   simp [List.getD_eq_getElem?_getD,Array.getD_eq_getD_getElem?]
  ·rename_i hb
   rw [if_neg (fun e=>by subst e;rw [Nat.beq_refl] at hb;cases hb)]
   exact orderOf_eq id ops r
def vreg (P:Program) (rf:RF) (cl:Nat→Oper→Cl) (pm:List (Nat×List Nat)) (id:Nat) (ops:Array Oper) (draw:Bool) (e:ME) (h:Hp) (K:Exit→ME→Hp→Prop):Prop:=match draw with
  | true=>match memU id (pansOf pm) with
   | false=>match anyD (cl id) ops with
    | true=>match anyN (cl id) ops with
     | true=>∃ Inv:Hp→Prop,UpInv Inv∧Inv h∧vdraw P rf Inv (cl id) ops (orderOf pm id ops) e h (K .normal)
     | false=>∃ Inv:Hp→Prop,Inv h∧vdraw P rf Inv (cl id) ops (orderOf pm id ops) e h (K .normal)
    | false=>vdraw P rf (fun _=>True) (cl id) ops (orderOf pm id ops) e h (K .normal)
   | true=>match anyD (cl id) ops with
    | true=>match anyN (cl id) ops with
     | true=>∃ Inv:Hp→Prop,UpInv Inv∧Inv h∧udraw P rf Inv (cl id) ops (junkE (wrL rf ops) (mkL rf ops) e) (orderOf pm id ops) e h K
     | false=>∃ Inv:Hp→Prop,Inv h∧udraw P rf Inv (cl id) ops (junkE (wrL rf ops) (mkL rf ops) e) (orderOf pm id ops) e h K
    | false=>udraw P rf (fun _=>True) (cl id) ops (junkE (wrL rf ops) (mkL rf ops) e) (orderOf pm id ops) e h K
  | false=>match memU id (pansOf pm) with
   | true=>ulist P rf ops ops.toList e h K
   | false=>vlist P rf ops ops.toList e h (K .normal)
def vseq (A B:VC) (e:ME) (h:Hp) (K:Exit→ME→Hp→Prop):Prop:=A e h fun ex e' h'=>match ex with
  | .normal=>B e' h' K
  | ex=>K ex e' h'
structure MIf (M:List Nat) (t:Bool) (A B:VC) (e:ME) (h:Hp) (K:Exit→ME→Hp→Prop):Prop where
 go:∃ Kx:Exit→ME→Hp→Prop,(t=true→A e h Kx)∧(t=false→B e h Kx)∧∀ ex e' h',Kx ex e' h'→Same M e e'→K ex e' h'
def joinsOf:List (Nat×List Nat)→List Nat
 | []=>[]
 | p :: r=>match Nat.beq p.1 999999 with
  | true=>p.2
  | false=>joinsOf r
def memN (n:Nat):List Nat→Bool
 | []=>false
 | k :: r=>match Nat.beq k n with
  | true=>true
  | false=>memN n r
def joined (pm:List (Nat×List Nat)) (c:Operand):Bool:=match joinsOf pm with
 | []=>false
 | l=>match c with
  | .tmp s=>memN s l
  | _=>false
def vcond (rf:RF) (pm:List (Nat×List Nat)) (c:Operand) (a b:Code) (A B:VC) (e:ME) (h:Hp) (K:Exit→ME→Hp→Prop):Prop:=match ev e c with
  | .v (.bool t)=>match joined pm c with
   | true=>MIf (wr rf a++wr rf b) t A B e h K
   | false=>bcase t fun t=>match t with
    | true=>A e h K
    | false=>B e h K
  | _=>False
def vblock (id:Nat) (A:VC) (e:ME) (h:Hp) (K:Exit→ME→Hp→Prop):Prop:=A e h fun ex e' h'=>match ex with
  | .exit id'=>match Nat.beq id' id with
   | true=>K .normal e' h'
   | false=>K (.exit id') e' h'
  | ex=>K ex e' h'
def vscope (A:VC) (e:ME) (h:Hp) (K:Exit→ME→Hp→Prop):Prop:=A e h fun ex e' h'=>match ex with
  | .goto _=>False
  | ex=>K ex e' h'
def vcode (P:Program) (rf:RF) (cl:Nat→Oper→Cl) (pm:List (Nat×List Nat)) (c:Code):VC :=
 Code.rec (motive:=fun _=>VC)
  (fun e h K=>K .normal e h)
  (fun id ops draw=>vreg P rf cl pm id ops draw)
  (fun _ _ A B=>vseq A B)
  (fun c a b A B=>vcond rf pm c a b A B)
  (fun id _ A=>vblock id A)
  (fun b A e h K=>MLoop (wr rf b) A e h K)
  (fun g ps _ _ A B e h K=>match ev e g with
   | .v (.func (.func gf) a1 a2)=>match callable P gf with
    | true=>MRange P gf a1.toList a2.toList A B ps.toList e h K
    | false=>False
   | _=>False)
  (fun id e h K=>K (.exit id) e h)
  (fun _ A=>vscope A)
  (fun _ e h K=>K .normal e h)
  (fun l e h K=>K (.goto l) e h)
  (fun e h K=>K .ret e h)
  (fun _ _ _ _=>False) c
theorem vcode_elim {P:Program} {rf:RF} {cl:Nat→Oper→Cl} {pm:List (Nat×List Nat)} {N:Nat}:∀ (c:Code) {e:ME} {h:Hp} {K:Exit→ME→Hp→Prop},okC N rf cl pm c=true→vcode P rf cl pm c e h K→mcode P rf N cl pm c e h K:=by
 intro c
 induction c with
 | skip=>intro e h K _ hm;exact hm
 | label l=>intro e h K _ hm;exact hm
 | region id ops draw =>
  intro e h K hk hm
  simp only [okC,Bool.and_eq_true] at hk
  obtain ⟨hk,hku⟩:=hk
  refine ⟨hk,?_⟩
  cases draw with
  | true =>
   have hm:(match memU id (pansOf pm) with
    | false=>match anyD (cl id) ops with
     | true=>match anyN (cl id) ops with
      | true=>∃ Inv:Hp→Prop,UpInv Inv∧Inv h∧vdraw P rf Inv (cl id) ops (orderOf pm id ops) e h (K .normal)
      | false=>∃ Inv:Hp→Prop,Inv h∧vdraw P rf Inv (cl id) ops (orderOf pm id ops) e h (K .normal)
     | false=>vdraw P rf (fun _=>True) (cl id) ops (orderOf pm id ops) e h (K .normal)
    | true=>match anyD (cl id) ops with
     | true=>match anyN (cl id) ops with
      | true=>∃ Inv:Hp→Prop,UpInv Inv∧Inv h∧udraw P rf Inv (cl id) ops (junkE (wrL rf ops) (mkL rf ops) e) (orderOf pm id ops) e h K
      | false=>∃ Inv:Hp→Prop,Inv h∧udraw P rf Inv (cl id) ops (junkE (wrL rf ops) (mkL rf ops) e) (orderOf pm id ops) e h K
     | false=>udraw P rf (fun _=>True) (cl id) ops (junkE (wrL rf ops) (mkL rf ops) e) (orderOf pm id ops) e h K):=hm
   have hlt:∀ i ∈ permOf pm id ops.size,i<ops.size:=by
    have:okR N rf (cl id) pm id ops true=true:=hk
    simp only [okR,Bool.not_true,Bool.false_or,Bool.and_eq_true] at this
    exact (okPerm_spec this.2.2.1).2.1
   have hEL:eLast (cl id) ((permOf pm id ops.size).map (ops.getD · default)):=by
    have:okR N rf (cl id) pm id ops true=true:=hk
    simp only [okR,Bool.not_true,Bool.false_or,Bool.and_eq_true] at this
    exact okPairs_e hlt this.2.2.2
   have hmem:∀ y ∈ orderOf pm id ops,y ∈ ops.toList:=by
    rw [orderOf_eq]
    intro y hy
    obtain ⟨i,hi,rfl⟩:=List.mem_map.1 hy
    rw [Array.getD_eq_getD_getElem?,Array.getElem?_eq_getElem (hlt i hi)]
    exact Array.mem_toList_iff.2 (Array.getElem_mem (hlt i hi))
   rw [orderOf_eq] at hm
   generalize hbb:anyD (cl id) ops=bb at hm
   generalize hnn:anyN (cl id) ops=nn at hm
   have hno:nn=false→∀ y ∈ ops.toList,cl id y=.n→False:=fun hn0 y hy hn=>by
    have:anyN (cl id) ops=true:=List.any_eq_true.2 ⟨y,hy,by rw [hn]⟩
    rw [hnn,hn0] at this;cases this
   cases hu:memU id (pansOf pm) with
   | false =>
    rw [hu] at hm
    rw [if_pos rfl,if_neg (by simp)]
    cases bb with
    | true =>
     cases nn with
     | true=>obtain ⟨Inv,hup,hi,hm⟩:=hm;exact ⟨Inv,fun _ _ _ _=>hup,hi,vdraw_elim _ _ _ (fun _ _ _=>hup) hEL (.inl hi) hm⟩
     | false =>
      obtain ⟨Inv,hi,hm⟩:=hm
      exact ⟨Inv,fun i y hy hn=>(hno rfl y (Array.mem_toList_iff.2 (Array.mem_of_getElem? hy)) hn).elim,hi,vdraw_elim _ _ _ (fun y hy hn=>(hno rfl y (hmem y (by rw [orderOf_eq];exact hy)) hn).elim) hEL (.inl hi) hm⟩
    | false=>exact ⟨fun _=>True,fun _ _ _ _ _ _ _ _=>trivial,trivial,vdraw_elim _ _ _ (fun _ _ _ _ _ _ _=>trivial) hEL (.inl trivial) hm⟩
   | true =>
    rw [hu] at hm
    rw [if_pos rfl,if_pos rfl]
    have hoU:okU rf (cl id) pm id ops=true:=by
     have:(match memU id (pansOf pm) with | true=>okU rf (cl id) pm id ops | false=>true)=true:=hku
     rw [hu] at this;exact this
    have hNE:∀ y ∈ (permOf pm id ops.size).map (ops.getD · default),cl id y≠.e:=by
     intro y hy
     obtain ⟨i,hi,rfl⟩:=List.mem_map.1 hy
     obtain ⟨C,D,hCD⟩:=List.append_of_mem hi
     exact (okUs_at hoU hCD).2.2
    refine ⟨hoU,?_⟩
    cases bb with
    | true =>
     cases nn with
     | true=>obtain ⟨Inv,hup,hi,hm⟩:=hm;exact ⟨Inv,fun _ _ _ _=>hup,hi,udraw_elim _ _ _ (fun _ _ _=>hup) hNE hi hm⟩
     | false =>
      obtain ⟨Inv,hi,hm⟩:=hm
      exact ⟨Inv,fun i y hy hn=>(hno rfl y (Array.mem_toList_iff.2 (Array.mem_of_getElem? hy)) hn).elim,hi,udraw_elim _ _ _ (fun y hy hn=>(hno rfl y (hmem y (by rw [orderOf_eq];exact hy)) hn).elim) hNE hi hm⟩
    | false=>exact ⟨fun _=>True,fun _ _ _ _ _ _ _ _=>trivial,trivial,udraw_elim _ _ _ (fun _ _ _ _ _ _ _=>trivial) hNE trivial hm⟩
  | false =>
   have hm:(match memU id (pansOf pm) with
    | true=>ulist P rf ops ops.toList e h K
    | false=>vlist P rf ops ops.toList e h (K .normal)):=hm
   simp only [Bool.false_eq_true,if_false]
   cases hu:memU id (pansOf pm) with
   | true=>rw [hu] at hm;rw [if_pos rfl];exact ulist_elim _ _ _ hm
   | false=>rw [hu] at hm;rw [if_neg (by simp)];exact vlist_elim _ _ _ hm
 | seq a b iha ihb =>
  intro e h K hk hm
  simp only [okC,Bool.and_eq_true] at hk
  refine mcode_mono a (fun ex e1 h1 hh=>?_) (iha hk.1 hm)
  cases ex <;> first | exact ihb hk.2 hh | exact hh
 | cond c a b iha ihb =>
  intro e h K hk hm
  simp only [okC,Bool.and_eq_true] at hk
  have hm:(match ev e c with
   | .v (.bool t)=>match joined pm c with
    | true=>MIf (wr rf a++wr rf b) t (vcode P rf cl pm a) (vcode P rf cl pm b) e h K
    | false=>bcase t fun t=>match t with
     | true=>vcode P rf cl pm a e h K
     | false=>vcode P rf cl pm b e h K
   | _=>False):=hm
  simp only [mcode]
  split at hm
  ·rename_i t ht
   rw [ht]
   split at hm
   ·obtain ⟨Kx,h1,h2,h3⟩:=hm.go
    refine ⟨fun tt=>?_,fun tt=>?_⟩
    ·exact mcode_mono a (fun ex e1 h' hh=>h3 ex e1 h' hh.1 (hh.2.weak fun s hs=>List.mem_append_left _ hs)) (mcode_same a (iha hk.1 (h1 tt)))
    ·exact mcode_mono b (fun ex e1 h' hh=>h3 ex e1 h' hh.1 (hh.2.weak fun s hs=>List.mem_append_right _ hs)) (mcode_same b (ihb hk.2 (h2 tt)))
   ·have:=bcase_elim hm
    exact ⟨fun tt=>by subst tt;exact iha hk.1 this,fun tt=>by subst tt;exact ihb hk.2 this⟩
  ·exact hm.elim
 | block id b ih =>
  intro e h K hk hm
  refine mcode_mono b (fun ex e1 h1 hh=>?_) (ih (by simpa only [okC] using hk) hm)
  cases ex with
  | exit id' =>
   simp only at hh ⊢
   split at hh
   ·rename_i hid;rw [if_pos (Nat.eq_of_beq_eq_true hid)];exact hh
   ·rename_i hid;rw [if_neg (fun hid'=>by subst hid';rw [Nat.beq_refl] at hid;cases hid)];exact hh
  | _=>exact hh
 | loop b ih =>
  intro e h K hk hm
  exact ⟨fun R hR=>MLoop.go hm R fun e1 h1 Kx s1 hb hn hx=>hR e1 h1 Kx s1 (ih (by simpa only [okC] using hk) hb) hn hx⟩
 | scope b ih=>intro e h K hk hm;exact ih (by simpa only [okC] using hk) hm
 | exit id=>intro e h K _ hm;exact hm
 | goto l=>intro e h K _ hm;exact hm
 | ret=>intro e h K _ hm;exact hm
 | rangeFunc g ps a b iha ihb =>
  intro e h K hk hm
  simp only [okC,Bool.and_eq_true,List.all_eq_true,decide_eq_true_eq] at hk
  obtain ⟨⟨hfa,hfb⟩,hps,hka,hkb⟩:=hk
  have hm:(match ev e g with
   | .v (.func (.func gf) a1 a2)=>match callable P gf with
    | true=>MRange P gf a1.toList a2.toList (vcode P rf cl pm a) (vcode P rf cl pm b) ps.toList e h K
    | false=>False
   | _=>False):=hm
  simp only [mcode]
  split at hm
  ·rename_i gf a1 a2 hg
   split at hm
   ·rename_i hc
    rw [hg]
    refine ⟨hc,hfa,hfb,hps,⟨fun l c hl hy=>hm.go l c hl fun args h1 K1 hr=>hy args h1 K1 ?_⟩⟩
    obtain ⟨q1,q2,q3⟩:=hr
    refine ⟨q1,q2,mcode_mono a (fun ex e1 h2 hh=>?_) (iha hka q3)⟩
    cases ex with
    | normal=>exact ⟨hh.1,ihb hkb hh.2⟩
    | _=>exact hh
   ·exact hm.elim
  ·exact hm.elim
 | refuse why=>intro e h K _ hm;exact hm
def res1K (P:Program) (rf:RF) (e:ME) (h:Hp) (r:ResultVar) (K:Value→Prop):Prop:=match r with
 | .tmp t=>match e.env t with
  | .v x=>K x
  | _=>False
 | .cell a t=>match boxOf rf e (.tmp a) with
  | some (b,off)=>match e.box b with
   | some cs=>loadK P t cs off K
   | none=>False
  | none=>match e.env a with
   | .v (.pointer (some p))=>∃ v,loadH P t h p=some v∧K v
   | _=>False
theorem res1K_elim {P:Program} {rf:RF} {e:ME} {h:Hp} {r:ResultVar} {K:Value→Prop} (hk:res1K P rf e h r K):∃ v,res1 P rf e h r=some v∧K v:=by
 unfold res1K at hk
 cases r with
 | tmp t =>
  simp only at hk
  split at hk
  ·rename_i x hx;exact ⟨x,by simp only [res1,hx],hk⟩
  ·exact hk.elim
 | cell a t =>
  simp only at hk
  split at hk
  ·rename_i b off hb
   split at hk
   ·rename_i cs hcs
    obtain ⟨v,hv,hk⟩:=loadK_elim hk
    exact ⟨v,by simp only [res1,hb,hcs,hv],hk⟩
   ·exact hk.elim
  ·rename_i hb
   split at hk
   ·rename_i p hp
    obtain ⟨v,hv,hk⟩:=hk
    exact ⟨v,by simp only [res1,hb,hp,hv],hk⟩
   ·exact hk.elim
def resK (P:Program) (rf:RF) (e:ME) (h:Hp):List ResultVar→(List Value→Prop)→Prop
 | [],K=>K []
 | r :: rs,K=>res1K P rf e h r fun v=>resK P rf e h rs fun vs=>K (v :: vs)
theorem resK_elim {P:Program} {rf:RF} {e:ME} {h:Hp}:∀ (rs:List ResultVar) {K:List Value→Prop},resK P rf e h rs K→∃ vs,resL P rf e h rs=some vs∧K vs
 | [],K,hk=>⟨[],rfl,hk⟩
 | r :: rs,K,hk=>by
  obtain ⟨v,hv,hk⟩:=res1K_elim (show res1K P rf e h r _ from hk)
  obtain ⟨vs,hvs,hk⟩:=resK_elim rs hk
  exact ⟨v :: vs,by simp only [resL,hv,hvs],hk⟩
def endsK (P:Program) (rf:RF) (fn:Func) (K:Value→Hp→Prop) (ex:Exit) (e:ME) (h:Hp):Prop :=
 match ex with
 | .normal | .ret=>resK P rf e h fn.results.toList fun vs=>K (shut vs) h
 | _=>False
theorem endsK_elim {P : Program} {rf : RF} {fn : Func} {K : Value → Hp → Prop} {ex : Exit} {e : ME} {h : Hp} (hk : endsK P rf fn K ex e h) : ends P rf fn K ex e h := by
  unfold ends
  unfold endsK at hk
  cases ex <;> first
    | exact hk.elim
    | (obtain ⟨vs, hvs, hk⟩ := resK_elim _ hk
       simp only [hvs]
       exact hk)
theorem fnp {P:Program} {f:FuncId} {F:Func} {c:Code} {args:List Value} {h:Hp} {K:Value→Hp→Prop} (hmix:P.follows .mixedOrders=true) (rf:RF) (pf dr:List Nat) (pm:List (Nat×List Nat)) (hf:P.funcs[f]? = some F) (hb:F.body=some c)
  (hok:okC (args.length+(F.ntmps - args.length)) rf (clOf P rf pf dr) pm c=true)
  (hm:vcode P rf (clOf P rf pf dr) pm c ⟨env0 args,fun _=>none⟩ h (endsK P rf F K)):X P f args.toArray h K :=
 X_of hmix rf (clOf P rf pf dr) pm hf hb (mcode_mono c (fun _ _ _ hh=>endsK_elim hh) (vcode_elim c hok hm))
theorem fnv {P:Program} {f:FuncId} {F:Func} {c:Code} {args:List Value} {h:Hp} {K:Value→Hp→Prop} (hmix:P.follows .mixedOrders=true) (rf:RF) (pf dr:List Nat) (hf:P.funcs[f]? = some F) (hb:F.body=some c)
  (hok:okC (args.length+(F.ntmps - args.length)) rf (clOf P rf pf dr) [] c=true)
  (hm:vcode P rf (clOf P rf pf dr) [] c ⟨env0 args,fun _=>none⟩ h (endsK P rf F K)):X P f args.toArray h K:=fnp hmix rf pf dr [] hf hb hok hm
def setS {α:Type}:List Nat→List α→(Nat→α)→(Nat→α)
 | s :: ss,v :: vs,f=>upd (setS ss vs f) s v
 | _,_,f=>f
theorem setS_same {α:Type} (f:Nat→α):∀ ss:List Nat,setS ss (ss.map f) f=f
 | []=>rfl
 | s :: ss=>by show upd (setS ss (ss.map f) f) s (f s)=f;rw [setS_same f ss,upd_eq f s rfl]
theorem loop_at {M:List Nat} {B:ME→Hp→(Exit→ME→Hp→Prop)→Prop} {e:ME} {h:Hp} {K:Exit→ME→Hp→Prop} (ss bs:List Nat) (I:Nat→List MV→List (Option (List Value))→Hp→Prop) (n0:Nat) (h0:I n0 (ss.map e.env) (bs.map e.box) h)
  (hr:∀ n vs cs m bx h,I n vs cs h→B ⟨setS ss vs (mix M m e.env),setS bs cs bx⟩ h fun ex e' h'=>match ex with
   | .normal=>∃ n',n'<n∧I n' (ss.map e'.env) (bs.map e'.box) h'
   | ex=>K ex e' h'):MLoop M B e h K:=by
 refine ⟨fun R hR=>?_⟩
 have key:∀ n e1 h1,Same M e e1→I n (ss.map e1.env) (bs.map e1.box) h1→R e1 h1:=by
  intro n
  induction n using Nat.strongRecOn with
  | _ n ih =>
   intro e1 h1 s1 hI
   have he:(⟨setS ss (ss.map e1.env) (mix M e1.env e.env),setS bs (bs.map e1.box) e1.box⟩:ME)=e1:=by
    have hm:mix M e1.env e.env=e1.env:=by
     funext k
     unfold mix
     split
     ·rfl
     ·rename_i hk;exact (s1 k hk).symm
    rw [hm,setS_same,setS_same]
   have hb:=hr n _ _ e1.env e1.box h1 hI
   rw [he] at hb
   refine hR e1 h1 _ s1 hb (fun e' h' hk s'=>?_) (fun ex e' h' hne hk _=>?_)
   ·obtain ⟨n',hlt,hI'⟩:=hk
    exact ih n' hlt e' h' s' hI'
   ·cases ex <;> first | exact (hne rfl).elim | exact hk
 exact key n0 e h (Same.refl _ _) h0
theorem if_at {M:List Nat} {t:Bool} {A B:VC} {e:ME} {h:Hp} {K:Exit→ME→Hp→Prop} (ss bs:List Nat) (I:List MV→List (Option (List Value))→Hp→Prop)
  (ht:t=true→A e h fun ex e' h'=>match ex with
   | .normal=>I (ss.map e'.env) (bs.map e'.box) h'
   | ex=>K ex e' h')
  (hf:t=false→B e h fun ex e' h'=>match ex with
   | .normal=>I (ss.map e'.env) (bs.map e'.box) h'
   | ex=>K ex e' h')
  (hk:∀ vs cs m bx h',I vs cs h'→K .normal ⟨setS ss vs (mix M m e.env),setS bs cs bx⟩ h'):MIf M t A B e h K:=by
 refine ⟨_,ht,hf,fun ex e' h' hh s1=>?_⟩
 cases ex with
 | normal =>
  have he:(⟨setS ss (ss.map e'.env) (mix M e'.env e.env),setS bs (bs.map e'.box) e'.box⟩:ME)=e':=by
   have hm:mix M e'.env e.env=e'.env:=by
    funext k
    unfold mix
    split
    ·rfl
    ·rename_i hk;exact (s1 k hk).symm
   rw [hm,setS_same,setS_same]
  have:=hk _ _ e'.env e'.box h' hh
  rw [he] at this
  exact this
 | _=>exact hh
theorem loop_step {M:List Nat} {B:ME→Hp→(Exit→ME→Hp→Prop)→Prop} {e:ME} {h:Hp} {K:Exit→ME→Hp→Prop} (hr:B e h fun ex e' h'=>match ex with
   | .normal=>MLoop M B e' h' K
   | ex=>K ex e' h'):MLoop M B e h K:=by
 refine ⟨fun R hR=>?_⟩
 refine hR e h _ (Same.refl _ _) hr (fun e' h' hk s'=>?_) (fun ex e' h' hne hk _=>?_)
 ·exact hk.go R fun e1 h1 Kx s1 hb hn hx=>hR e1 h1 Kx (fun s hs=>by rw [s1 s hs,s' s hs]) hb (fun e2 h2 hk2 s2=>hn e2 h2 hk2 fun s hs=>by rw [s2 s hs,s' s hs])
   (fun ex e2 h2 hne hk2 s2=>hx ex e2 h2 hne hk2 fun s hs=>by rw [s2 s hs,s' s hs])
 ·cases ex <;> first | exact (hne rfl).elim | exact hk
end Go.Mid
