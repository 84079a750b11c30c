/-
  THE MIDDLE LAYER, PART SEVEN: code and functions.
-/
import Derived.Test.YtdhlpighdlnohaaGreatMidF
set_option linter.unusedSimpArgs false
set_option linter.unusedVariables false
set_option maxHeartbeats 8000000
set_option maxRecDepth 10000
set_option linter.unusedSimpArgs false
set_option linter.unusedVariables false
namespace Go.Mid
open Go Go.RowKit
def wrOp (rf:RF) (o:Oper):List Nat:=o.dst.toList++(match makes rf o with | some t=>(rf.filter fun p=>p.2==t).map (·.1) | none=>[])
def wr (rf:RF):Code→List Nat
 | .region _ ops _=>ops.toList.flatMap (wrOp rf)
 | .seq a b=>wr rf a++wr rf b
 | .cond _ a b=>wr rf a++wr rf b
 | .block _ b=>wr rf b
 | .loop b=>wr rf b
 | .scope b=>wr rf b
 | _=>[]
def mix (M:List Nat) (m f:Nat→MV):Nat→MV:=fun s=>if s ∈ M then m s else f s
def Same (M:List Nat) (e e':ME):Prop:=∀ s,s ∉ M→e'.env s=e.env s
structure MLoop (M:List Nat) (B:ME→Hp→(Exit→ME→Hp→Prop)→Prop) (e:ME) (h:Hp) (K:Exit→ME→Hp→Prop):Prop where
 go:∀ R:ME→Hp→Prop,(∀ e1 h1 (Kx:Exit→ME→Hp→Prop),Same M e e1→B e1 h1 Kx→(∀ e' h',Kx .normal e' h'→Same M e e'→R e' h')→(∀ ex e' h',ex≠.normal→Kx ex e' h'→Same M e e'→K ex e' h')→R e1 h1)→R e h
def flat:Code→Bool
 | .rangeFunc ..=>false
 | .scope _=>false
 | .seq a b=>flat a && flat b
 | .cond _ a b=>flat a && flat b
 | .block _ b=>flat b
 | .loop b=>flat b
 | _=>true
def lob (c:Loop) (st:LoopState) (pd:Option Code):Obj:=.loop { c with state:=st,pending:=pd }
def unref:MV→MV
 | .v x=>.v x
 | _=>.junk
def renv (e:ME) (ps:List Nat) (args:List Value):Nat→MV:=(ps.zip args).foldl (fun m p=>upd m p.1 (.v p.2)) (fun s=>unref (e.env s))
abbrev VC:=ME→Hp→(Exit→ME→Hp→Prop)→Prop
def rndEnd (l:Nat) (c:Loop) (K:Value→Hp→Prop) (ex:Exit) (h:Hp):Prop:=match ex with
 | .normal=>K (.bool true) (h.set l (lob c .ready none))
 | .ret=>K (.bool false) (h.set l (lob c .done (some .ret)))
 | .exit id=>K (.bool false) (h.set l (lob c .done (some (.exit id))))
 | .goto t=>K (.bool false) (h.set l (lob c .done (some (.goto t))))
 | _=>False
def Rnd (A B:VC) (ps:List Nat) (e:ME) (l:Nat) (c:Loop) (args:List Value) (h:Hp) (K:Value→Hp→Prop):Prop :=
 args.length=ps.length∧h l=some (lob c .ready none)∧A ⟨renv e ps args,fun _=>none⟩ h fun ex e1 h1=>match ex with
  | .normal=>h1 l=some (lob c .ready none)∧B e1 (h1.set l (lob c .busy none)) fun ex _ h2=>h2 l=some (lob c .busy none)∧rndEnd l c K ex h2
  | _=>False
structure YV (P:Program) (y:Value) (args:List Value) (h:Hp) (K:Value→Hp→Prop):Prop where
 go:∀ (ρ:Operand→Value) (o:Oper) (x:Operand) (xs:Array Operand) (tys:Array TypeId),o.op=.call { callee:=.value x,args:=xs,argTypes:=tys }→ρ x=y→xs.toList.map ρ=args→aRun P (actOf P ρ o) h K
def jumpK (pd:Option Code) (K:Exit→ME→Hp→Prop) (e:ME) (h:Hp):Prop:=match pd with
 | none=>K .normal e h
 | some .ret=>K .ret e h
 | some (.exit id)=>K (.exit id) e h
 | some (.goto t)=>K (.goto t) e h
 | _=>False
abbrev yieldV (l:Nat):Value:=.func (.yield l) #[] #[]
structure MRange (P:Program) (gf:FuncId) (a1 a2:List Value) (A B:VC) (ps:List Nat) (e:ME) (h:Hp) (K:Exit→ME→Hp→Prop):Prop where
 go:∀ (l:Nat) (c:Loop),h l=none→(∀ (args:List Value) (h1:Hp) (K1:Value→Hp→Prop),Rnd A B ps e l c args h1 K1→YV P (yieldV l) args h1 K1) →
  X P gf (a1++(yieldV l :: a2)).toArray (h.set l (lob c .ready none)) fun _ h'=>∃ st pd,h' l=some (lob c st pd)∧st≠.busy∧jumpK pd K e (h'.set l (lob c .exhausted pd))
theorem jumpK_mono {pd:Option Code} {K K':Exit→ME→Hp→Prop} {e:ME} {h:Hp} (hk:∀ ex h,K ex e h→K' ex e h) (hj:jumpK pd K e h):jumpK pd K' e h:=by
 unfold jumpK at *
 split at hj <;> first | exact hk _ _ hj | exact hj
theorem MRange.mono {P:Program} {gf:FuncId} {a1 a2:List Value} {A B:VC} {ps:List Nat} {e:ME} {h:Hp} {K K':Exit→ME→Hp→Prop} (hk:∀ ex h,K ex e h→K' ex e h) (m:MRange P gf a1 a2 A B ps e h K):MRange P gf a1 a2 A B ps e h K' :=
 ⟨fun l c hl hy=>(m.go l c hl hy).mono fun _ _ ⟨st,pd,h1,h2,h3⟩=>⟨st,pd,h1,h2,jumpK_mono hk h3⟩⟩
structure XE (P:Program) (f:FuncId) (args:Array Value) (h:Hp) (K:Value→Hp→Prop) (E:List PanicEntry→Hp→Prop):Prop where
 go:∀ w0 w,Sat w0 h w→Calls P f args w fun e w'=>(∃ v h',e=.returned v∧Ext w0 h w h' w'∧K v h')∨∃ ch h',e=.panicked ch∧Ext w0 h w h' w'∧E ch h'
theorem X.toE {P:Program} {f:FuncId} {args:Array Value} {h:Hp} {K:Value→Hp→Prop} {E:List PanicEntry→Hp→Prop} (x:X P f args h K):XE P f args h K E :=
 ⟨fun w0 w s=>(x.go w0 w s).mono fun _ _ hh=>.inl hh⟩
theorem XE.mono {P:Program} {f:FuncId} {args:Array Value} {h:Hp} {K K':Value→Hp→Prop} {E E':List PanicEntry→Hp→Prop} (x:XE P f args h K E) (hk:∀ v h,K v h→K' v h) (he:∀ c h,E c h→E' c h):XE P f args h K' E' :=
 ⟨fun w0 w s=>(x.go w0 w s).mono fun _ _ hh=>hh.imp (fun ⟨v,h',a,b,c⟩=>⟨v,h',a,b,hk _ _ c⟩) (fun ⟨v,h',a,b,c⟩=>⟨v,h',a,b,he _ _ c⟩)⟩
def run1U (P:Program) (rf:RF) (o:Oper) (pl:Option Plan) (e:ME) (h:Hp) (K:ME→Hp→Prop) (E:List PanicEntry→Hp→Prop):Prop :=
 match pl with
 | some (.act A)=>match o.op with
  | .panic x=>match ev e x with
   | .v (.iface t v)=>E [{ v:=.iface t v,recovered:=false }] h
   | _=>False
  | _=>match A with
   | .call g args=>XE P g args.toArray h (fun v h'=>K ((dstU o.dst (.v v)).app rf e) h') E
   | A=>run1 P rf o (some (.act A)) e h K
 | pl=>run1 P rf o pl e h K
def mlistU (P:Program) (rf:RF) (ops:Array Oper):List Oper→ME→Hp→(Exit→ME→Hp→Prop)→Prop
 | [],e,h,K=>K .normal e h
 | o :: rest,e,h,K=>run1U P rf o (planG P rf ops o e) e h (fun e' h'=>mlistU P rf ops rest e' h' K) fun ch h'=>K (.panic ch) e h'
def pansOf:List (Nat×List Nat)→List Nat
 | []=>[]
 | p :: r=>match Nat.beq p.1 999998 with
  | true=>p.2
  | false=>pansOf r
def memU (n:Nat):List Nat→Bool
 | []=>false
 | k :: r=>match Nat.beq k n with
  | true=>true
  | false=>memU n r
theorem run1U_mono {P:Program} {rf:RF} {o:Oper} {pl:Option Plan} {e:ME} {h:Hp} {K K':ME→Hp→Prop} {E E':List PanicEntry→Hp→Prop} (hk:∀ e h,K e h→K' e h) (he:∀ c h,E c h→E' c h) (hr:run1U P rf o pl e h K E):run1U P rf o pl e h K' E':=by
 unfold run1U at *
 split at hr
 ·split at hr
  ·split at hr <;> first | exact he _ _ hr | exact hr
  ·split at hr
   ·exact hr.mono (fun _ _=>hk _ _) he
   ·exact run1_mono hk hr
 ·exact run1_mono hk hr
theorem mlistU_mono {P:Program} {rf:RF} {ops:Array Oper} {K K':Exit→ME→Hp→Prop} (hk:∀ ex e h,K ex e h→K' ex e h):∀ (l:List Oper) (e:ME) (h:Hp),mlistU P rf ops l e h K→mlistU P rf ops l e h K'
 | [],_,_,hr=>hk _ _ _ hr
 | _ :: rest,_,_,hr=>run1U_mono (fun _ _=>mlistU_mono hk rest _ _) (fun _ _=>hk _ _ _) hr
def isP (o:Oper):Bool:=match o.op with
 | .call c=>match c.callee with
  | .builtin _=>false
  | _=>true
 | .panic _=>true
 | _=>false
def isPC (cl:Oper→Cl) (o:Oper):Bool:=match cl o with
 | .c=>isP o
 | _=>false
def okUs (rf:RF) (cl:Oper→Cl) (ops:Array Oper) (b:List Nat):List Nat→Bool
 | []=>true
 | j :: r=>(match isPC cl (ops.getD j default) with
   | true=>r.all fun i=>(b.getD i 0).testBit j
   | false=>match writes rf (ops.getD j default) with
    | none=>true
    | some _=>r.all fun i=>!isPC cl (ops.getD i default)) && (notE (cl (ops.getD j default)) && okUs rf cl ops b r)
def okU (rf:RF) (cl:Oper→Cl) (pm:List (Nat×List Nat)) (id:Nat) (ops:Array Oper):Bool:=okUs rf cl ops (befores ops.toList []) (permOf pm id ops.size)
def mkL (rf:RF) (ops:Array Oper):List Nat:=ops.toList.flatMap fun o=>(makes rf o).toList
def wrL (rf:RF) (ops:Array Oper):List Nat:=ops.toList.flatMap (wrOp rf)
def junkE (W M:List Nat) (e:ME):ME:=⟨fun s=>match memU s W with
 | true=>.junk
 | false=>e.env s,fun t=>match memU t M with
 | true=>none
 | false=>e.box t⟩
def mdrawU (P:Program) (rf:RF) (Inv:Hp→Prop) (cl:Oper→Cl) (ops:Array Oper) (ep:ME):List Oper→ME→Hp→(Exit→ME→Hp→Prop)→Prop
 | [],e,h,K=>K .normal e h
 | o :: rest,e,h,K=>match isPC cl o with
  | true=>run1U P rf o (planG P rf ops o e) e h (fun e' h'=>Inv h'∧mdrawU P rf Inv cl ops ep rest e' h' K) fun ch h'=>K (.panic ch) ep h'
  | false=>mrun P rf Inv (cl o) o (planG P rf ops o e) e h fun e' h'=>mdrawU P rf Inv cl ops ep rest e' h' K
def mcode (P:Program) (rf:RF) (N:Nat) (cl:Nat→Oper→Cl) (pm:List (Nat×List Nat)):Code→ME→Hp→(Exit→ME→Hp→Prop)→Prop
 | .skip,e,h,K=>K .normal e h
 | .label _,e,h,K=>K .normal e h
 | .region id ops draw,e,h,K=>okR N rf (cl id) pm id ops draw=true∧(if draw then (if memU id (pansOf pm)=true then okU rf (cl id) pm id ops=true∧∃ Inv:Hp→Prop,(∀ (i:Nat) y,ops[i]? = some y→cl id y=.n→UpInv Inv)∧Inv h∧mdrawU P rf Inv (cl id) ops (junkE (wrL rf ops) (mkL rf ops) e) ((permOf pm id ops.size).map (ops.getD · default)) e h K else ∃ Inv:Hp→Prop,(∀ (i:Nat) y,ops[i]? = some y→cl id y=.n→UpInv Inv)∧Inv h∧mdraw P rf Inv (cl id) ops ((permOf pm id ops.size).map (ops.getD · default)) e h (K .normal)) else if memU id (pansOf pm)=true then mlistU P rf ops ops.toList e h K else mlist P rf ops ops.toList e h (K .normal))
 | .seq a b,e,h,K=>mcode P rf N cl pm a e h fun ex e' h'=>match ex with
  | .normal=>mcode P rf N cl pm b e' h' K
  | ex=>K ex e' h'
 | .cond c a b,e,h,K=>match ev e c with
  | .v (.bool t)=>(t=true→mcode P rf N cl pm a e h K)∧(t=false→mcode P rf N cl pm b e h K)
  | _=>False
 | .block id b,e,h,K=>mcode P rf N cl pm b e h fun ex e' h'=>match ex with
  | .exit id'=>if id'=id then K .normal e' h' else K (.exit id') e' h'
  | ex=>K ex e' h'
 | .loop b,e,h,K=>MLoop (wr rf b) (fun e h K=>mcode P rf N cl pm b e h K) e h K
 | .scope b,e,h,K=>mcode P rf N cl pm b e h fun ex e' h'=>match ex with
  | .goto _=>False
  | ex=>K ex e' h'
 | .exit id,e,h,K=>K (.exit id) e h
 | .goto l,e,h,K=>K (.goto l) e h
 | .ret,e,h,K=>K .ret e h
 | .rangeFunc g ps a b,e,h,K=>match ev e g with
  | .v (.func (.func gf) a1 a2)=>callable P gf=true∧flat a=true∧flat b=true∧(∀ t ∈ ps.toList,t<N)∧MRange P gf a1.toList a2.toList (fun e h K=>mcode P rf N cl pm a e h K) (fun e h K=>mcode P rf N cl pm b e h K) ps.toList e h K
  | _=>False
 | .refuse _,_,_,_=>False
section
variable {P:Program} {rf:RF} {ops:Array Oper} {N:Nat} {Inv:Hp→Prop}
theorem Same.refl (M:List Nat) (e:ME):Same M e e:=fun _ _=>rfl
theorem Same.trans {M M':List Nat} {e e' e'':ME} (a:Same M e e') (b:Same M' e' e''):Same (M++M') e e'':=fun s hs=>by
 rw [b s (fun x=>hs (List.mem_append_right _ x)),a s (fun x=>hs (List.mem_append_left _ x))]
theorem Same.weak {M M':List Nat} {e e':ME} (a:Same M e e') (h:∀ s,s ∈ M→s ∈ M'):Same M' e e':=fun s hs=>a s fun x=>hs (h s x)
theorem rf_mem:∀ {rf:RF} {s t:Nat},rf.of s=some t→s ∈ (rf.filter fun p=>p.2==t).map (·.1)
 | [],_,_,h=>by cases h
 | (a,b) :: r,s,t,h=>by
  unfold RF.of at h
  split at h
  ·rename_i hs;cases h;subst hs;simp
  ·have:=rf_mem h
   simp only [List.mem_map,List.mem_filter] at this ⊢
   obtain ⟨p,⟨hp1,hp2⟩,hp3⟩:=this
   exact ⟨p,⟨List.mem_cons_of_mem _ hp1,hp2⟩,hp3⟩
theorem same_app {o:Oper} {u:Upd} {e:ME} (hu:u.fits rf o) (hm:∀ t cs,u=.newbox t cs→makes rf o=some t):Same (wrOp rf o) e (u.app rf e):=by
 intro s hs
 unfold wrOp at hs
 cases u with
 | none=>rfl
 | slot d m=>exact upd_other _ _ (fun (x:s=d)=>hs (List.mem_append_left _ (by rw [hu];simp [x])))
 | newbox t cs =>
  have hmk:=hm t cs rfl
  rw [hmk] at hs
  show upd (kill rf t e.env) t _ s=_
  rw [upd_other _ _ (fun (x:s=t)=>hs (List.mem_append_left _ (by rw [hu.1];simp [x])))]
  unfold kill
  rw [if_neg (fun hr=>hs (List.mem_append_right _ (rf_mem hr)))]
 | setbox b cs=>rfl
theorem gen_nb {o:Oper} {e:ME} {t:Nat} {cs:List Value} {α:Prop} (hp:gen P o e=some (.upd (.newbox t cs))):α:=by
 obtain ⟨v,hv⟩:=gen_upd hp
 cases hd:o.dst <;> rw [hd] at hv <;> cases hv
theorem plan_makes {o:Oper} {e:ME} {t:Nat} {cs:List Value} (hp:planG P rf ops o e=some (.upd (.newbox t cs))):makes rf o=some t:=by
 unfold planG at hp
 split at hp
 ·split at hp
  ·obtain ⟨dst,op,ty,pos,after,guard⟩:=o
   cases op with
   | alloc el =>
    cases dst with
    | none=>exact gen_nb hp
    | some d =>
     simp only [plan] at hp
     split at hp
     ·rename_i hr
      (repeat' split at hp) <;> first | (cases hp;done) | (cases hp;simp [makes,hr])
     ·exact gen_nb hp
   | box el x =>
    cases dst with
    | none=>exact gen_nb hp
    | some d =>
     simp only [plan] at hp
     split at hp
     ·rename_i hr
      (repeat' split at hp) <;> first | (cases hp;done) | (cases hp;simp [makes,hr])
     ·exact gen_nb hp
   | move x | assign x =>
    simp only [plan] at hp
    split at hp
    ·unfold refU at hp;(repeat' split at hp) <;> cases hp
    ·cases dst <;> (repeat' split at hp) <;> cases hp
   | nilCheck x | fieldAddr s x f | indexAddr s x f =>
    simp only [plan] at hp
    (repeat' split at hp) <;> first | (cases hp;done) | exact gen_nb hp | (unfold refU at hp;(repeat' split at hp) <;> cases hp)
   | load t x =>
    simp only [plan] at hp
    (repeat' split at hp) <;> first | (cases hp;done) | exact gen_nb hp | (cases dst <;> cases hp)
   | store t x y =>
    simp only [plan] at hp
    (repeat' split at hp) <;> first | (cases hp;done) | exact gen_nb hp
   | _=>exact gen_nb (P:=P) hp
  ·cases hd:o.dst <;> rw [hd] at hp <;> cases hp
 ·cases hp
theorem run1_same {o:Oper} {e:ME} {h:Hp} {K:ME→Hp→Prop} (hr:run1 P rf o (planG P rf ops o e) e h K):run1 P rf o (planG P rf ops o e) e h fun e' h'=>K e' h'∧Same (wrOp rf o) e e':=by
 have hf:∀ u,planG P rf ops o e=some (.upd u)→u.fits rf o:=fun _=>planG_fits
 have hm:∀ t cs,planG P rf ops o e=some (.upd (.newbox t cs))→makes rf o=some t:=fun _ _=>plan_makes
 generalize planG P rf ops o e=pl at *
 cases pl with
 | none=>exact hr
 | some p=>cases p with
  | upd u=>exact ⟨hr,same_app (hf u rfl) fun t cs hh=>hm t cs (by rw [hh])⟩
  | act s =>
   refine aRun_mono (fun v h'' hk=>⟨hk,?_⟩) hr
   exact same_app (fits_dstU _ _ _) fun t cs hh=>by cases hd:o.dst <;> rw [hd] at hh <;> cases hh
theorem mlist_same:∀ (l:List Oper) (e:ME) (h:Hp) (K:ME→Hp→Prop),mlist P rf ops l e h K→mlist P rf ops l e h fun e' h'=>K e' h'∧Same (l.flatMap (wrOp rf)) e e'
 | [],e,_,_,hm=>⟨hm,Same.refl _ _⟩
 | o :: r,e,h,K,hm=>by
  refine run1_mono ?_ (run1_same hm)
  rintro e1 h1 ⟨hm1,s1⟩
  refine mlist_mono ?_ r e1 h1 (mlist_same r e1 h1 K hm1)
  rintro e2 h2 ⟨k,s2⟩
  exact ⟨k,by simpa using s1.trans s2⟩
theorem run1U_same {o:Oper} {e:ME} {h:Hp} {K:ME→Hp→Prop} {E:List PanicEntry→Hp→Prop} (hr:run1U P rf o (planG P rf ops o e) e h K E):run1U P rf o (planG P rf ops o e) e h (fun e' h'=>K e' h'∧Same (wrOp rf o) e e') E:=by
 have h1:∀ {K:ME→Hp→Prop},run1 P rf o (planG P rf ops o e) e h K→run1 P rf o (planG P rf ops o e) e h fun e' h'=>K e' h'∧Same (wrOp rf o) e e':=run1_same
 generalize planG P rf ops o e=pl at *
 unfold run1U at *
 split at hr
 ·split at hr
  ·exact hr
  ·split at hr
   ·exact hr.mono (fun v h'' hk=>⟨hk,same_app (fits_dstU _ _ _) fun t cs hh=>by cases hd:o.dst <;> rw [hd] at hh <;> cases hh⟩) fun _ _ hh=>hh
   ·exact h1 hr
 ·exact h1 hr
theorem mlistU_same:∀ (l:List Oper) (e:ME) (h:Hp) (K:Exit→ME→Hp→Prop),mlistU P rf ops l e h K→mlistU P rf ops l e h fun ex e' h'=>K ex e' h'∧Same (l.flatMap (wrOp rf)) e e'
 | [],e,_,_,hm=>⟨hm,Same.refl _ _⟩
 | o :: r,e,h,K,hm=>by
  refine run1U_mono ?_ (fun c h' hh=>⟨hh,Same.refl _ _⟩) (run1U_same hm)
  rintro e1 h1 ⟨hm1,s1⟩
  refine mlistU_mono ?_ r e1 h1 (mlistU_same r e1 h1 K hm1)
  rintro ex e2 h2 ⟨k,s2⟩
  exact ⟨k,by simpa using s1.trans s2⟩
theorem mrun_same {k:Cl} {o:Oper} {e:ME} {h:Hp} {K:ME→Hp→Prop} (hr:mrun P rf Inv k o (planG P rf ops o e) e h K):mrun P rf Inv k o (planG P rf ops o e) e h fun e' h'=>K e' h'∧Same (wrOp rf o) e e':=by
 have hf:∀ u,planG P rf ops o e=some (.upd u)→u.fits rf o:=fun _=>planG_fits
 have hm:∀ t cs,planG P rf ops o e=some (.upd (.newbox t cs))→makes rf o=some t:=fun _ _=>plan_makes
 have fin:∀ {u:Upd},planG P rf ops o e≠none→(∀ A,planG P rf ops o e=some (.act A)→∃ v,u=dstU o.dst (.v v))→(∀ u',planG P rf ops o e=some (.upd u')→u=u')→Same (wrOp rf o) e (u.app rf e):=by
  intro u hn s1 s2
  generalize planG P rf ops o e=pl at *
  cases pl with
  | none=>exact absurd rfl hn
  | some p=>cases p with
   | upd u'=>have:=s2 u' rfl;subst this;exact same_app (hf _ rfl) fun t cs hh=>hm t cs (by rw [hh])
   | act s=>obtain ⟨v,rfl⟩:=s1 s rfl;exact same_app (fits_dstU _ _ _) fun t cs hh=>by cases hd:o.dst <;> rw [hd] at hh <;> cases hh
 cases k with
 | c =>
  have hr:run1 P rf o (planG P rf ops o e) e h (fun e' h'=>Inv h'∧K e' h'):=hr
  show run1 P rf o (planG P rf ops o e) e h (fun e' h'=>Inv h'∧(K e' h'∧Same (wrOp rf o) e e'))
  exact run1_mono (fun _ _ ⟨⟨x,y⟩,z⟩=>⟨x,y,z⟩) (run1_same hr)
 | n=>exact ⟨hr.1,run1_same hr.2⟩
 | e=>exact run1_same hr
 | a =>
  unfold mrun at *
  simp only at *
  split at hr
  ·rename_i u hu
   obtain ⟨s1,s2⟩:=updA_spec hu
   exact ⟨hr,fin (fun hn=>by rw [hn] at hu;cases hu) s1 s2⟩
  ·exact hr
 | b =>
  unfold mrun at *
  simp only at *
  obtain ⟨u,h1,h2,_,s1,s2⟩:=runB_spec hr
  exact h2 ⟨h1,fin (fun hn=>by rw [hn] at hr;exact hr) s1 s2⟩
 | d =>
  unfold mrun at *
  simp only at *
  obtain ⟨u,h1,h2,_,s1,s2⟩:=runD_spec hr
  exact h2 ⟨h1,fin (fun hn=>by rw [hn] at hr;exact hr) s1 s2⟩
theorem mdraw_mono {cl:Oper→Cl} {K K':ME→Hp→Prop} (hk:∀ e h,K e h→K' e h):∀ (l:List Oper) (e:ME) (h:Hp),mdraw P rf Inv cl ops l e h K→mdraw P rf Inv cl ops l e h K'
 | [],_,_,hr=>hk _ _ hr
 | _ :: rest,_,_,hr=>mrun_mono (fun _ _=>mdraw_mono hk rest _ _) hr
theorem mdraw_same {cl:Oper→Cl}:∀ (l:List Oper) (e:ME) (h:Hp) (K:ME→Hp→Prop),mdraw P rf Inv cl ops l e h K→mdraw P rf Inv cl ops l e h fun e' h'=>K e' h'∧Same (l.flatMap (wrOp rf)) e e'
 | [],e,_,_,hm=>⟨hm,Same.refl _ _⟩
 | o :: r,e,h,K,hm=>by
  refine mrun_mono ?_ (mrun_same hm)
  rintro e1 h1 ⟨hm1,s1⟩
  refine mdraw_mono ?_ r e1 h1 (mdraw_same r e1 h1 K hm1)
  rintro e2 h2 ⟨k,s2⟩
  exact ⟨k,by simpa using s1.trans s2⟩
theorem memU_iff (n:Nat):∀ l:List Nat,memU n l=true↔n ∈ l
 | []=>by simp [memU]
 | k :: r=>by
  unfold memU
  split
  ·rename_i hb;simp [Nat.eq_of_beq_eq_true hb]
  ·rename_i hb
   rw [memU_iff n r]
   have:n≠k:=fun e=>by subst e;rw [Nat.beq_refl] at hb;cases hb
   simp [this]
theorem mdrawU_mono {cl:Oper→Cl} {ep:ME} {K K':Exit→ME→Hp→Prop} (hk:∀ ex e h,K ex e h→K' ex e h):∀ (l:List Oper) (e:ME) (h:Hp),mdrawU P rf Inv cl ops ep l e h K→mdrawU P rf Inv cl ops ep l e h K'
 | [],_,_,hr=>hk _ _ _ hr
 | o :: rest,_,_,hr=>by
  unfold mdrawU at *
  split at hr
  ·exact run1U_mono (fun _ _ ⟨a,b⟩=>⟨a,mdrawU_mono hk rest _ _ b⟩) (fun _ _=>hk _ _ _) hr
  ·exact mrun_mono (fun _ _=>mdrawU_mono hk rest _ _) hr
theorem junk_same (W M:List Nat) (e:ME):Same W e (junkE W M e):=fun s hs=>by
 show (match memU s W with | true=>MV.junk | false=>e.env s)=_
 cases hm:memU s W with
 | true=>exact absurd ((memU_iff _ _).1 hm) hs
 | false=>rfl
theorem mdrawU_same {cl:Oper→Cl} {ep e0:ME} {W:List Nat} (hep:Same W e0 ep):∀ (l:List Oper) (e:ME) (h:Hp) (K:Exit→ME→Hp→Prop),(∀ o ∈ l,∀ s ∈ wrOp rf o,s ∈ W)→Same W e0 e→mdrawU P rf Inv cl ops ep l e h K→mdrawU P rf Inv cl ops ep l e h fun ex e' h'=>K ex e' h'∧Same W e0 e'
 | [],e,_,_,_,s,hm=>⟨hm,s⟩
 | o :: r,e,h,K,hl,s,hm=>by
  have hl':∀ o ∈ r,∀ s ∈ wrOp rf o,s ∈ W:=fun y hy=>hl y (List.mem_cons_of_mem _ hy)
  have ho:∀ {e1:ME},Same (wrOp rf o) e e1→Same W e0 e1:=fun s1 x hx=>(s1 x fun hh=>hx (hl o (by simp) x hh)).trans (s x hx)
  unfold mdrawU at *
  split at hm
  ·rename_i hp
   simp only [hp]
   refine run1U_mono ?_ ?_ (run1U_same hm)
   ·rintro e1 h1 ⟨⟨hi,hm1⟩,s1⟩
    exact ⟨hi,mdrawU_same hep r e1 h1 K hl' (ho s1) hm1⟩
   ·exact fun _ _ hh=>⟨hh,hep⟩
  ·rename_i hp
   refine mrun_mono ?_ (mrun_same hm)
   rintro e1 h1 ⟨hm1,s1⟩
   exact mdrawU_same hep r e1 h1 K hl' (ho s1) hm1
variable {cl:Nat→Oper→Cl} {pm:List (Nat×List Nat)}
theorem mcode_mono:∀ (c:Code) {e:ME} {h:Hp} {K K':Exit→ME→Hp→Prop},(∀ ex e h,K ex e h→K' ex e h)→mcode P rf N cl pm c e h K→mcode P rf N cl pm c e h K':=by
 intro c
 induction c with
 | skip=>intro e h K K' hk hm;exact hk _ _ _ hm
 | label l=>intro e h K K' hk hm;exact hk _ _ _ hm
 | region id ops draw =>
  intro e h K K' hk hm
  refine ⟨hm.1,?_⟩
  have hm:=hm.2
  cases draw with
  | true =>
   simp only [if_true] at hm ⊢
   split at hm
   ·rename_i hu
    rw [if_pos hu]
    obtain ⟨ho,Inv,hup,hi,hm⟩:=hm
    exact ⟨ho,Inv,hup,hi,mdrawU_mono hk _ _ _ hm⟩
   ·rename_i hu
    rw [if_neg hu]
    obtain ⟨Inv,hup,hi,hm⟩:=hm;exact ⟨Inv,hup,hi,mdraw_mono (fun _ _=>hk _ _ _) _ _ _ hm⟩
  | false =>
   simp only [Bool.false_eq_true,if_false] at hm ⊢
   split at hm
   ·rename_i hu;rw [if_pos hu];exact mlistU_mono hk _ _ _ hm
   ·rename_i hu;rw [if_neg hu];exact mlist_mono (fun _ _=>hk _ _ _) _ _ _ hm
 | seq a b iha ihb =>
  intro e h K K' hk hm
  refine iha (fun ex e1 h1 hh=>?_) hm
  cases ex <;> first | exact ihb hk hh | exact hk _ _ _ hh
 | cond c a b iha ihb =>
  intro e h K K' hk hm
  simp only [mcode] at *
  split at hm
  ·exact ⟨fun t=>iha hk (hm.1 t),fun t=>ihb hk (hm.2 t)⟩
  ·exact hm
 | block id b ih =>
  intro e h K K' hk hm
  refine ih (fun ex e1 h1 hh=>?_) hm
  cases ex with
  | exit id'=>simp only at hh ⊢;split at hh <;> rename_i hid <;> simp only [hid,if_true,if_false] <;> exact hk _ _ _ hh
  | _=>exact hk _ _ _ hh
 | loop b ih =>
  intro e h K K' hk hm
  exact ⟨fun R hR=>MLoop.go hm R fun e1 h1 Kx s1 hb hn hx=>hR e1 h1 Kx s1 hb hn fun ex e' h' hne hk' s'=>hk _ _ _ (hx ex e' h' hne hk' s')⟩
 | scope b ih =>
  intro e h K K' hk hm
  refine ih (fun ex e1 h1 hh=>?_) hm
  cases ex <;> first | exact hh | exact hk _ _ _ hh
 | exit id=>intro e h K K' hk hm;exact hk _ _ _ hm
 | goto l=>intro e h K K' hk hm;exact hk _ _ _ hm
 | ret=>intro e h K K' hk hm;exact hk _ _ _ hm
 | rangeFunc f ps a b =>
  intro e h K K' hk hm
  simp only [mcode] at *
  split at hm
  ·exact ⟨hm.1,hm.2.1,hm.2.2.1,hm.2.2.2.1,hm.2.2.2.2.mono fun ex h hh=>hk _ _ _ hh⟩
  ·exact hm
 | refuse why=>intro e h K K' hk hm;exact hm
theorem mcode_same:∀ (c:Code) {e:ME} {h:Hp} {K:Exit→ME→Hp→Prop},mcode P rf N cl pm c e h K→mcode P rf N cl pm c e h fun ex e' h'=>K ex e' h'∧Same (wr rf c) e e':=by
 intro c
 induction c with
 | skip=>intro e h K hm;exact ⟨hm,Same.refl _ _⟩
 | label l=>intro e h K hm;exact ⟨hm,Same.refl _ _⟩
 | region id ops draw =>
  intro e h K hm
  have hok:=hm.1
  refine ⟨hm.1,?_⟩
  have hm:=hm.2
  cases draw with
  | true =>
   simp only [if_true] at hm ⊢
   split at hm
   ·rename_i hu
    rw [if_pos hu]
    obtain ⟨ho,Inv,hup,hi,hm⟩:=hm
    refine ⟨ho,Inv,hup,hi,mdrawU_same (junk_same _ _ _) _ _ _ _ (fun o ho s hs=>?_) (Same.refl _ _) hm⟩
    obtain ⟨i,hi,rfl⟩:=List.mem_map.1 ho
    simp only [okR,Bool.not_true,Bool.false_or,Bool.and_eq_true] at hok
    have hlt:=(okPerm_spec hok.2.2.1).2.1 i hi
    refine List.mem_flatMap.2 ⟨ops.getD i default,?_,hs⟩
    rw [Array.getD_eq_getD_getElem?,Array.getElem?_eq_getElem hlt]
    exact Array.mem_toList_iff.2 (Array.getElem_mem hlt)
   rename_i hu
   rw [if_neg hu]
   obtain ⟨Inv,hup,hi,hm⟩:=hm
   refine ⟨Inv,hup,hi,mdraw_mono (fun e' h' hk=>⟨hk.1,hk.2.weak fun s hs=>?_⟩) _ _ _ (mdraw_same _ _ _ _ hm)⟩
   obtain ⟨o,ho,hso⟩:=List.mem_flatMap.1 hs
   obtain ⟨i,hi,rfl⟩:=List.mem_map.1 ho
   simp only [okR,Bool.not_true,Bool.false_or,Bool.and_eq_true] at hok
   have hlt:=(okPerm_spec hok.2.2.1).2.1 i hi
   refine List.mem_flatMap.2 ⟨ops.getD i default,?_,hso⟩
   rw [Array.getD_eq_getD_getElem?,Array.getElem?_eq_getElem hlt]
   exact Array.mem_toList_iff.2 (Array.getElem_mem hlt)
  | false =>
   simp only [Bool.false_eq_true,if_false] at hm ⊢
   split at hm
   ·rename_i hu;rw [if_pos hu];exact mlistU_same _ _ _ _ hm
   ·rename_i hu;rw [if_neg hu];exact mlist_same _ _ _ _ hm
 | seq a b iha ihb =>
  intro e h K hm
  refine mcode_mono a (fun ex e1 h1 hh=>?_) (iha hm)
  obtain ⟨hh,s1⟩:=hh
  cases ex with
  | normal=>exact mcode_mono b (fun ex e2 h2 ⟨k,s2⟩=>⟨k,s1.trans s2⟩) (ihb hh)
  | _=>exact ⟨hh,s1.weak fun s hs=>List.mem_append_left _ hs⟩
 | cond c a b iha ihb =>
  intro e h K hm
  simp only [mcode] at *
  split at hm
  ·exact ⟨fun t=>mcode_mono a (fun ex e2 h2 ⟨k,s2⟩=>⟨k,s2.weak fun s hs=>List.mem_append_left _ hs⟩) (iha (hm.1 t)),
    fun t=>mcode_mono b (fun ex e2 h2 ⟨k,s2⟩=>⟨k,s2.weak fun s hs=>List.mem_append_right _ hs⟩) (ihb (hm.2 t))⟩
  ·exact hm
 | block id b ih =>
  intro e h K hm
  refine mcode_mono b (fun ex e1 h1 hh=>?_) (ih hm)
  obtain ⟨hh,s1⟩:=hh
  cases ex with
  | exit id'=>simp only at hh ⊢;split at hh <;> rename_i hid <;> simp only [hid,if_true,if_false] <;> exact ⟨hh,s1⟩
  | _=>exact ⟨hh,s1⟩
 | loop b ih =>
  intro e h K hm
  exact ⟨fun R hR=>MLoop.go hm R fun e1 h1 Kx s1 hb hn hx=>hR e1 h1 Kx s1 hb hn fun ex e' h' hne hk' s'=>⟨hx ex e' h' hne hk' s',s'⟩⟩
 | scope b ih =>
  intro e h K hm
  refine mcode_mono b (fun ex e1 h1 hh=>?_) (ih hm)
  obtain ⟨hh,s1⟩:=hh
  cases ex <;> first | exact hh | exact ⟨hh,s1⟩
 | exit id=>intro e h K hm;exact ⟨hm,Same.refl _ _⟩
 | goto l=>intro e h K hm;exact ⟨hm,Same.refl _ _⟩
 | ret=>intro e h K hm;exact ⟨hm,Same.refl _ _⟩
 | rangeFunc f ps a b =>
  intro e h K hm
  simp only [mcode] at *
  split at hm
  ·exact ⟨hm.1,hm.2.1,hm.2.2.1,hm.2.2.2.1,hm.2.2.2.2.mono fun ex h hh=>⟨hh,Same.refl _ _⟩⟩
  ·exact hm
 | refuse why=>intro e h K hm;exact hm
def GoesX (rf:RF) (N:Nat) (dz:DZ) (w0:World) (h0:Hp) (we:World) (K:Exit→ME→Hp→Prop) (ex:Exit) (a:Go.Act) (w:World):Prop:=∃ e h,At rf N dz w0 h0 we e h a w∧K ex e h
theorem renv_base {N:Nat} (m:Nat→MV) (tm:Array Value) (hs:tm.size=N) (h1:∀ s x,m s=.v x→tm.getD s undef=x) (h2:∀ s,(∃ x,m s=.v x)∨m s=.junk) :
  tm.size=N∧(∀ s,∀ rf β,Rel1 rf β s (tm.getD s undef) (m s))∧(∀ s off,m s≠.ref off):=by
 refine ⟨hs,fun s rf β=>?_,fun s off hh=>?_⟩
 ·rcases h2 s with ⟨x,hx⟩ | hx
  ·rw [hx];exact h1 s x hx
  ·rw [hx];trivial
 ·rcases h2 s with ⟨x,hx⟩ | hx <;> rw [hx] at hh <;> cases hh
theorem renv_rel {N:Nat}:∀ (ps:List Nat) (args:List Value) (m:Nat→MV) (tm:Array Value),(∀ t ∈ ps,t<N)→tm.size=N→(∀ s x,m s=.v x→tm.getD s undef=x)→(∀ s,(∃ x,m s=.v x)∨m s=.junk) →
  ((ps.zip args).foldl (fun tm p=>tm.setIfInBounds p.1 p.2) tm).size=N∧(∀ s,∀ rf β,Rel1 rf β s (((ps.zip args).foldl (fun tm p=>tm.setIfInBounds p.1 p.2) tm).getD s undef) ((ps.zip args).foldl (fun m p=>upd m p.1 (.v p.2)) m s))∧(∀ s off,(ps.zip args).foldl (fun m p=>upd m p.1 (.v p.2)) m s≠.ref off)
 | [],args,m,tm,_,hs,h1,h2=>renv_base m tm hs h1 h2
 | p :: ps,[],m,tm,hp,hs,h1,h2=>renv_base m tm hs h1 h2
 | p :: ps,a :: args,m,tm,hp,hs,h1,h2=>by
  have hpN:=hp p (by simp)
  refine renv_rel ps args (upd m p (.v a)) (tm.setIfInBounds p a) (fun t ht=>hp t (by simp [ht])) (by simp [hs]) (fun s x hx=>?_) (fun s=>?_)
  ·unfold upd at hx
   split at hx
   ·rename_i hsp;cases hx;subst hsp;simp [Array.getD_eq_getD_getElem?,Array.getElem?_setIfInBounds,hs,hpN]
   ·rename_i hsp
    rw [← h1 s x hx]
    simp [Array.getD_eq_getD_getElem?,Array.getElem?_setIfInBounds,Ne.symm hsp]
  ·unfold upd
   split
   ·exact .inl ⟨_,rfl⟩
   ·exact h2 s
theorem run_resolve {ρ:Operand→Value} {g:Operand} {l:Nat} {gf:FuncId} {a1 a2:Array Value} {w:World} (hg:ρ g=.func (.func gf) a1 a2) (hy:ρ (.const (yieldV l))=yieldV l) (hc:callable P gf=true) :
  ∃ d,(resolve ρ (rangeCall g l) 0).run P w=.ok d w∧(invoke d.target d.args).run P w=.ok (.enter gf (a1.toList++(yieldV l :: a2.toList)).toArray) w:=by
 unfold callable at hc
 split at hc
 ·rename_i fn hf
  simp only [Bool.and_eq_true,Bool.not_eq_true',Option.isSome_iff_ne_none] at hc
  have hname : ¬ fn.name = "runtime.NumGoroutine" := by simpa using hc.1
  have hbody:¬ fn.body=none:=by simpa using hc.2
  have ea:(a1.toList++(yieldV l :: a2.toList)).toArray=(a1++#[yieldV l])++a2:=by apply Array.ext';simp
  refine ⟨{ target:=.fn (.func gf) a2,args:=a1++#[yieldV l] },by simp [resolve,hg,Deferred.ofValue];exact congrArg a1.push hy,?_⟩
  rw [ea]
  simp [invoke,callFunc,hf,hname,hbody]
 ·cases hc
theorem yield_sound {N:Nat} {rf:RF} {x y:Code} {ps:Array Tmp} {e:ME} {l:Nat} {c:Loop} (hps:∀ t ∈ ps.toList,t<N) (hc1:c.params=ps) (hc2:c.assign=x) (hc3:c.body=y) (hc4:c.tmps.size=N)
  (hc5:∀ s v,e.env s=.v v→c.tmps.getD s undef=v) {A B:VC}
  (hA:∀ {dz:DZ} {w0 we:World} {h0:Hp} {e h a w K},A e h K→At rf N dz w0 h0 we e h a w→x.wpIn (FW (some l)) 0 P (GoesX rf N dz w0 h0 we K) a w)
  (hB:∀ {dz:DZ} {w0 we:World} {h0:Hp} {e h a w K},B e h K→At rf N dz w0 h0 we e h a w→y.wpIn (FW (some l)) 0 P (GoesX rf N dz w0 h0 we K) a w)
  (args:List Value) (h1:Hp) (K1:Value→Hp→Prop) (hr:Rnd A B ps.toList e l c args h1 K1):YV P (yieldV l) args h1 K1:=by
 obtain ⟨hlen,hl,hr⟩:=hr
 refine ⟨fun ρ o z xs tys ho hρ hargs=>?_⟩
 have hact:actOf P ρ o=.sem (execOp ρ o):=by
  unfold actOf
  simp only [ho,hρ]
 rw [hact]
 have hxs:xs.map ρ=args.toArray:=by rw [← hargs];apply Array.ext';simp
 have hex:execOp ρ o=Instr.yield l args.toArray:=by
  unfold execOp
  simp [ho,resolve,hρ,Deferred.ofValue,invoke,hxs]
 show mid P (execOp ρ o) h1 fun nx h'=>fin P nx h' K1
 rw [hex]
 unfold Instr.yield Instr.getLoop
 refine (mid_bind _ _ _ _).2 ((mid_bind _ _ _ _).2 ?_)
 show mid P (getObj l) h1 _
 unfold getObj
 simp only [mid,hl,lob]
 show mid P (ite (args.toArray.size≠c.params.size) _ _) h1 _
 rw [if_neg (by simp [hc1,hlen])]
 show fin P (.round l c.fn _ c.assign c.body) h1 K1
 rw [hc1,hc2,hc3]
 refine ⟨fun w0' w' hs=>?_⟩
 refine roundIn_of_wpIn (F:=Fence.wide) trivial ?_
 have htm:((ps.zip args.toArray).foldl (fun tmps (t,a)=>tmps.setIfInBounds t a) c.tmps)=(ps.toList.zip args).foldl (fun tm p=>tm.setIfInBounds p.1 p.2) c.tmps:=by
  rw [← Array.foldl_toList,Array.toList_zip]
 obtain ⟨g1,g2,g3⟩:=renv_rel ps.toList args (fun s=>unref (e.env s)) c.tmps hps hc4 (fun s v hv=>by
   have hv:unref (e.env s)=.v v:=hv
   cases he:e.env s with
   | v u=>rw [he] at hv;cases hv;exact hc5 s _ he
   | ref off=>rw [he] at hv;cases hv
   | junk=>rw [he] at hv;cases hv) (fun s=>by
   show (∃ x,unref (e.env s)=.v x)∨unref (e.env s)=.junk
   cases e.env s with
   | v u=>exact .inl ⟨u,rfl⟩
   | _=>exact .inr rfl)
 have at0:At rf N ⟨[],false⟩ w0' h1 w' ⟨renv e ps.toList args,fun _=>none⟩ h1 { tmps:=(ps.zip args.toArray).foldl (fun tmps (t,a)=>tmps.setIfInBounds t a) c.tmps,defers:=[] } w':=by
  rw [htm]
  exact ⟨g1,Marks.nil,Ext.refl hs,fun _=>0,fun s=>g2 s rf _,fun t cs hb=>(by cases hb),fun t u cs ds hb=>(by cases hb),fun s off b he=>absurd he (g3 s off)⟩
 refine wpIn_mono (hA hr at0) ?_
 rintro ex a1 w1 ⟨e1,h2,s1,hk⟩
 cases ex with
 | normal =>
  obtain ⟨hl2,hk⟩:=hk
  have hw1:=s1.ext.sat.known _ _ hl2
  have hlt:=s1.ext.sat.lt hl2
  refine ⟨_,run_beginRound hw1 rfl,?_⟩
  have x1:Ext w0' h2 w1 (h2.set l (lob c .busy none)) (w1.putObj l (lob c .busy none)) :=
   Ext.put s1.ext.sat hl2 rfl rfl rfl (by simp) (World.putObj_heap_same hlt) (fun k hk=>World.putObj_heap_other hk)
  refine wpIn_mono (hB hk (s1.heap x1)) ?_
  rintro ex a2 w2 ⟨e2,h3,s2,hl3,hk⟩
  have hw2:=s2.ext.sat.known _ _ hl3
  have hlt2:=s2.ext.sat.lt hl3
  have fin2:∀ (st:LoopState) (pd:Option Code),Ext w0' h1 w' (h3.set l (lob c st pd)) (w2.putObj l (lob c st pd)):=fun st pd =>
   s2.ext.trans (Ext.put s2.ext.sat hl3 rfl rfl rfl (by simp) (World.putObj_heap_same hlt2) (fun k hk=>World.putObj_heap_other hk))
  cases ex with
  | normal=>exact ⟨_,_,run_endRound none hw2,_,_,rfl,fin2 .ready none,hk⟩
  | ret=>exact ⟨_,_,run_endRound (some .ret) hw2,_,_,rfl,fin2 .done (some .ret),hk⟩
  | exit id=>exact ⟨_,_,run_endRound (some (.exit id)) hw2,_,_,rfl,fin2 .done (some (.exit id)),hk⟩
  | goto t=>exact ⟨_,_,run_endRound (some (.goto t)) hw2,_,_,rfl,fin2 .done (some (.goto t)),hk⟩
  | panic ch=>exact hk.elim
  | outgrown=>exact hk.elim
 | exit id=>exact hk.elim
 | goto t=>exact hk.elim
 | ret=>exact hk.elim
 | panic ch=>exact hk.elim
 | outgrown=>exact hk.elim
theorem actOf_call {ρ:Operand→Value} {o:Oper} {g:FuncId} {args:List Value} {w:World} (ha:actOf P ρ o=.call g args):(execOp ρ o).run P w=.ok (.enter g args.toArray) w:=by
 obtain ⟨dst,op,ty,pos,after,guard⟩:=o
 cases op with
 | call c =>
  simp only [actOf] at ha
  split at ha
  ·rename_i f hc
   split at ha
   ·rename_i g' first captured hf
    split at ha
    ·rename_i hcall
     cases ha
     have ea:(first.toList++(c.args.toList.map ρ++captured.toList)).toArray=first++(c.args.map ρ++captured):=by apply Array.ext';simp
     rw [ea]
     unfold callable at hcall
     split at hcall
     ·rename_i fn hfn
      simp only [Bool.and_eq_true,Bool.not_eq_true',Option.isSome_iff_ne_none] at hcall
      have hname : ¬ fn.name = "runtime.NumGoroutine" := by simpa using hcall.1
      have hbody:¬ fn.body=none:=by simpa using hcall.2
      simp [execOp,resolve,hc,hf,Deferred.ofValue,invoke,callFunc,hfn,hname,hbody]
     ·cases hcall
    ·cases ha
   ·cases ha
  ·split at ha <;> cases ha
  ·split at ha <;> cases ha
  ·split at ha <;> cases ha
  ·cases ha
 | _=>simp only [actOf] at ha <;> (repeat' split at ha) <;> first | contradiction | cases ha
theorem gen_act {o:Oper} {e:ME} {A:Action} (hp:gen P o e=some (.act A)):(allV e o.op && noSel o.op)=true∧A=actOf P (vals e) o:=by
 unfold gen at hp
 split at hp
 ·rename_i hv
  split at hp
  ·cases hp
  ·cases hp;exact ⟨hv,rfl⟩
 ·cases hp
theorem refU_act {d:Option Tmp} {b off:Nat} {A:Action} {α:Prop} (hp:refU rf d b off=some (.act A)):α:=by
 unfold refU at hp
 (repeat' split at hp) <;> cases hp
theorem plan_act {o:Oper} {e:ME} {A:Action} (hp:plan P rf o e=some (.act A)):(allV e o.op && noSel o.op)=true∧A=actOf P (vals e) o:=by
 unfold plan at hp
 (repeat' split at hp) <;> first
  | exact gen_act hp
  | exact refU_act hp
  | cases hp
theorem opU_sound {rd:Option Nat} {nn:Nat} {w0:World} {h0:Hp} {we:World} {dz:DZ} {e:ME} {h:Hp} {a:Go.Act} {w:World} {o:Oper} {K:ME→Hp→Prop} {Q:Exit→Go.Act→World→Prop} {E:List PanicEntry→Hp→Prop} {i:Nat} (hi:ops[i]? = some o) (hd:∀ k,o.dst=some k→k<N) (s:At rf N dz w0 h0 we e h a w) (hr:run1U P rf o (planG P rf ops o e) e h K E)
  (hE:∀ ch h' w',At rf N dz w0 h0 we e h' a w'→E ch h'→Q (.panic ch) a w'):wpOpIn (FW rd) nn P ops Q i (Goes rf N dz w0 h0 we K) a w:=by
 unfold run1U at hr
 split at hr
 ·rename_i A hpl
  have hw:wantM ops o e=some true∧plan P rf o e=some (.act A):=by
   unfold planG at hpl
   split at hpl
   ·rename_i b hb
    cases b with
    | true=>exact ⟨hb,hpl⟩
    | false=>cases hpl
   ·cases hpl
  obtain ⟨hv,hA⟩:=plan_act hw.2
  split at hr
  ·rename_i x hx
   split at hr
   ·rename_i t v hev
    unfold wpOpIn
    rw [hi]
    simp only [want_sound s hw.1,if_true]
    refine ⟨fun _ _=>trivial,?_⟩
    have he:=s.eval hev
    have:(o.semAt (FW rd).round a.eval).run P w=.halt (.panic (.iface t v)) w:=by
     unfold Oper.semAt
     rw [hx]
     simp [execOp,hx,Instr.panic,goPanic,he]
    rw [this]
    exact hE _ _ _ s hr
   ·exact hr.elim
  ·split at hr
   ·rename_i g args
    unfold wpOpIn
    rw [hi]
    simp only [want_sound s hw.1,if_true]
    refine ⟨fun _ _=>trivial,?_⟩
    rw [semAt_run (by rw [s.exec hv];exact actOf_call hA.symm) (by simp)]
    refine ⟨fun hh=>(by cases hh),calls_FW ((hr.go w0 w s.ext.sat).mono fun en w'' hh=>?_)⟩
    rcases hh with ⟨v,h'',he,hx',hk⟩ | ⟨ch,h'',he,hx',hk⟩
    ·subst he;exact ⟨_,h'',(s.heap hx').slot hd v _ (.inl rfl),hk⟩
    ·subst he;exact hE _ _ _ (s.heap hx') hk
   ·rw [← hpl] at hr
    exact op_sound hi hd s hr
 ·exact op_sound hi hd s hr
theorem listU_sound {rd:Option Nat} {nn:Nat} {w0:World} {h0:Hp} {we:World} {dz:DZ} {K:Exit→ME→Hp→Prop} (hd:∀ (i:Nat) o,ops[i]? = some o→∀ k,o.dst=some k→k<N):∀ (l:List Oper) (k:Nat) (e:ME) (h:Hp) (a:Go.Act) (w:World),(∀ j,l[j]? = ops[k+j]?)→mlistU P rf ops l e h K→At rf N dz w0 h0 we e h a w →
  wpOpsIn (FW rd) nn P ops (GoesX rf N dz w0 h0 we K) (List.range' k l.length) a w
 | [],_,e,h,a,w,_,hm,s=>⟨e,h,s,hm⟩
 | o :: l,k,e,h,a,w,hl,hm,s=>by
  have h0':ops[k]? = some o:=by simpa using (hl 0).symm
  simp only [List.length_cons,List.range'_succ]
  rw [wpOpsIn_cons]
  refine wpOpIn_mono ?_ (opU_sound (K:=fun e' h'=>mlistU P rf ops l e' h' K) h0' (hd k o h0') s hm fun ch h' w' s' hk=>⟨e,h',s',hk⟩)
  rintro a' w' ⟨e',h',s',hm'⟩
  exact listU_sound hd l (k+1) e' h' a' w' (fun j=>by have:=hl (j+1);simpa [Nat.add_assoc,Nat.add_comm 1 j] using this) hm' s'
def WeakE (W M:List Nat) (e0 e:ME):Prop:=Same W e0 e∧∀ t,t ∉ M→e.box t=e0.box t
section
variable {rd:Option Nat} {nn:Nat} {w0:World} {h0:Hp} {we:World} {dz:DZ} {e e0:ME} {h:Hp} {a:Go.Act} {w:World} {o x y:Oper} {Inv:Hp→Prop}
theorem At.junkE {W M:List Nat} (s:At rf N dz w0 h0 we e h a w) (hw:WeakE W M e0 e) (r4:∀ s off b,e0.env s=.ref off→rf.of s=some b→∃ cs,e0.box b=some cs) (hM:∀ s b,rf.of s=some b→b ∈ M→s ∈ W):At rf N dz w0 h0 we (junkE W M e0) h a w:=by
 obtain ⟨β,r1,r2,r3,_⟩:=s.rel
 have env:∀ k,(Go.Mid.junkE W M e0).env k=.junk∨(k ∉ W∧(Go.Mid.junkE W M e0).env k=e0.env k):=fun k=>by
  show (match memU k W with | true=>MV.junk | false=>e0.env k)=_∨(k ∉ W∧(match memU k W with | true=>MV.junk | false=>e0.env k)=_)
  cases hm:memU k W with
  | true=>exact .inl rfl
  | false=>exact .inr ⟨fun hh=>(by rw [(memU_iff _ _).2 hh] at hm;cases hm),rfl⟩
 have box:∀ k,(Go.Mid.junkE W M e0).box k=none∨(k ∉ M∧(Go.Mid.junkE W M e0).box k=e0.box k):=fun k=>by
  show (match memU k M with | true=>none | false=>e0.box k)=_∨(k ∉ M∧(match memU k M with | true=>none | false=>e0.box k)=_)
  cases hm:memU k M with
  | true=>exact .inl rfl
  | false=>exact .inr ⟨fun hh=>(by rw [(memU_iff _ _).2 hh] at hm;cases hm),rfl⟩
 have bx:∀ t cs,(Go.Mid.junkE W M e0).box t=some cs→e.box t=some cs:=fun t cs ht=>by
  rcases box t with hb | ⟨hn,hb⟩
  ·rw [hb] at ht;cases ht
  ·rw [hw.2 t hn,← hb,ht]
 refine ⟨s.size,s.defers,s.ext,β,fun k=>?_,fun t cs ht=>r2 t cs (bx t cs ht),fun t u cs ds ht hu=>r3 t u cs ds (bx t cs ht) (bx u ds hu),fun k off b he hb=>?_⟩
 ·rcases env k with hk | ⟨hn,hk⟩
  ·rw [hk];trivial
  ·rw [hk,← hw.1 k hn];exact r1 k
 ·rcases env k with hk | ⟨hn,hk⟩
  ·rw [hk] at he;cases he
  ·rw [hk] at he
   obtain ⟨cs,hc⟩:=r4 k off b he hb
   rcases box b with h1 | ⟨_,h1⟩
   ·refine absurd (hM k b hb ?_) hn
    by_cases hh:b ∈ M
    ·exact hh
    ·exfalso
     have:(match memU b M with | true=>none | false=>e0.box b)=none:=h1
     cases hm:memU b M with
     | true=>exact hh ((memU_iff _ _).1 hm)
     | false=>rw [hm] at this;simp only at this;rw [this] at hc;cases hc
   ·exact ⟨cs,by rw [h1];exact hc⟩
theorem run1U_app {u:Upd} (hu:u.fits rf y) (hi:indep rf ops y x=true) {G G':ME→Hp→Prop} {E:List PanicEntry→Hp→Prop}
  (hG:∀ h' (v:Upd),v.fits rf x→G (v.app rf (u.app rf e)) h'→G' (v.app rf e) h')
  (hr:run1U P rf x (planG P rf ops x (u.app rf e)) (u.app rf e) h G E):run1U P rf x (planG P rf ops x e) e h G' E:=by
 obtain ⟨i1,i2,i3,i4,i5⟩:=indep_spec hi
 have ha:Agree rf ops x e (u.app rf e):=agree_app i1 i4 hu
 have hp:=planG_agree (P:=P) ha
 rw [← hp] at hr
 have fit:∀ u',planG P rf ops x e=some (.upd u')→u'.fits rf x:=fun _=>planG_fits
 generalize planG P rf ops x e=pl at *
 unfold run1U at *
 split at hr
 ·split at hr
  ·rename_i z hz
   have hz2:ev e z=ev (u.app rf e) z:=ev_agree ha (by rw [hz];simp [Op.operands])
   rw [hz2];exact hr
  ·split at hr
   ·exact hr.mono (fun v h' hh=>hG h' _ (fits_dstU _ _ _) hh) fun _ _ hh=>hh
   ·exact aRun_mono (fun v h' hh=>hG h' _ (fits_dstU _ _ _) hh) hr
 ·rename_i hna
  cases pl with
  | none=>exact hr
  | some p=>cases p with
   | upd u'=>exact hG _ _ (fit u' rfl) hr
   | act A=>exact absurd rfl (hna A)
theorem swapU {k:Cl} (hkc:heapOk k .c=true) (hi:indep rf ops y x=true) {K:ME→Hp→Prop} {E:List PanicEntry→Hp→Prop}
  (hr:mrun P rf Inv k y (planG P rf ops y e) e h fun e1 h1=>run1U P rf x (planG P rf ops x e1) e1 h1 (fun e2 h2=>Inv h2∧K e2 h2) E) :
  run1U P rf x (planG P rf ops x e) e h (fun e1 h1=>Inv h1∧mrun P rf Inv k y (planG P rf ops y e1) e1 h1 K) E:=by
 obtain ⟨i1,i2,i3,i4,i5⟩:=indep_spec hi
 have atY:∀ v:Upd,v.fits rf x→planG P rf ops y (v.app rf e)=planG P rf ops y e:=fun v hv=>(planG_agree (agree_app i3 i5 hv)).symm
 have fitY:∀ u',planG P rf ops y e=some (.upd u')→u'.fits rf y:=fun _=>planG_fits
 have key:∀ u:Upd,u.fits rf y→(∀ {e':ME} {h':Hp},K (u.app rf e') h'→mrun P rf Inv k y (planG P rf ops y e) e' h' K)→run1U P rf x (planG P rf ops x (u.app rf e)) (u.app rf e) h (fun e2 h2=>Inv h2∧K e2 h2) E →
   run1U P rf x (planG P rf ops x e) e h (fun e1 h1=>Inv h1∧mrun P rf Inv k y (planG P rf ops y e1) e1 h1 K) E:=fun u hu hb hx =>
  run1U_app hu hi (fun h' v hv hh=>⟨hh.1,by
   rw [atY v hv]
   refine hb ?_
   have:=hh.2
   rw [← app_comm hi hu hv] at this
   exact this⟩) hx
 cases k with
 | a =>
  simp only [mrun] at hr
  split at hr
  ·rename_i u hu
   have huf:u.fits rf y:=by
    obtain ⟨s1,s2⟩:=updA_spec hu
    generalize planG P rf ops y e=pl at *
    cases pl with
    | none=>cases hu
    | some p=>cases p with
     | upd u'=>have:=s2 u' rfl;subst this;exact fitY _ rfl
     | act A=>obtain ⟨v,rfl⟩:=s1 A rfl;exact fits_dstU _ _ _
   exact key u huf (fun {e' h'} hk=>by show (match updA P y (planG P rf ops y e) with | some u=>K (u.app rf e') h' | none=>False);rw [hu];exact hk) hr
  ·exact hr.elim
 | d =>
  simp only [mrun] at hr
  obtain ⟨u,h1,h2,_,s1,s2⟩:=runD_spec hr
  have huf:u.fits rf y:=by
   generalize planG P rf ops y e=pl at *
   cases pl with
   | none=>exact hr.elim
   | some p=>cases p with
    | upd u'=>have:=s2 u' rfl;subst this;exact fitY _ rfl
    | act A=>obtain ⟨v,rfl⟩:=s1 A rfl;exact fits_dstU _ _ _
  exact key u huf (fun {e' h'} hk=>h2 hk) h1
 | b=>cases hkc
 | c=>cases hkc
 | n=>cases hkc
 | e=>cases hkc
theorem pullU {cl:Oper→Cl} {K:ME→Hp→Prop} {E:List PanicEntry→Hp→Prop}:∀ (L:List Oper) (e:ME) (h:Hp),Inv h→(∀ y ∈ L,indep rf ops y x=true∧heapOk (cl y) .c=true) →
  mdraw P rf Inv cl ops L e h (fun e1 h1=>run1U P rf x (planG P rf ops x e1) e1 h1 (fun e2 h2=>Inv h2∧K e2 h2) E)→run1U P rf x (planG P rf ops x e) e h (fun e1 h1=>Inv h1∧mdraw P rf Inv cl ops L e1 h1 K) E
 | [],_,_,_,_,hm=>hm
 | y :: L,e,h,hi,hy,hm=>by
  obtain ⟨hyi,hyc⟩:=hy y (by simp)
  refine swapU hyc hyi (K:=fun e2 h2=>mdraw P rf Inv cl ops L e2 h2 K) ?_
  have hne:cl y≠.e:=fun hh=>by rw [hh] at hyc;cases hyc
  have hnn:cl y=.n→UpInv Inv:=fun hh=>by rw [hh] at hyc;cases hyc
  exact mrun_mono (fun e1 h1 ⟨hm1,hi1⟩=>pullU L e1 h1 hi1 (fun z hz=>hy z (List.mem_cons_of_mem _ hz)) hm1) (mrun_inv hne hnn hi hm)
theorem mdrawU_app {cl:Oper→Cl} {ep:ME} {K:Exit→ME→Hp→Prop}:∀ (L1 L2:List Oper) (e:ME) (h:Hp),(∀ y ∈ L1,isPC cl y=false)→(mdrawU P rf Inv cl ops ep (L1++L2) e h K↔mdraw P rf Inv cl ops L1 e h fun e' h'=>mdrawU P rf Inv cl ops ep L2 e' h' K)
 | [],_,_,_,_=>Iff.rfl
 | y :: L1,L2,e,h,hy=>by
  have h1:=hy y (by simp)
  have ih:=fun e' h'=>mdrawU_app (ep:=ep) (K:=K) L1 L2 e' h' fun z hz=>hy z (List.mem_cons_of_mem _ hz)
  show (match isPC cl y with | true=>_ | false=>_)↔_
  rw [h1]
  exact ⟨fun hm=>mrun_mono (fun e' h'=>(ih e' h').1) hm,fun hm=>mrun_mono (fun e' h'=>(ih e' h').2) hm⟩
theorem upd_box {u:Upd} (hu:u.fits rf o) (hw:writes rf o=none) {t:Nat} (ht:t ∉ (makes rf o).toList):(u.app rf e).box t=e.box t:=by
 have hT:turned rf o=(makes rf o).toList:=by unfold turned;rw [hw];simp
 cases u with
 | none=>rfl
 | slot d m=>rfl
 | newbox b cs =>
  obtain ⟨_,_,h3⟩:=hu
  rw [hT] at h3
  exact upd_other _ _ fun hh=>ht (hh ▸ h3)
 | setbox b cs =>
  have h3:b ∈ turned rf o:=hu
  rw [hT] at h3
  exact upd_other _ _ fun hh=>ht (hh ▸ h3)
theorem run1_box {K:ME→Hp→Prop} (hw:writes rf o=none) (hr:run1 P rf o (planG P rf ops o e) e h K):run1 P rf o (planG P rf ops o e) e h fun e' h'=>K e' h'∧∀ t,t ∉ (makes rf o).toList→e'.box t=e.box t:=by
 have hf:∀ u,planG P rf ops o e=some (.upd u)→u.fits rf o:=fun _=>planG_fits
 generalize planG P rf ops o e=pl at *
 cases pl with
 | none=>exact hr
 | some p=>cases p with
  | upd u=>exact ⟨hr,fun t ht=>upd_box (hf u rfl) hw ht⟩
  | act s=>exact aRun_mono (fun v h'' hk=>⟨hk,fun t ht=>upd_box (fits_dstU _ _ _) hw ht⟩) hr
theorem isP_writes (hp:isP o=true):writes rf o=none:=by
 unfold isP at hp
 unfold writes
 split at hp
 ·rename_i ho;rw [ho]
 ·rename_i ho;rw [ho]
 ·cases hp
theorem run1U_box {K:ME→Hp→Prop} {E:List PanicEntry→Hp→Prop} (hw:writes rf o=none) (hr:run1U P rf o (planG P rf ops o e) e h K E):run1U P rf o (planG P rf ops o e) e h (fun e' h'=>K e' h'∧∀ t,t ∉ (makes rf o).toList→e'.box t=e.box t) E:=by
 have h1:∀ {K:ME→Hp→Prop},run1 P rf o (planG P rf ops o e) e h K→run1 P rf o (planG P rf ops o e) e h fun e' h'=>K e' h'∧∀ t,t ∉ (makes rf o).toList→e'.box t=e.box t:=run1_box hw
 generalize planG P rf ops o e=pl at *
 unfold run1U at *
 split at hr
 ·split at hr
  ·exact hr
  ·split at hr
   ·exact hr.mono (fun v h'' hk=>⟨hk,fun t ht=>upd_box (fits_dstU _ _ _) hw ht⟩) fun _ _ hh=>hh
   ·exact h1 hr
 ·exact h1 hr
theorem isPC_c {cl:Oper→Cl} (h:isPC cl o=true):cl o=.c∧isP o=true:=by
 unfold isPC at h
 split at h
 ·rename_i hc;exact ⟨hc,h⟩
 ·cases h
theorem okUs_at {cl:Oper→Cl} {b:List Nat}:∀ {pm:List Nat},okUs rf cl ops b pm=true→∀ {A B:List Nat} {i:Nat},pm=A++i :: B →
  (isPC cl (ops.getD i default)=true→∀ j ∈ B,(b.getD j 0).testBit i=true)∧(isPC cl (ops.getD i default)=false→writes rf (ops.getD i default)≠none→∀ j ∈ B,isPC cl (ops.getD j default)=false)∧cl (ops.getD i default)≠.e
 | [],_,A,B,i,h=>by cases A <;> cases h
 | k :: r,hp,[],B,i,h=>by
  simp only [List.nil_append,List.cons.injEq] at h
  obtain ⟨rfl,rfl⟩:=h
  simp only [okUs,Bool.and_eq_true] at hp
  obtain ⟨h1,h2,_⟩:=hp
  refine ⟨fun hc=>?_,fun hc hw=>?_,fun hc=>by rw [hc] at h2;cases h2⟩
  ·rw [hc] at h1
   exact List.all_eq_true.1 h1
  ·rw [hc] at h1
   simp only at h1
   split at h1
   ·rename_i hn;exact absurd hn hw
   ·intro j hj
    have:=List.all_eq_true.1 h1 j hj
    simpa using this
 | k :: r,hp,a :: A,B,i,h=>by
  simp only [List.cons_append,List.cons.injEq] at h
  obtain ⟨rfl,rfl⟩:=h
  simp only [okUs,Bool.and_eq_true] at hp
  exact okUs_at hp.2.2 rfl
theorem ready_no {listed:Array Bool} (c:Closed ops listed) {i j:Nat} (hi:i ∈ Region.ready .any ops listed) (hj:j<ops.size) (hbt:((befores ops.toList []).getD i 0).testBit j=true) (hl:listed.getD j true=false):False:=by
 obtain ⟨_,o,ho,hall⟩:=mem_ready.1 hi
 have hin:i<ops.size:=(Array.getElem?_eq_some_iff.1 ho).1
 have hanc:Anc ops i j:=befores_spec ops.toList [] (by simp) (by simp) i (by simpa using hin) j hbt
 have hfalse:listed.getD j false=true:=by
  cases hanc with
  | one ho' he hb hj' =>
   have:o=_:=Option.some.inj (ho.symm.trans ho')
   subst this;subst hj';exact hall _ he hb
  | more ho' he hb hk hrest =>
   have:o=_:=Option.some.inj (ho.symm.trans ho')
   subst this;subst hk;exact c.anc hrest (hall _ he hb)
 rw [(getD_tf (by rw [c.size];exact hj) false).2 hl] at hfalse
 cases hfalse
theorem none_left {pm:List Nat} (hback:okBack ops=true) (hpm:okPerm ops.size pm=true) (listed:Array Bool) (c:Closed ops listed) (hr:Region.ready .any ops listed=[]):remain pm listed=[]:=by
 have:∀ n i,i<n→i<ops.size→listed.getD i true=true:=by
  intro n
  induction n with
  | zero=>intro i hi;omega
  | succ n ih =>
   intro i hi his
   cases hl:listed.getD i true with
   | true=>rfl
   | false =>
    exfalso
    have ho:∃ o,ops[i]? = some o:=⟨ops[i],by simp [his]⟩
    obtain ⟨o,ho⟩:=ho
    have hmem:i ∈ Region.ready .any ops listed:=mem_ready.2 ⟨hl,o,ho,fun ed he hb=>by
     have h1:=List.all_eq_true.1 hback i (List.mem_range.2 his)
     rw [ho] at h1
     have h2:=List.all_eq_true.1 h1 ed (Array.mem_toList_iff.2 he)
     rw [hb] at h2
     have hlt:ed.on<i:=by simpa using h2
     have:=ih ed.on (by omega) (by omega)
     exact (getD_tf (by rw [c.size];omega) true).2 this⟩
    rw [hr] at hmem;cases hmem
 unfold remain
 rw [List.filter_eq_nil_iff]
 intro i hi
 have:=this (i+1) i (by omega) ((okPerm_spec hpm).2.1 i hi)
 simp [this]
theorem wr_slots {s b:Nat} (hs:rf.of s=some b) (hb:b ∈ mkL rf ops):s ∈ wrL rf ops:=by
 obtain ⟨o,ho,hm⟩:=List.mem_flatMap.1 hb
 refine List.mem_flatMap.2 ⟨o,ho,?_⟩
 unfold wrOp
 refine List.mem_append_right _ ?_
 cases hk:makes rf o with
 | none=>rw [hk] at hm;cases hm
 | some t =>
  rw [hk] at hm
  have:b=t:=by simpa using hm
  subst this
  refine List.mem_map.2 ⟨(s,b),List.mem_filter.2 ⟨?_,by simp⟩,rfl⟩
  clear hm hb hk ho
  induction rf with
  | nil=>cases hs
  | cons p r ih =>
   obtain ⟨x,y⟩:=p
   unfold RF.of at hs
   split at hs
   ·rename_i hx;cases hs;subst hx;simp
   ·exact List.mem_cons_of_mem _ (ih hs)
theorem draw_anyU {cl:Oper→Cl} {pm:List Nat} {K:Exit→ME→Hp→Prop} (hup:∀ (i:Nat) y,ops[i]? = some y→cl y=.n→UpInv Inv) (hd:∀ (i:Nat) o,ops[i]? = some o→∀ k,o.dst=some k→k<N) (hback:okBack ops=true) (hpm:okPerm ops.size pm=true) (hp:okPairs rf cl ops (befores ops.toList []) pm=true) (hu:okUs rf cl ops (befores ops.toList []) pm=true)
  (r4:∀ s off b,e0.env s=.ref off→rf.of s=some b→∃ cs,e0.box b=some cs) :
  ∀ (fuel:Nat) (listed:Array Bool) (e:ME) (h:Hp) (a:Go.Act) (w:World),Closed ops listed→(remain pm listed).length≤fuel→Inv h→((∃ j ∈ remain pm listed,isPC cl (ops.getD j default)=true)→WeakE (wrL rf ops) (mkL rf ops) e0 e) →
  mdrawU P rf Inv cl ops (junkE (wrL rf ops) (mkL rf ops) e0) ((remain pm listed).map (ops.getD · default)) e h K→At rf N dz w0 h0 we e h a w→wpAnyIn (FW rd) nn P .any ops (GoesX rf N dz w0 h0 we K) fuel listed a w:=by
 intro fuel
 induction fuel with
 | zero =>
  intro listed e h a w c hlen hinv hwk hm s
  have hnil:remain pm listed=[]:=List.length_eq_zero_iff.1 (by omega)
  rw [hnil] at hm
  refine ⟨?_,⟨e,h,s,hm⟩⟩
  rw [List.eq_nil_iff_forall_not_mem]
  intro i hi
  obtain ⟨h1,o,ho,_⟩:=mem_ready.1 hi
  have hin:i<ops.size:=(Array.getElem?_eq_some_iff.1 ho).1
  obtain ⟨_,_,L1,L2,_,hs,_⟩:=remain_split hpm hin c.size h1
  rw [hnil] at hs
  exact absurd hs.symm (by simp)
 | succ fuel ih =>
  intro listed e h a w c hlen hinv hwk hm s
  refine ⟨fun hr=>?_,fun i hi=>?_⟩
  ·rw [none_left hback hpm listed c hr] at hm
   exact ⟨e,h,s,hm⟩
  ·obtain ⟨h1,o,ho,hall⟩:=mem_ready.1 hi
   have hin:i<ops.size:=(Array.getElem?_eq_some_iff.1 ho).1
   obtain ⟨A,B,L1,L2,hAB,hs,hs',hL1⟩:=remain_split hpm hin c.size h1
   have hoi:ops.getD i default=o:=by simp [Array.getD_eq_getD_getElem?,ho]
   obtain ⟨u1,u2,u3⟩:=okUs_at hu hAB
   rw [hoi] at u1 u2 u3
   have hjn:∀ j ∈ L1,j<ops.size:=fun j hj=>(okPerm_spec hpm).2.1 j (by rw [hAB];exact List.mem_append_left _ (hL1 j hj).1)
   have hno:∀ j ∈ L1,isPC cl (ops.getD j default)=false:=fun j hj=>by
    cases hc:isPC cl (ops.getD j default) with
    | false=>rfl
    | true =>
     exfalso
     obtain ⟨hjA,hjl⟩:=hL1 j hj
     obtain ⟨C,D,hCD⟩:=List.append_of_mem hjA
     have hAB2:pm=C++j :: (D++i :: B):=by rw [hAB,hCD];simp
     exact ready_no c hi (hjn j hj) ((okUs_at hu hAB2).1 hc i (by simp)) hjl
   have hpair:∀ y ∈ L1.map (ops.getD · default),indep rf ops y o=true∧heapOk (cl y) (cl o)=true:=fun y hy=>by
    obtain ⟨j,hj,rfl⟩:=List.mem_map.1 hy
    obtain ⟨hjA,hjl⟩:=hL1 j hj
    have hoj:ops[j]? = some (ops.getD j default):=by simp [Array.getD_eq_getD_getElem?,hjn j hj]
    have h2:=okPairs_at hp hAB j hjA
    unfold okPair at h2
    rw [hoj,ho] at h2
    simp only [Bool.or_eq_true,Bool.and_eq_true] at h2
    rcases h2 with ⟨h2,_⟩ | h2
    ·exact (ready_no c hi (hjn j hj) h2 hjl).elim
    ·exact h2
   have hno':∀ y ∈ L1.map (ops.getD · default),isPC cl y=false:=fun y hy=>by
    obtain ⟨j,hj,rfl⟩:=List.mem_map.1 hy
    exact hno j hj
   rw [hs] at hm hlen
   simp only [List.map_append,List.map_cons] at hm
   rw [hoi] at hm
   have hmem:o ∈ ops.toList:=Array.mem_toList_iff.2 (Array.mem_of_getElem? ho)
   have hwo:∀ s,s ∈ wrOp rf o→s ∈ wrL rf ops:=fun s hs=>List.mem_flatMap.2 ⟨o,hmem,hs⟩
   have hmo:∀ t,t ∈ (makes rf o).toList→t ∈ mkL rf ops:=fun t ht=>List.mem_flatMap.2 ⟨o,hmem,ht⟩
   have hnext:∀ (e':ME) (h':Hp) (a':Go.Act) (w':World),Inv h'→((∃ j ∈ L1++L2,isPC cl (ops.getD j default)=true)→WeakE (wrL rf ops) (mkL rf ops) e0 e')→mdrawU P rf Inv cl ops (junkE (wrL rf ops) (mkL rf ops) e0) (L1.map (ops.getD · default)++L2.map (ops.getD · default)) e' h' K→At rf N dz w0 h0 we e' h' a' w'→wpAnyIn (FW rd) nn P .any ops (GoesX rf N dz w0 h0 we K) fuel (listed.setIfInBounds i true) a' w':=fun e' h' a' w' hi' hw' hm' s'=>by
    refine ih (listed.setIfInBounds i true) e' h' a' w' (c.set hi) (by rw [hs'];simp at hlen ⊢;omega) hi' (by rw [hs'];exact hw') ?_ s'
    rw [hs',List.map_append];exact hm'
   cases hpc:isPC cl o with
   | true =>
    obtain ⟨hcc,hisP⟩:=isPC_c hpc
    have hw:=isP_writes (rf:=rf) hisP
    rw [mdrawU_app _ _ _ _ hno'] at hm
    have hm:mdraw P rf Inv cl ops (L1.map (ops.getD · default)) e h fun e' h'=>run1U P rf o (planG P rf ops o e') e' h' (fun e2 h2=>Inv h2∧mdrawU P rf Inv cl ops (junkE (wrL rf ops) (mkL rf ops) e0) (L2.map (ops.getD · default)) e2 h2 K) fun ch h2=>K (.panic ch) (junkE (wrL rf ops) (mkL rf ops) e0) h2 :=
     mdraw_mono (fun e' h' hh=>by
      have hh:(match isPC cl o with
       | true=>run1U P rf o (planG P rf ops o e') e' h' (fun e2 h2=>Inv h2∧mdrawU P rf Inv cl ops (junkE (wrL rf ops) (mkL rf ops) e0) (L2.map (ops.getD · default)) e2 h2 K) fun ch h2=>K (.panic ch) (junkE (wrL rf ops) (mkL rf ops) e0) h2
       | false=>mrun P rf Inv (cl o) o (planG P rf ops o e') e' h' fun e2 h2=>mdrawU P rf Inv cl ops (junkE (wrL rf ops) (mkL rf ops) e0) (L2.map (ops.getD · default)) e2 h2 K):=hh
      rw [hpc] at hh
      exact hh) _ _ _ hm
    have hx:=run1U_box hw (run1U_same (pullU (L1.map (ops.getD · default)) e h hinv (fun y hy=>by have:=hpair y hy;rw [hcc] at this;exact this) hm))
    have hwk0:=hwk ⟨i,by rw [hs];simp,by rw [hoi];exact hpc⟩
    refine wpOpIn_mono ?_ (opU_sound (Q:=GoesX rf N dz w0 h0 we K) ho (hd i o ho) s hx fun ch h' w' s' hk=>⟨_,h',s'.junkE hwk0 r4 (fun _ _=>wr_slots),hk⟩)
    rintro a' w' ⟨e',h',s',⟨⟨hi',hm'⟩,hsm⟩,hbx⟩
    refine hnext e' h' a' w' hi' (fun _=>⟨fun k hk=>(hsm k fun hh=>hk (hwo k hh)).trans (hwk0.1 k hk),fun t ht=>(hbx t fun hh=>ht (hmo t hh)).trans (hwk0.2 t ht)⟩) ?_ s'
    rw [mdrawU_app _ _ _ _ hno']
    exact hm'
   | false =>
    have hm:mdrawU P rf Inv cl ops (junkE (wrL rf ops) (mkL rf ops) e0) ((L1.map (ops.getD · default)++[o])++L2.map (ops.getD · default)) e h K:=by simpa using hm
    rw [mdrawU_app _ _ _ _ (fun y hy=>by
     rcases List.mem_append.1 hy with hy | hy
     ·exact hno' y hy
     ·rw [List.mem_singleton.1 hy];exact hpc)] at hm
    have hx:=pull (L2:=[]) (hup i o ho) (L1.map (ops.getD · default)) e h (fun y hy=>by
     obtain ⟨j,hj,rfl⟩:=List.mem_map.1 hy
     exact hup j _ (by simp [Array.getD_eq_getD_getElem?,hjn j hj])) s.ext.sat.fin (fun _=>hinv) hpair hm
    have hx:=mrun_run1 u3 hinv (hup i o ho) hx
    have hx:=run1_same hx
    by_cases hw:writes rf o=none
    ·have hx:=run1_box hw hx
     refine wpOpIn_mono ?_ (op_sound ho (hd i o ho) s hx)
     rintro a' w' ⟨e',h',s',⟨⟨hi',hm'⟩,hsm⟩,hbx⟩
     refine hnext e' h' a' w' hi' (fun ⟨j,hj,hjp⟩=>?_) ?_ s'
     ·have hwk0:=hwk ⟨j,by
       rw [hs]
       rcases List.mem_append.1 hj with hj | hj
       ·exact List.mem_append_left _ hj
       ·exact List.mem_append_right _ (List.mem_cons_of_mem _ hj),hjp⟩
      exact ⟨fun k hk=>(hsm k fun hh=>hk (hwo k hh)).trans (hwk0.1 k hk),fun t ht=>(hbx t fun hh=>ht (hmo t hh)).trans (hwk0.2 t ht)⟩
     ·rw [List.append_nil] at hm'
      rw [mdrawU_app _ _ _ _ hno'];exact hm'
    ·refine wpOpIn_mono ?_ (op_sound ho (hd i o ho) s hx)
     rintro a' w' ⟨e',h',s',⟨hi',hm'⟩,hsm⟩
     refine hnext e' h' a' w' hi' (fun ⟨j,hj,hjp⟩=>?_) ?_ s'
     ·exfalso
      rcases List.mem_append.1 hj with hj | hj
      ·rw [hno j hj] at hjp;cases hjp
      ·-- behind it in the order that is shown
       have hjr:j ∈ remain pm (listed.setIfInBounds i true):=by rw [hs'];exact List.mem_append_right _ hj
       have hjpm:j ∈ A++i :: B:=by rw [← hAB];exact (List.mem_filter.1 hjr).1
       have hjl:listed.getD j true=false:=by
        have:=(List.mem_filter.1 hjr).2
        by_cases hij:i=j
        ·subst hij
         have h9:(listed.setIfInBounds i true).getD i true=true:=by simp [show i<listed.size by rw [c.size];exact hin]
         rw [h9] at this;cases this
        ·rw [getD_set_ne true hij] at this;simpa using this
       rcases List.mem_append.1 hjpm with hjA | hjB
       ·obtain ⟨C,D,hCD⟩:=List.append_of_mem hjA
        have hAB2:pm=C++j :: (D++i :: B):=by rw [hAB,hCD];simp
        have hjn':j<ops.size:=(okPerm_spec hpm).2.1 j (by rw [hAB];exact List.mem_append_left _ hjA)
        exact ready_no c hi hjn' ((okUs_at hu hAB2).1 hjp i (by simp)) hjl
       ·rcases List.mem_cons.1 hjB with rfl | hjB
        ·rw [hoi,hpc] at hjp;cases hjp
        ·rw [u2 hpc hw j hjB] at hjp;cases hjp
     ·rw [List.append_nil] at hm'
      rw [mdrawU_app _ _ _ _ hno'];exact hm'
end
theorem mcode_sound (hmix:P.follows .mixedOrders=true):∀ (c:Code) {rd:Option Nat} {nn:Nat} {dz:DZ} {w0:World} {h0:Hp} {we:World} {e:ME} {h:Hp} {a:Go.Act} {w:World} {K:Exit→ME→Hp→Prop},(rd=none∨flat c=true)→(dz.bare=true→flat c=true)→mcode P rf N cl pm c e h K→At rf N dz w0 h0 we e h a w →
  c.wpIn (FW rd) nn P (GoesX rf N dz w0 h0 we K) a w:=by
 intro c
 induction c with
 | skip=>intro rd nn dz w0 h0 we e h a w K _ _ hm s;exact wpIn_skip ⟨e,h,s,hm⟩
 | label l=>intro rd nn dz w0 h0 we e h a w K _ _ hm s;exact wpIn_label ⟨e,h,s,hm⟩
 | region id ops draw =>
  intro rd nn dz w0 h0 we e h a w K _ _ hm s
  obtain ⟨hok,hm⟩:=hm
  simp only [okR,Bool.and_eq_true,Bool.or_eq_true,Bool.not_eq_true'] at hok
  have hd:=okDst_spec hok.1
  have hQ:∀ a w,Goes rf N dz w0 h0 we (K .normal) a w→GoesX rf N dz w0 h0 we K .normal a w:=fun a w ⟨e,h,s,k⟩=>⟨e,h,s,k⟩
  cases draw with
  | true =>
   obtain ⟨hb,hpm,hp⟩:=hok.2.resolve_left (by simp)
   refine wpIn_region_any hmix ?_
   have hlt:=(okPerm_spec hpm).2.1
   simp only [okU,if_true] at hm
   generalize permOf pm id ops.size=pl at *
   have hrem:remain pl (Array.replicate ops.size false)=pl:=by
    unfold remain
    rw [List.filter_eq_self]
    intro i hi
    simp [hlt i hi]
   have hlen:pl.length≤ops.size:=by
    have hnd:=(okPerm_spec hpm).2.2
    have key:∀ (l:List Nat) (n:Nat),okPerm.nodupB l=true→(∀ i ∈ l,i<n)→l.length≤n:=by
     intro l n hn hl
     have hnd:l.Nodup:=by
      clear hl
      induction l with
      | nil=>exact List.nodup_nil
      | cons i r ih =>
       simp only [okPerm.nodupB,Bool.and_eq_true,Bool.not_eq_true',List.contains_eq_mem,decide_eq_false_iff_not] at hn
       exact List.nodup_cons.2 ⟨hn.1,ih hn.2⟩
     have:=hnd.length_le_of_subset (l₂:=List.range n) (fun i hi=>List.mem_range.2 (hl i hi))
     simpa using this
    exact key pl ops.size hnd hlt
   split at hm
   ·obtain ⟨hu,Inv,hup,hinv,hm⟩:=hm
    obtain ⟨_,_,_,_,r4⟩:=s.rel
    refine draw_anyU (e0:=e) hup hd hb hpm hp hu r4 ops.size _ e h a _ ⟨by simp,fun j oj hj hl=>?_⟩ ?_ hinv (fun _=>⟨Same.refl _ _,fun _ _=>rfl⟩) (by rw [hrem];exact hm) ⟨s.size,s.defers,⟨⟨s.ext.sat.os,s.ext.sat.tape,s.ext.sat.output,s.ext.sat.size,s.ext.sat.known⟩,s.ext.grow,s.ext.priv⟩,s.rel⟩
    ·rcases Nat.lt_or_ge j ops.size with h' | h' <;> simp [h'] at hl
    ·rw [hrem];exact hlen
   obtain ⟨Inv,hup,hinv,hm⟩:=hm
   refine draw_any hup hd hb hpm hp hQ ops.size _ e h a _ ⟨by simp,fun j oj hj hl=>?_⟩ ?_ (.inl hinv) (by rw [hrem];exact hm) ⟨s.size,s.defers,⟨⟨s.ext.sat.os,s.ext.sat.tape,s.ext.sat.output,s.ext.sat.size,s.ext.sat.known⟩,s.ext.grow,s.ext.priv⟩,s.rel⟩
   ·rcases Nat.lt_or_ge j ops.size with h' | h' <;> simp [h'] at hl
   ·rw [hrem];exact hlen
  | false =>
   refine wpIn_region ?_
   rw [List.range_eq_range',← Array.length_toList]
   simp only [Bool.false_eq_true,if_false] at hm
   split at hm
   ·exact listU_sound hd ops.toList 0 e h a w (by simp) hm s
   ·exact list_sound hd hQ ops.toList 0 e h a w (by simp) hm s
 | seq x y ihx ihy =>
  intro rd nn dz w0 h0 we e h a w K hf hz hm s
  have hzx:dz.bare=true→flat x=true:=fun hh=>by have:=hz hh;simp only [flat,Bool.and_eq_true] at this;exact this.1
  have hzy:dz.bare=true→flat y=true:=fun hh=>by have:=hz hh;simp only [flat,Bool.and_eq_true] at this;exact this.2
  have hfx:rd=none∨flat x=true:=hf.imp (fun z=>z) fun hh=>by simp only [flat,Bool.and_eq_true] at hh;exact hh.1
  have hfy:rd=none∨flat y=true:=hf.imp (fun z=>z) fun hh=>by simp only [flat,Bool.and_eq_true] at hh;exact hh.2
  refine wpIn_seq (wpIn_mono (ihx hfx hzx hm s) ?_)
  rintro ex a1 w1 ⟨e1,h1,s1,hk⟩
  cases ex with
  | normal=>exact ihy hfy hzy hk s1
  | _=>exact ⟨e1,h1,s1,hk⟩
 | cond c x y ihx ihy =>
  intro rd nn dz w0 h0 we e h a w K hf hz hm s
  have hzx:dz.bare=true→flat x=true:=fun hh=>by have:=hz hh;simp only [flat,Bool.and_eq_true] at this;exact this.1
  have hzy:dz.bare=true→flat y=true:=fun hh=>by have:=hz hh;simp only [flat,Bool.and_eq_true] at this;exact this.2
  have hfx:rd=none∨flat x=true:=hf.imp (fun z=>z) fun hh=>by simp only [flat,Bool.and_eq_true] at hh;exact hh.1
  have hfy:rd=none∨flat y=true:=hf.imp (fun z=>z) fun hh=>by simp only [flat,Bool.and_eq_true] at hh;exact hh.2
  simp only [mcode] at hm
  split at hm
  ·rename_i t ht
   exact wpIn_cond_split (s.eval ht) (fun hh=>ihx hfx hzx (hm.1 hh) s) (fun hh=>ihy hfy hzy (hm.2 hh) s)
  ·exact hm.elim
 | block id b ih =>
  intro rd nn dz w0 h0 we e h a w K hf hz hm s
  refine wpIn_block (wpIn_mono (ih (hf.imp (fun z=>z) fun hh=>hh) hz hm s) ?_)
  rintro ex a1 w1 ⟨e1,h1,s1,hk⟩
  cases ex with
  | exit id' =>
   simp only [Exit.inBlock]
   simp only at hk
   split at hk
   ·rename_i hid;rw [if_pos hid];exact ⟨e1,h1,s1,hk⟩
   ·rename_i hid;rw [if_neg hid];exact ⟨e1,h1,s1,hk⟩
  | _=>exact ⟨e1,h1,s1,hk⟩
 | loop b ih =>
  intro rd nn dz w0 h0 we e h a w K hf hz hm s
  intro b0 k cs hro hbf hroom
  have key:∀ a w,At rf N dz w0 h0 we e h a w→∃ ex a' w',GoesX rf N dz w0 h0 we K ex a' w'∧ArrivesIn (Machine.fenced P (FW rd)) P (lone (b0.atR a (.code b :: .inLoop b :: k)) cs w) b0 k cs ex a' w':=by
   refine MLoop.go hm (fun e1 h1=>∀ a w,At rf N dz w0 h0 we e1 h1 a w→∃ ex a' w',GoesX rf N dz w0 h0 we K ex a' w'∧ArrivesIn (Machine.fenced P (FW rd)) P (lone (b0.atR a (.code b :: .inLoop b :: k)) cs w) b0 k cs ex a' w') ?_
   intro e1 h1 Kx s1 hb hn hx a1 w1 hat
   obtain ⟨ex,a2,w2,⟨e2,h2,hat2,hk,hs2⟩,harr⟩:=ih (hf.imp (fun z=>z) fun hh=>hh) hz (mcode_same b hb) hat b0 (.inLoop b :: k) cs hro hbf hroom
   have s2:Same (wr rf b) e e2:=fun s hs=>by rw [hs2 s hs,s1 s hs]
   cases ex with
   | normal =>
    obtain ⟨ex3,a3,w3,hq3,harr3⟩:=hn e2 h2 hk s2 a2 w2 hat2
    exact ⟨ex3,a3,w3,hq3,.of_steps (StepsIn.trans harr (.one (fenced_calm hbf hroom rfl) stepR_inLoop)) harr3⟩
   | exit id=>exact ⟨_,a2,w2,⟨e2,h2,hat2,hx _ _ _ (by simp) hk s2⟩,.pass (x:=.inLoop b) rfl (fun _ _=>.inl (by simp)) harr⟩
   | goto l=>exact ⟨_,a2,w2,⟨e2,h2,hat2,hx _ _ _ (by simp) hk s2⟩,.pass (x:=.inLoop b) rfl (fun _ _=>.inl (by simp)) harr⟩
   | ret=>exact ⟨_,a2,w2,⟨e2,h2,hat2,hx _ _ _ (by simp) hk s2⟩,.pass (x:=.inLoop b) rfl (fun _ _=>.inl (by simp)) harr⟩
   | panic ch=>exact ⟨_,a2,w2,⟨e2,h2,hat2,hx _ _ _ (by simp) hk s2⟩,.pass (x:=.inLoop b) rfl (fun _ _=>.inl (by simp)) harr⟩
   | outgrown=>exact ⟨_,a2,w2,⟨e2,h2,hat2,hx _ _ _ (by simp) hk s2⟩,.pass (x:=.inLoop b) rfl (fun _ _=>.inl (by simp)) harr⟩
  obtain ⟨ex,a',w',hq,harr⟩:=key a w s
  exact ⟨ex,a',w',hq,.of_steps (.one (fenced_calm hbf hroom rfl) stepR_loop) harr⟩
 | scope b ih =>
  intro rd nn dz w0 h0 we e h a w K hf hz hm s
  obtain rfl:rd=none:=hf.resolve_right (by simp [flat])
  refine wpIn_wide.2 (wp_scope_straight (wp_mono (wpIn_wide.1 (ih (rd:=none) (nn:=nn) (.inl rfl) (fun hh=>by have:=hz hh;simp [flat] at this) hm s)) ?_))
  rintro ex a1 w1 ⟨e1,h1,s1,hk⟩
  cases ex with
  | goto l=>exact hk.elim
  | _=>exact ⟨e1,h1,s1,hk⟩
 | exit id=>intro rd nn dz w0 h0 we e h a w K _ _ hm s;exact wpIn_exit ⟨e,h,s,hm⟩
 | goto l=>intro rd nn dz w0 h0 we e h a w K _ _ hm s;exact wpIn_goto ⟨e,h,s,hm⟩
 | ret=>intro rd nn dz w0 h0 we e h a w K _ _ hm s;exact wpIn_ret ⟨e,h,s,hm⟩
 | rangeFunc g ps x y ihx ihy =>
  intro rd nn dz w0 h0 we e h a w K hf hz hm s
  obtain rfl:rd=none:=hf.resolve_right (by simp [flat])
  simp only [mcode] at hm
  split at hm
  ·rename_i gf a1 a2 hg
   obtain ⟨hcall,hfx,hfy,hps,hm⟩:=hm
   refine wpIn_rangeFunc fun fn _=>?_
   let c0:Loop:={ state:=.ready,pending:=none,fn:=fn,tmps:=a.tmps,params:=ps,assign:=x,body:=y,defers:=w.heap.size }
   let w1:World:=(w.alloc (.deferred (some []))).alloc (.loop c0)
   let l:Nat:=w.heap.size+1
   obtain ⟨d,hd1,hd2⟩:=run_resolve (P:=P) (l:=l) (w:=w1) (s.eval hg) rfl hcall
   have hl0:h l=none:=by
    cases hh:h l with
    | none=>rfl
    | some o=>have:=s.ext.sat.lt hh;exact absurd this (by show ¬ w.heap.size+1<w.heap.size;omega)
   have hD0:h w.heap.size=none:=s.ext.sat.fresh
   have hw1:w1.heap=(w.heap.push (.deferred (some []))).push (.loop c0):=rfl
   have hsz1:w1.heap.size=w.heap.size+2:=by rw [hw1];simp
   have hold:∀ k,k<w.heap.size→w1.heap[k]? = w.heap[k]? := fun k hk=>by rw [hw1,Array.getElem?_push_lt (by simp;omega),← Array.getElem?_eq_getElem,Array.getElem?_push_lt hk,← Array.getElem?_eq_getElem]
   have hatD:w1.heap[w.heap.size]? = some (.deferred (some [])):=by rw [hw1,Array.getElem?_push_lt (by simp),← Array.getElem?_eq_getElem];simp
   have hatl:w1.heap[l]? = some (lob c0 .ready none):=by
    show w1.heap[w.heap.size+1]? = _
    rw [hw1]
    have:w.heap.size+1=(w.heap.push (.deferred (some []))).size:=by simp
    rw [this,Array.getElem?_push_size];rfl
   have x1:Ext w0 h w (h.set l (lob c0 .ready none)) w1:=⟨⟨s.ext.sat.os,s.ext.sat.tape,s.ext.sat.output,by have:=s.ext.sat.size;omega,fun b o he=>by
     unfold Hp.set at he
     split at he
     ·rename_i hb;cases he;rw [hb];exact hatl
     ·rw [hold b (s.ext.sat.lt he)];exact s.ext.sat.known b o he⟩,by omega,fun b hb he=>⟨hold b hb,by rw [Hp.set_other _ _ (by show b≠w.heap.size+1;omega)];exact he⟩⟩
   obtain ⟨β,r1,_,_,_⟩:=s.rel
   have hX:=hm.go l c0 hl0 (fun args h1 K1 hr=>yield_sound (N:=N) (rf:=rf) (x:=x) (y:=y) hps rfl rfl rfl s.size (fun t v hv=>by have:=r1 t;rw [hv] at this;exact this)
    (fun hA hat=>ihx (.inr hfx) (fun _=>hfx) hA hat) (fun hB hat=>ihy (.inr hfy) (fun _=>hfy) hB hat) args h1 K1 hr)
   refine ⟨l,[mark w.heap.size],w1,d,w1,gf,_,w1,run_enterLoop_outer fn a.tmps ps x y,hd1,fun _ _=>trivial,hd2,fun hh=>(by cases hh),calls_FW ((X.go hX w0 w1 x1.sat).mono ?_)⟩
   rintro en w3 ⟨v,h3,rfl,x3,st,pd,hl3,hst,hj⟩
   have hw3:=x3.sat.known _ _ hl3
   have hlt3:=x3.sat.lt hl3
   have x4:Ext w0 h3 w3 (h3.set l (lob c0 .exhausted pd)) (w3.putObj l (lob c0 .exhausted pd)) :=
    Ext.put x3.sat hl3 rfl rfl rfl (by simp) (World.putObj_heap_same hlt3) (fun k hk=>World.putObj_heap_other hk)
   have xT:Ext w0 h w (h3.set l (lob c0 .exhausted pd)) (w3.putObj l (lob c0 .exhausted pd)):=x1.trans (x3.trans x4)
   have sT:=s.heap xT
   have hDl:w.heap.size≠l:=by show w.heap.size≠w.heap.size+1;omega
   have hD1:(h.set l (lob c0 .ready none)) w.heap.size=none:=by rw [Hp.set_other _ _ hDl];exact hD0
   obtain ⟨q1,q2⟩:=(x3.trans x4).priv w.heap.size (by omega) hD1
   obtain ⟨bs,eb,hbn,hbb⟩:=s.defers
   have at4:At rf N dz w0 h0 we e (h3.set l (lob c0 .exhausted pd)) { a with defers:=[mark w.heap.size]++a.defers } (w3.putObj l (lob c0 .exhausted pd)):=by
    refine ⟨sT.size,⟨w.heap.size :: bs,⟨.left eb.1,fun hh=>by have:=hz hh;simp [flat] at this⟩,List.nodup_cons.2 ⟨fun hmem=>?_,hbn⟩,fun b hb=>?_⟩,sT.ext,sT.rel⟩
    ·have:=(Array.getElem?_eq_some_iff.1 (hbb _ hmem).1).1
     omega
    ·rcases List.mem_cons.1 hb with rfl | hb
     ·exact ⟨q1.trans hatD,q2,s.ext.grow⟩
     ·obtain ⟨g1,g2,g3⟩:=hbb b hb
      obtain ⟨p1,p2⟩:=xT.priv b (Array.getElem?_eq_some_iff.1 g1).1 g2
      exact ⟨p1.trans g1,p2,g3⟩
   refine ⟨pd,_,run_endLoop hw3 hst,?_⟩
   cases pd with
   | none=>exact ⟨e,_,at4,hj⟩
   | some cd =>
    cases cd with
    | ret=>exact wpIn_ret ⟨e,_,at4,hj⟩
    | exit id=>exact wpIn_exit ⟨e,_,at4,hj⟩
    | goto t=>exact wpIn_goto ⟨e,_,at4,hj⟩
    | _=>exact hj.elim
  ·exact hm.elim
 | refuse why=>intro rd nn dz w0 h0 we e h a w K _ _ hm s;exact hm.elim
end
end Go.Mid
