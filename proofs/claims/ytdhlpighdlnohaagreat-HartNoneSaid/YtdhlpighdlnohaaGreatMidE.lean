/-
  THE MIDDLE LAYER, PART FIVE: a region that draws its order.
-/
import Derived.Test.YtdhlpighdlnohaaGreatMidD
set_option linter.unusedSimpArgs false
set_option linter.unusedVariables false
set_option maxHeartbeats 8000000
set_option maxRecDepth 10000
set_option linter.unusedSimpArgs false
set_option linter.unusedVariables false
namespace Go.Mid
open Go Go.RowKit
section
variable {P:Program} {rf:RF} {ops:Array Oper} {o x y:Oper} {e e':ME} {h:Hp}
theorem gen_upd {u:Upd} (hp:gen P o e=some (.upd u)):∃ v,u=dstU o.dst (.v v):=by
 unfold gen at hp
 split at hp
 ·split at hp
  ·cases hp;exact ⟨_,rfl⟩
  ·cases hp
 ·cases hp
theorem gen_fits {u:Upd} (hp:gen P o e=some (.upd u)):u.fits rf o:=by obtain ⟨v,rfl⟩:=gen_upd hp;exact fits_dstU _ _ _
theorem refU_fits {d:Option Tmp} {b off:Nat} {u:Upd} (hd:o.dst=d) (hp:refU rf d b off=some (.upd u)):u.fits rf o:=by
 unfold refU at hp
 split at hp
 ·split at hp
  ·cases hp;exact hd
  ·cases hp
 ·cases hp
theorem plan_fits {u:Upd} (hp:plan P rf o e=some (.upd u)):u.fits rf o:=by
 obtain ⟨dst,op,ty,pos,after,guard⟩:=o
 cases op with
 | move z | assign z =>
  simp only [plan] at hp
  split at hp
  ·exact refU_fits rfl hp
  ·split at hp <;> (cases hp;exact fits_dstU _ _ _)
 | nilCheck z =>
  simp only [plan] at hp
  split at hp
  ·exact refU_fits rfl hp
  ·exact gen_fits hp
 | alloc el =>
  simp only [plan] at hp
  cases dst with
  | none=>exact gen_fits hp
  | some d =>
   simp only at hp
   split at hp
   ·rename_i hr
    (repeat' split at hp) <;> first
     | (cases hp;done)
     | (cases hp;exact ⟨rfl,hr,by simp [turned,makes,hr]⟩)
   ·exact gen_fits hp
 | box el z =>
  simp only [plan] at hp
  cases dst with
  | none=>exact gen_fits hp
  | some d =>
   simp only at hp
   split at hp
   ·rename_i hr
    (repeat' split at hp) <;> first
     | (cases hp;done)
     | (cases hp;exact ⟨rfl,hr,by simp [turned,makes,hr]⟩)
   ·exact gen_fits hp
 | load t z =>
  simp only [plan] at hp
  split at hp
  ·(repeat' split at hp) <;> first
    | (cases hp;done)
    | (cases hp;exact fits_dstU _ _ _)
  ·exact gen_fits hp
 | store t z w =>
  simp only [plan] at hp
  split at hp
  ·rename_i b off hb
   obtain ⟨tt,rfl,_,hrt⟩:=boxOf_spec hb
   (repeat' split at hp) <;> first
    | (cases hp;done)
    | (cases hp;show b ∈ turned rf _;simp [turned,writes,makes,hrt])
  ·exact gen_fits hp
 | fieldAddr st z f =>
  simp only [plan] at hp
  split at hp
  ·(repeat' split at hp) <;> first
    | (cases hp;done)
    | exact refU_fits rfl hp
  ·exact gen_fits hp
 | indexAddr st z f =>
  simp only [plan] at hp
  split at hp
  ·(repeat' split at hp) <;> first
    | (cases hp;done)
    | exact refU_fits rfl hp
  ·exact gen_fits hp
 | _=>exact gen_fits (P:=P) hp
theorem planG_fits {u:Upd} (hp:planG P rf ops o e=some (.upd u)):u.fits rf o:=by
 unfold planG at hp
 split at hp
 ·split at hp
  ·exact plan_fits hp
  ·cases hp;exact fits_dstU _ _ _
 ·cases hp
theorem ev_agree (ha:Agree rf ops o e e') {z:Operand} (hz:z ∈ o.op.operands):ev e z=ev e' z:=by
 cases z with
 | tmp t=>exact ha.1 t (List.mem_append_left _ (List.mem_filterMap.2 ⟨.tmp t,by simpa using hz,rfl⟩))
 | _=>rfl
theorem boxOf_agree (ha:Agree rf ops o e e') {z:Operand} (hz:z ∈ o.op.operands):boxOf rf e z=boxOf rf e' z:=by
 cases z with
 | tmp t=>have:=ev_agree ha hz;simp only [ev] at this;simp only [boxOf,this]
 | _=>rfl
theorem box_agree (ha:Agree rf ops o e e') {z:Operand} (hz:z ∈ o.op.operands) {b off:Nat} (hb:boxOf rf e' z=some (b,off)):e.box b=e'.box b:=by
 obtain ⟨t,rfl,_,hrt⟩:=boxOf_spec hb
 exact ha.2 b (mem_touched_look (List.mem_append_left _ (List.mem_filterMap.2 ⟨.tmp t,by simpa using hz,rfl⟩)) hrt)
theorem all_congr {α:Type} {f g:α→Bool}:∀ (l:List α),(∀ z,z ∈ l→f z=g z)→l.all f=l.all g
 | [],_=>rfl
 | z :: l,hh=>by simp only [List.all_cons];rw [hh z (by simp),all_congr l (fun w hw=>hh w (by simp [hw]))]
theorem calcV_congr {ρ ρ':Operand→Value} {op:Op} (hh:∀ z ∈ op.operands,ρ z=ρ' z):calcV P ρ op=calcV P ρ' op:=by
 have pairs:∀ ps:Array (Nat×Operand),(∀ z ∈ ps.map (·.2),ρ z=ρ' z)→(ps.toList.map fun p=>(p.1,ρ p.2))=(ps.toList.map fun p=>(p.1,ρ' p.2)):=fun ps hp =>
  List.map_congr_left fun p hm=>by
   obtain ⟨i,z⟩:=p
   simp only [hp z (Array.mem_map.2 ⟨(i,z),by simpa using hm,rfl⟩)]
 cases op <;> simp only [Op.operands] at hh <;> simp only [calcV]
 case build t ps=>rw [pairs ps fun z hz=>hh z (by simpa using hz)]
 case makeFunc fn first captured =>
  rw [List.map_congr_left (l:=first.toList) fun z hz=>hh z (by simp [Array.mem_toList_iff.1 hz]),List.map_congr_left (l:=captured.toList) fun z hz=>hh z (by simp [Array.mem_toList_iff.1 hz])]
 case slice t z lo hi mx=>cases lo <;> cases hi <;> cases mx <;> simp_all
 case call c =>
  obtain ⟨callee,args,argTypes⟩:=c
  simp only [Call.operands] at hh
  have ha:∀ z ∈ args,ρ z=ρ' z:=fun z hz=>hh z (by simp [hz])
  obtain ⟨args⟩:=args
  cases callee with
  | builtin b =>
   cases args with
   | nil=>cases b <;> rfl
   | cons x r =>
    have hx:=ha x (by simp)
    cases r with
    | nil =>
     obtain ⟨at1⟩:=argTypes
     cases at1 with
     | nil=>cases b <;> rfl
     | cons t1 r1 =>
      cases r1 with
      | nil=>cases b <;> first | rfl | simp [hx]
      | cons t2 r2=>cases b <;> rfl
    | cons y r =>
     have hy:=ha y (by simp)
     cases r with
     | nil=>cases b <;> first | rfl | simp [hx,hy]
     | cons z r=>cases b <;> rfl
  | _=>rfl
 all_goals (first | rfl | (simp_all;done))
theorem actOf_congr {ρ ρ' : Operand → Value} (hns : noSel o.op = true) (hh : ∀ z ∈ o.op.operands, ρ z = ρ' z) : actOf P ρ o = actOf P ρ' o := by
  have hx : execOp ρ o = execOp ρ' o := execOp_congr o (fun cs b hs => by rw [hs] at hns; cases hns) hh
  have pairs : ∀ ps : Array (Nat × Operand), (∀ z ∈ ps.map (·.2), ρ z = ρ' z) → (ps.toList.map fun p => (p.1, ρ p.2)) = (ps.toList.map fun p => (p.1, ρ' p.2)) := fun ps hp =>
    List.map_congr_left fun p hm => by
      obtain ⟨i, z⟩ := p
      simp only [hp z (Array.mem_map.2 ⟨(i, z), by simpa using hm, rfl⟩)]
  unfold actOf
  rw [hx]
  obtain ⟨dst, op, ty, pos, after, guard⟩ := o
  cases op <;> simp only [Op.operands] at hh <;> simp only []
  case buildSlice t n ps => rw [pairs ps fun z hz => hh z (by simpa using hz)]
  case makeMap t r => cases r <;> simp_all
  case call c =>
    obtain ⟨callee, args, argTypes⟩ := c
    simp only [Call.operands] at hh
    cases callee with
    | value f =>
      have e1 : ρ f = ρ' f := hh f (by simp)
      have e2 : args.toList.map ρ = args.toList.map ρ' := List.map_congr_left fun z hz => hh z (by simp at hz; simp [hz])
      simp only [e1, e2]
    | builtin b =>
      have h2 : ∀ z ∈ args.toList, ρ z = ρ' z := fun z hz => hh z (by simpa using hz)
      cases b <;> first
        | rfl
        | (simp only []
           split
           · rename_i ha _
             rw [ha] at h2
             simp only [List.mem_cons, List.not_mem_nil, or_false, forall_eq_or_imp, forall_eq] at h2
             simp only [h2]
           · rfl)
    | _ => rfl
  all_goals (first | rfl | (simp_all; done))
theorem gen_agree (ha:Agree rf ops o e e'):gen P o e=gen P o e':=by
 have hv:allV e o.op=allV e' o.op:=by
  unfold allV
  exact all_congr _ fun z hz=>by rw [ev_agree ha (by simpa using hz)]
 have hvals:∀ z ∈ o.op.operands,vals e z=vals e' z:=fun z hz=>by unfold vals;rw [ev_agree ha hz]
 unfold gen
 rw [hv,calcV_congr hvals]
 split
 ·rename_i hh
  simp only [Bool.and_eq_true] at hh
  rw [actOf_congr hh.2 hvals]
 ·rfl
theorem plan_agree (ha:Agree rf ops o e e'):plan P rf o e=plan P rf o e':=by
 have hg:=gen_agree (P:=P) ha
 obtain ⟨dst,op,ty,pos,after,guard⟩:=o
 have hev:=fun z hz=>ev_agree ha (z:=z) hz
 have hbo:=fun z hz=>boxOf_agree ha (z:=z) hz
 have hbx:=fun z hz=>@box_agree rf ops _ e e' ha z hz
 cases op with
 | move z | assign z | nilCheck z=>simp only [plan,hg,hev z (by simp [Op.operands]),hbo z (by simp [Op.operands])]
 | alloc el=>simp only [plan,hg]
 | box el z=>simp only [plan,hg,hev z (by simp [Op.operands])]
 | load t z =>
  simp only [plan,hg,hbo z (by simp [Op.operands])]
  split
  ·rename_i b off hb;rw [hbx z (by simp [Op.operands]) hb]
  ·rfl
 | store t z w =>
  simp only [plan,hg,hbo z (by simp [Op.operands]),hev w (by simp [Op.operands])]
  split
  ·rename_i b off hb;rw [hbx z (by simp [Op.operands]) hb]
  ·rfl
 | fieldAddr st z f=>simp only [plan,hg,hbo z (by simp [Op.operands])]
 | indexAddr st z f=>simp only [plan,hg,hbo z (by simp [Op.operands]),hev f (by simp [Op.operands])]
 | _=>exact hg
theorem planG_agree (ha:Agree rf ops o e e'):planG P rf ops o e=planG P rf ops o e':=by
 have hw:wantM ops o e=wantM ops o e':=by
  unfold wantM
  cases hg:o.guard with
  | none=>rfl
  | some p =>
   obtain ⟨j,want⟩:=p
   cases hd:(ops[j]?).bind (·.dst) with
   | none=>simp only [hd]
   | some d=>simp only [hd];rw [ha.1 d (List.mem_append_right _ (by simp [hg,hd]))]
 unfold planG
 rw [hw,plan_agree ha]
def heapOk:Cl→Cl→Bool
 | .b,.c=>false
 | .c,.b=>false
 | .c,.c=>false
 | .n,.b=>false
 | .n,.c=>false
 | .e,.a=>true
 | .a,.e=>true
 | .e,_=>false
 | _,.e=>false
 | _,_=>true
theorem gen_stable {A:Action} (hp:gen P o e=some (.act A)):Stable A:=by
 unfold gen at hp
 split at hp
 ·split at hp
  ·cases hp
  ·cases hp;exact actOf_stable _ _
 ·cases hp
theorem refU_stable {d:Option Tmp} {b off:Nat} {A:Action} (hp:refU rf d b off=some (.act A)):Stable A:=by
 unfold refU at hp
 split at hp
 ·split at hp <;> cases hp
 ·cases hp
theorem plan_stable {A:Action} (hp:plan P rf o e=some (.act A)):Stable A:=by
 unfold plan at hp
 (repeat' split at hp) <;> first
  | exact gen_stable hp
  | exact refU_stable hp
  | cases hp
theorem planG_stable {A:Action} (hp:planG P rf ops o e=some (.act A)):Stable A:=by
 unfold planG at hp
 split at hp
 ·split at hp
  ·exact plan_stable hp
  ·cases hp
 ·cases hp
theorem mrun_mono {Inv:Hp→Prop} {k:Cl} {pl:Option Plan} {K K':ME→Hp→Prop} (hk:∀ e h,K e h→K' e h) (hr:mrun P rf Inv k o pl e h K):mrun P rf Inv k o pl e h K':=by
 unfold mrun at *
 cases k with
 | a=>simp only at *;split at hr <;> first | exact hk _ _ hr | exact hr
 | b=>simp only at *;obtain ⟨u,h1,h2,_⟩:=runB_spec hr;exact h2 (hk _ _ h1)
 | c=>exact run1_mono (fun _ _ ⟨a,b⟩=>⟨a,hk _ _ b⟩) hr
 | d=>simp only at *;obtain ⟨u,h1,h2,_⟩:=runD_spec hr;exact h2 (hk _ _ h1)
 | n=>exact ⟨hr.1,run1_mono hk hr.2⟩
 | e=>exact run1_mono hk hr
theorem swap0 {Inv:Hp→Prop} {k l:Cl} (hke:k≠.e) (hup:k=.n∨l=.n→UpInv Inv) (hinv:l≠.a→Inv h) (hi:indep rf ops x y=true) (hc:heapOk k l=true) (hf:Fin h) {K:ME→Hp→Prop}
  (hr:mrun P rf Inv k x (planG P rf ops x e) e h fun e1 h1=>mrun P rf Inv l y (planG P rf ops y e1) e1 h1 K) :
  mrun P rf Inv l y (planG P rf ops y e) e h fun e1 h1=>mrun P rf Inv k x (planG P rf ops x e1) e1 h1 K:=by
 obtain ⟨i1,i2,i3,i4,i5⟩:=indep_spec hi
 have atY:∀ u:Upd,u.fits rf x→planG P rf ops y (u.app rf e)=planG P rf ops y e:=fun u hu=>(planG_agree (agree_app i1 i4 hu)).symm
 have atX:∀ u:Upd,u.fits rf y→planG P rf ops x (u.app rf e)=planG P rf ops x e:=fun u hu=>(planG_agree (agree_app i3 i5 hu)).symm
 have fitX:∀ u',planG P rf ops x e=some (.upd u')→u'.fits rf x:=fun _=>planG_fits
 have fitY:∀ u',planG P rf ops y e=some (.upd u')→u'.fits rf y:=fun _=>planG_fits
 have stX:∀ A,planG P rf ops x e=some (.act A)→Stable A:=fun _=>planG_stable
 generalize hpx:planG P rf ops x e=px at *
 generalize hpy:planG P rf ops y e=py at *
 have fitOf:∀ {o:Oper} {pl:Option Plan} {u:Upd},(∀ u',pl=some (.upd u')→u'.fits rf o)→(∀ s,pl=some (.act s)→∃ v,u=dstU o.dst (.v v))→(∀ u',pl=some (.upd u')→u=u')→pl≠none→u.fits rf o :=
  fun {o pl u} f s q n=>by
   cases pl with
   | none=>exact absurd rfl n
   | some p=>cases p with
    | upd u'=>have:=q u' rfl;subst this;exact f u rfl
    | act s'=>obtain ⟨v,rfl⟩:=s s' rfl;exact fits_dstU _ _ _
 have aFit:∀ {o:Oper} {pl:Option Plan} {u:Upd},(∀ u',pl=some (.upd u')→u'.fits rf o)→updA P o pl=some u→u.fits rf o:=fun {o pl u} f hu =>
  fitOf f (updA_spec hu).1 (updA_spec hu).2 (fun hn=>by rw [hn] at hu;cases hu)
 have bFit:∀ {o:Oper} {pl:Option Plan} {u:Upd} {K:Upd→Prop},(∀ u',pl=some (.upd u')→u'.fits rf o)→runB P o pl h K→(∀ s,pl=some (.act s)→∃ v,u=dstU o.dst (.v v))→(∀ u',pl=some (.upd u')→u=u')→u.fits rf o :=
  fun {o pl u K} f hb s q=>fitOf f s q (fun hn=>by rw [hn] at hb;exact hb)
 have dFit:∀ {o:Oper} {pl:Option Plan} {u:Upd} {K:Upd→Prop},(∀ u',pl=some (.upd u')→u'.fits rf o)→runD P Inv o pl K→(∀ s,pl=some (.act s)→∃ v,u=dstU o.dst (.v v))→(∀ u',pl=some (.upd u')→u=u')→u.fits rf o :=
  fun {o pl u K} f hb s q=>fitOf f s q (fun hn=>by rw [hn] at hb;exact hb)
 have one:∀ (u:Upd),u.fits rf x→(∀ {e':ME} {h':Hp} {K':ME→Hp→Prop},(l≠.c→l≠.e→h'=h∨∃ b ob,h b=none∧h'=h.set b ob)→K' (u.app rf e') h'→mrun P rf Inv k x px e' h' K') →
   mrun P rf Inv l y py (u.app rf e) h K→mrun P rf Inv l y py e h fun e1 h1=>mrun P rf Inv k x (planG P rf ops x e1) e1 h1 K:=by
  intro u hu hx hy
  cases l with
  | a =>
   simp only [mrun] at hy ⊢
   split at hy
   ·rename_i v hv
    have hvf:=aFit fitY hv
    rw [atX v hvf]
    refine hx (fun _ _=>.inl rfl) ?_
    rw [app_comm hi hu hvf];exact hy
   ·exact hy.elim
  | b =>
   simp only [mrun] at hy ⊢
   obtain ⟨v,h1,h2,_,h4,h5⟩:=runB_spec hy
   have hvf:=bFit fitY hy h4 h5
   refine h2 ?_
   show mrun P rf Inv k x (planG P rf ops x (v.app rf e)) (v.app rf e) h K
   rw [atX v hvf]
   refine hx (fun _ _=>.inl rfl) ?_
   rw [app_comm hi hu hvf];exact h1
  | d =>
   simp only [mrun] at hy ⊢
   obtain ⟨v,h1,h2,_,h4,h5⟩:=runD_spec hy
   have hvf:=dFit fitY hy h4 h5
   refine h2 ?_
   show mrun P rf Inv k x (planG P rf ops x (v.app rf e)) (v.app rf e) h K
   rw [atX v hvf]
   refine hx (fun _ _=>.inl rfl) ?_
   rw [app_comm hi hu hvf];exact h1
  | n =>
   simp only [mrun] at hy ⊢
   obtain ⟨hn,hy⟩:=hy
   cases py with
   | none=>exact hy.elim
   | some p =>
    cases p with
    | upd v =>
     have hvf:=fitY v rfl
     refine ⟨rfl,?_⟩
     show mrun P rf Inv k x (planG P rf ops x (v.app rf e)) (v.app rf e) h K
     rw [atX v hvf]
     refine hx (fun _ _=>.inl rfl) ?_
     rw [app_comm hi hu hvf];exact hy
    | act A =>
     cases A with
     | nw ob vv =>
      refine ⟨rfl,fun b hb=>?_⟩
      have hvf:=fits_dstU rf y (.v (vv b))
      show mrun P rf Inv k x (planG P rf ops x ((dstU y.dst (.v (vv b))).app rf e)) _ (h.set b ob) K
      rw [atX _ hvf]
      refine hx (fun _ _=>.inr ⟨b,ob,hb,rfl⟩) ?_
      rw [app_comm hi hu hvf];exact hy b hb
     | _=>cases hn
  | c =>
   simp only [mrun] at hy
   change run1 P rf y py e h fun e1 h1=>Inv h1∧mrun P rf Inv k x (planG P rf ops x e1) e1 h1 K
   cases py with
   | none=>exact hy
   | some p =>
    cases p with
    | upd v =>
     have hvf:=fitY v rfl
     refine ⟨hy.1,?_⟩
     show mrun P rf Inv k x (planG P rf ops x (v.app rf e)) (v.app rf e) h K
     rw [atX v hvf]
     refine hx (fun n _=>absurd rfl n) ?_
     rw [app_comm hi hu hvf];exact hy.2
    | act s =>
     refine aRun_mono (fun v h'' hk=>⟨hk.1,?_⟩) hy
     have hvf:=fits_dstU rf y (.v v)
     show mrun P rf Inv k x (planG P rf ops x ((dstU y.dst (.v v)).app rf e)) _ h'' K
     rw [atX _ hvf]
     refine hx (fun n _=>absurd rfl n) ?_
     rw [app_comm hi hu hvf];exact hk.2
  | e =>
   simp only [mrun] at hy
   change run1 P rf y py e h fun e1 h1=>mrun P rf Inv k x (planG P rf ops x e1) e1 h1 K
   cases py with
   | none=>exact hy
   | some p =>
    cases p with
    | upd v =>
     have hvf:=fitY v rfl
     show mrun P rf Inv k x (planG P rf ops x (v.app rf e)) (v.app rf e) h K
     rw [atX v hvf]
     refine hx (fun _ n=>absurd rfl n) ?_
     rw [app_comm hi hu hvf];exact hy
    | act s =>
     refine aRun_mono (fun v h'' hk=>?_) hy
     have hvf:=fits_dstU rf y (.v v)
     show mrun P rf Inv k x (planG P rf ops x ((dstU y.dst (.v v)).app rf e)) _ h'' K
     rw [atX _ hvf]
     refine hx (fun _ n=>absurd rfl n) ?_
     rw [app_comm hi hu hvf];exact hk
 have late:∀ (u:Upd),u.fits rf y→(∀ {e':ME} {h':Hp},Inv h'→mrun P rf Inv l y py e' h' K→K (u.app rf e') h') →
   (∀ {K':ME→Hp→Prop},K' (u.app rf e) h→mrun P rf Inv l y py e h K') →
   (run1 P rf x px e h fun e1 h1=>Inv h1∧mrun P rf Inv l y (planG P rf ops y e1) e1 h1 K)→mrun P rf Inv l y py e h fun e1 h1=>mrun P rf Inv .c x (planG P rf ops x e1) e1 h1 K:=by
  intro u huf hget hput hr
  refine hput ?_
  show mrun P rf Inv .c x (planG P rf ops x (u.app rf e)) (u.app rf e) h K
  rw [atX u huf]
  change run1 P rf x px (u.app rf e) h fun e1 h1=>Inv h1∧K e1 h1
  cases px with
  | none=>exact hr
  | some p =>
   cases p with
   | upd v =>
    refine ⟨hr.1,?_⟩
    have h2:=hr.2
    change mrun P rf Inv l y (planG P rf ops y (v.app rf e)) (v.app rf e) h K at h2
    rw [atY v (fitX v rfl)] at h2
    have:=hget hr.1 h2
    show K (v.app rf (u.app rf e)) h
    rw [app_comm hi (fitX v rfl) huf];exact this
   | act s =>
    refine aRun_mono (fun v h'' hk=>⟨hk.1,?_⟩) hr
    have h2:=hk.2
    change mrun P rf Inv l y (planG P rf ops y ((dstU x.dst (.v v)).app rf e)) _ h'' K at h2
    rw [atY _ (fits_dstU rf x (.v v))] at h2
    have:=hget hk.1 h2
    show K ((dstU x.dst (.v v)).app rf (u.app rf e)) h''
    rw [app_comm hi (fits_dstU rf x (.v v)) huf];exact this
 have never:(∀ e' h',mrun P rf Inv l y py e' h' K→False)→(run1 P rf x px e h fun e1 h1=>Inv h1∧mrun P rf Inv l y (planG P rf ops y e1) e1 h1 K)→False:=by
  intro hn hr
  refine run1_some (P:=P) (rf:=rf) (o:=x) (pl:=px) (e:=e) hf ?_
  cases px with
  | none=>exact hr
  | some p =>
   cases p with
   | upd v =>
    have h2:=hr.2
    change mrun P rf Inv l y (planG P rf ops y (v.app rf e)) (v.app rf e) h K at h2
    rw [atY v (fitX v rfl)] at h2
    exact hn _ _ h2
   | act s =>
    refine aRun_mono (fun v h'' hk=>?_) hr
    have h2:=hk.2
    change mrun P rf Inv l y (planG P rf ops y ((dstU x.dst (.v v)).app rf e)) _ h'' K at h2
    rw [atY _ (fits_dstU rf x (.v v))] at h2
    exact hn _ _ h2
 have fresh:∃ b,h b=none:=by obtain ⟨B,hB⟩:=hf;exact ⟨B,hB B (Nat.le_refl _)⟩
 cases k with
 | a =>
  simp only [mrun] at hr
  split at hr
  ·rename_i u hu
   have huf:=aFit fitX hu
   rw [atY u huf] at hr
   exact one u huf (fun _ hk=>by simp only [mrun,hu];exact hk) hr
  ·exact hr.elim
 | b =>
  have hl:l≠.c:=fun e=>by subst e;cases hc
  have hl2:l≠.e:=fun e=>by subst e;cases hc
  simp only [mrun] at hr
  obtain ⟨u,h1,h2,_,h4,h5⟩:=runB_spec hr
  have huf:=bFit fitX hr h4 h5
  have hy:mrun P rf Inv l y (planG P rf ops y (u.app rf e)) (u.app rf e) h K:=h1
  rw [atY u huf] at hy
  refine one u huf (fun {e' h' K'} hh hk=>?_) hy
  rcases hh hl hl2 with rfl | ⟨b,ob,hb,rfl⟩
  ·exact h2 hk
  ·exact runB_new stX hb (h2 hk)
 | n =>
  obtain ⟨hn,hr⟩:=hr
  have hU:=hup (.inl rfl)
  cases px with
  | none=>exact hr.elim
  | some p =>
   cases p with
   | upd u =>
    have hy:mrun P rf Inv l y (planG P rf ops y (u.app rf e)) (u.app rf e) h K:=hr
    rw [atY u (fitX u rfl)] at hy
    exact one u (fitX u rfl) (fun {e' h' K'} _ hk=>⟨rfl,hk⟩) hy
   | act A =>
    cases A with
    | nw ob vv =>
     have hr:∀ b,h b=none→mrun P rf Inv l y py ((dstU x.dst (.v (vv b))).app rf e) (h.set b ob) K:=fun b hb=>by
      have h2:mrun P rf Inv l y (planG P rf ops y ((dstU x.dst (.v (vv b))).app rf e)) _ (h.set b ob) K:=hr b hb
      rw [atY _ (fits_dstU rf x (.v (vv b)))] at h2
      exact h2
     obtain ⟨b0,hb0⟩:=fresh
     have byU:∀ u:Upd,u.fits rf y→(∀ b,h b=none→K (u.app rf ((dstU x.dst (.v (vv b))).app rf e)) (h.set b ob))→mrun P rf Inv .n x (planG P rf ops x (u.app rf e)) (u.app rf e) h K:=fun u huf hk=>by
      rw [atX u huf]
      refine ⟨rfl,fun b hb=>?_⟩
      show K ((dstU x.dst (.v (vv b))).app rf (u.app rf e)) _
      rw [app_comm hi (fits_dstU rf x (.v (vv b))) huf]
      exact hk b hb
     cases l with
     | b=>cases hc
     | c=>cases hc
     | e=>cases hc
     | a =>
      cases hu:updA P y py with
      | none=>have:=hr b0 hb0;simp only [mrun,hu] at this
      | some u =>
       simp only [mrun,hu] at hr ⊢
       exact byU u (aFit fitY hu) hr
     | d =>
      cases py with
      | none=>exact (hr b0 hb0).elim
      | some p =>
       cases p with
       | upd u=>exact byU u (fitY u rfl) hr
       | act A =>
        cases A with
        | rd f =>
         obtain ⟨v,hv,_⟩:=hr b0 hb0
         refine ⟨v,hv,byU (dstU y.dst (.v v)) (fits_dstU rf y (.v v)) fun b hb=>?_⟩
         obtain ⟨v',hv',hk⟩:=hr b hb
         have:v'=v:=Option.some.inj ((hv' h (hinv (by decide))).symm.trans (hv h (hinv (by decide))))
         subst this;exact hk
        | _=>exact (hr b0 hb0).elim
     | n =>
      cases py with
      | none=>exact (hr b0 hb0).2.elim
      | some p =>
       cases p with
       | upd u=>exact ⟨rfl,byU u (fitY u rfl) fun b hb=>(hr b hb).2⟩
       | act A =>
        cases A with
        | nw ob' vv' =>
         refine ⟨rfl,fun b' hb'=>?_⟩
         have hvf:=fits_dstU rf y (.v (vv' b'))
         show mrun P rf Inv .n x (planG P rf ops x ((dstU y.dst (.v (vv' b'))).app rf e)) _ (h.set b' ob') K
         rw [atX _ hvf]
         refine ⟨rfl,fun b hb=>?_⟩
         have hne:b≠b':=fun ee=>by subst ee;rw [Hp.set_same] at hb;cases hb
         have hb2:h b=none:=by rw [Hp.set_other _ _ hne] at hb;exact hb
         have:=(hr b hb2).2 b' (by rw [Hp.set_other _ _ (Ne.symm hne)];exact hb')
         show K ((dstU x.dst (.v (vv b))).app rf ((dstU y.dst (.v (vv' b'))).app rf e)) _
         rw [app_comm hi (fits_dstU rf x (.v (vv b))) hvf,Hp.set_comm _ _ _ (Ne.symm hne)]
         exact this
        | _=>have:=(hr b0 hb0).1;cases this
    | _=>cases hn
 | d =>
  simp only [mrun] at hr
  obtain ⟨u,h1,h2,_,h4,h5⟩:=runD_spec hr
  have huf:=dFit fitX hr h4 h5
  have hy:mrun P rf Inv l y (planG P rf ops y (u.app rf e)) (u.app rf e) h K:=h1
  rw [atY u huf] at hy
  exact one u huf (fun {e' h' K'} _ hk=>h2 hk) hy
 | c =>
  have hr:run1 P rf x px e h fun e1 h1=>Inv h1∧mrun P rf Inv l y (planG P rf ops y e1) e1 h1 K:=hr
  cases l with
  | b=>cases hc
  | c=>cases hc
  | e=>cases hc
  | n =>
   cases py with
   | none=>exact (never (fun e' h' hm=>hm.2) hr).elim
   | some p =>
    cases p with
    | upd u=>exact late u (fitY u rfl) (fun {e' h'} _ hm=>hm.2) (fun {K'} hk=>⟨rfl,hk⟩) hr
    | act A =>
     cases A with
     | nw ob vv =>
      refine ⟨rfl,fun b hb=>?_⟩
      have hvf:=fits_dstU rf y (.v (vv b))
      have hU:=hup (.inr rfl)
      show mrun P rf Inv .c x (planG P rf ops x ((dstU y.dst (.v (vv b))).app rf e)) _ (h.set b ob) K
      rw [atX _ hvf]
      cases px with
      | none=>exact hr
      | some p =>
       cases p with
       | upd v =>
        obtain ⟨h1,h2⟩:=hr
        change mrun P rf Inv .n y (planG P rf ops y (v.app rf e)) (v.app rf e) h K at h2
        rw [atY v (fitX v rfl)] at h2
        refine ⟨hU _ _ h1 (Hp.le_set hb),?_⟩
        show K (v.app rf ((dstU y.dst (.v (vv b))).app rf e)) _
        rw [app_comm hi (fitX v rfl) hvf]
        exact h2.2 b hb
       | act A =>
        refine aRun_mono (fun v h'' hk=>?_) (aRun_new (ob:=ob) (stX A rfl) hb hr)
        obtain ⟨h1,n1,rfl,i1,h2⟩:=hk
        refine ⟨hU _ _ i1 (Hp.le_set n1),?_⟩
        change mrun P rf Inv .n y (planG P rf ops y ((dstU x.dst (.v v)).app rf e)) _ h1 K at h2
        rw [atY _ (fits_dstU rf x (.v v))] at h2
        show K ((dstU x.dst (.v v)).app rf ((dstU y.dst (.v (vv b))).app rf e)) _
        rw [app_comm hi (fits_dstU rf x (.v v)) hvf]
        exact h2.2 b n1
     | _=>exact (never (fun e' h' hm=>by cases hm.1) hr).elim
  | a =>
   cases hu:updA P y py with
   | none=>exact (never (fun e' h' hm=>by simp only [mrun,hu] at hm) hr).elim
   | some u =>
    exact late u (aFit fitY hu) (fun {e' h'} _ hm=>by simp only [mrun,hu] at hm;exact hm) (fun {K'} hk=>by simp only [mrun,hu];exact hk) hr
  | d =>
   cases py with
   | none=>exact (never (fun e' h' hm=>hm) hr).elim
   | some p =>
    cases p with
    | upd u=>exact late u (fitY u rfl) (fun {e' h'} _ hm=>hm) (fun {K'} hk=>hk) hr
    | act A =>
     cases A with
     | rd f =>
      by_cases hv:∃ v,∀ h,Inv h→f h=some v
      ·obtain ⟨v,hv⟩:=hv
       refine late (dstU y.dst (.v v)) (fits_dstU rf y (.v v)) (fun {e' h'} hinv hm=>?_) (fun {K'} hk=>⟨v,hv,hk⟩) hr
       obtain ⟨v',hv',hk⟩:=hm
       have:v'=v:=Option.some.inj ((hv' h' hinv).symm.trans (hv h' hinv))
       subst this;exact hk
      ·exact (never (fun e' h' hm=>by obtain ⟨v,h1,_⟩:=hm;exact hv ⟨v,h1⟩) hr).elim
     | _=>exact (never (fun e' h' hm=>hm) hr).elim
 | e=>exact absurd rfl hke
theorem swap {Inv:Hp→Prop} {k l:Cl} (hup:k=.n∨l=.n→UpInv Inv) (hinv:l≠.a→Inv h) (hi:indep rf ops x y=true) (hc:heapOk k l=true) (hf:Fin h) {K:ME→Hp→Prop}
  (hr:mrun P rf Inv k x (planG P rf ops x e) e h fun e1 h1=>mrun P rf Inv l y (planG P rf ops y e1) e1 h1 K) :
  mrun P rf Inv l y (planG P rf ops y e) e h fun e1 h1=>mrun P rf Inv k x (planG P rf ops x e1) e1 h1 K:=by
 by_cases hk:k=.e
 ·subst hk
  have hl:l=.a:=by cases l <;> first | rfl | (cases hc;done)
  subst hl
  have hr:run1 P rf x (planG P rf ops x e) e h fun e1 h1=>mrun P rf Inv .a y (planG P rf ops y e1) e1 h1 K:=hr
  have hr2:mrun P rf (fun _=>True) .c x (planG P rf ops x e) e h fun e1 h1=>mrun P rf (fun _=>True) .a y (planG P rf ops y e1) e1 h1 K:=by
   show run1 P rf x (planG P rf ops x e) e h fun e1 h1=>True∧mrun P rf (fun _=>True) .a y (planG P rf ops y e1) e1 h1 K
   exact run1_mono (fun e' h' hh=>⟨trivial,hh⟩) hr
  have:=swap0 (k:=.c) (l:=.a) (Inv:=fun _=>True) (by decide) (fun hh=>by rcases hh with hh | hh <;> cases hh) (fun hh=>absurd rfl hh) hi rfl hf hr2
  have h3:mrun P rf Inv .a y (planG P rf ops y e) e h fun e1 h1=>run1 P rf x (planG P rf ops x e1) e1 h1 fun e2 h2=>True∧K e2 h2:=this
  exact mrun_mono (fun e' h' hh=>run1_mono (fun _ _ hq=>hq.2) hh) h3
 ·exact swap0 hk hup hinv hi hc hf hr
end
end Go.Mid
