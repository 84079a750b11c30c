/-
  Instructions as text: why a line can't be.
-/
import Derived.Test.YtdhkjcdneidgaaaGreatDoorLib0
import Derived.RecoverIn
import Derived.Test.YtdhkjcdneidgaaaGreatDoorTrK
namespace Go.Mid
set_option linter.unusedSimpArgs false
set_option linter.unusedVariables false
set_option linter.unusedSimpArgs false
set_option linter.unusedVariables false
open Go Go.RowKit
def isDef (o:Oper):Bool:=match o.op with
 | .defer _=>true
 | _=>false
def anyL {α:Type} (f:α→Bool):List α→Bool
 | []=>false
 | x :: r=>match f x with
  | true=>true
  | false=>anyL f r
noncomputable def hasDef (c:Code):Bool :=
 Code.rec (motive:=fun _=>Bool) false (fun _ ops _=>anyL isDef ops.toList) (fun _ _ a b=>match a with
  | true=>true
  | false=>b) (fun _ _ _ a b=>match a with
  | true=>true
  | false=>b) (fun _ _ a=>a) (fun _ a=>a) (fun _ _ _ _ a b=>match a with
  | true=>true
  | false=>b) (fun _=>false) (fun _ a=>a) (fun _=>false) (fun _=>false) false (fun _=>false) c
abbrev DK:=Exit→ME→Hp→List Deferred→Prop
abbrev DC:=ME→Hp→List Deferred→DK→Prop
def fstep (P:Program) (rf:RF) (ops:Array Oper) (o:Oper) (ih:DC) (e:ME) (h:Hp) (ds:List Deferred) (K:DK):Prop :=
 vguard ops o e fun b e1=>match b with
  | true=>match o.op with
   | .defer c=>match c.callee with
    | .value x=>match ev e1 x with
     | .v (.func fn first cap)=>(allV e1 o.op && noSel o.op)=true∧ih ((dstU o.dst (.v undef)).app rf e1) h ({ target:=.fn fn cap,args:=(first.toList++c.args.toList.map (vals e1)).toArray } :: ds) K
     | _=>False
    | _=>False
   | _=>planK P rf o e1 fun pl=>runK P rf o pl e1 h fun e' h'=>ih e' h' ds K
  | false=>ih ((dstU o.dst (.v undef)).app rf e1) h ds K
def flist (P:Program) (rf:RF) (ops:Array Oper) (l:List Oper):DC :=
 List.rec (motive:=fun _=>DC) (fun e h ds K=>K .normal e h ds) (fun o _ ih=>fstep P rf ops o ih) l
def vD (P:Program) (rf:RF) (cl:Nat→Oper→Cl) (pm:List (Nat×List Nat)) (c:Code):DC:=fun e h ds K=>vcode P rf cl pm c e h fun ex e' h'=>K ex e' h' ds
noncomputable def dif (c:Code) (A B:DC):DC:=fun e h ds K=>match hasDef c with
 | true=>A e h ds K
 | false=>B e h ds K
noncomputable def dcode (P:Program) (rf:RF) (cl:Nat→Oper→Cl) (pm:List (Nat×List Nat)) (c:Code):DC :=
 Code.rec (motive:=fun _=>DC)
  (fun e h ds K=>K .normal e h ds)
  (fun id ops draw=>dif (.region id ops draw) (match draw with
   | true=>fun _ _ _ _=>False
   | false=>flist P rf ops ops.toList) (vD P rf cl pm (.region id ops draw)))
  (fun a b A B=>dif (.seq a b) (fun e h ds K=>A e h ds fun ex e' h' ds'=>match ex with
   | .normal=>B e' h' ds' K
   | ex=>K ex e' h' ds') (vD P rf cl pm (.seq a b)))
  (fun c a b _ _=>dif (.cond c a b) (fun _ _ _ _=>False) (vD P rf cl pm (.cond c a b)))
  (fun id b _=>dif (.block id b) (fun _ _ _ _=>False) (vD P rf cl pm (.block id b)))
  (fun b _=>dif (.loop b) (fun _ _ _ _=>False) (vD P rf cl pm (.loop b)))
  (fun g ps a b _ _=>dif (.rangeFunc g ps a b) (fun _ _ _ _=>False) (vD P rf cl pm (.rangeFunc g ps a b)))
  (fun id e h ds K=>K (.exit id) e h ds)
  (fun b A=>dif (.scope b) (fun e h ds K=>A e h ds fun ex e' h' ds'=>match ex with
   | .goto _=>False
   | ex=>K ex e' h' ds') (vD P rf cl pm (.scope b)))
  (fun _ e h ds K=>K .normal e h ds)
  (fun l e h ds K=>K (.goto l) e h ds)
  (fun e h ds K=>K .ret e h ds)
  (fun _ _ _ _ _=>False) c
def GoesD (rf:RF) (N:Nat) (w0:World) (h0:Hp) (we:World) (K:DK) (ex:Exit) (a:Go.Act) (w:World):Prop:=∃ e h ds,At rf N ⟨ds,false⟩ w0 h0 we e h a w∧K ex e h ds
section
variable {P:Program} {rf:RF} {ops:Array Oper} {N:Nat}
theorem opD_sound {nn:Nat} {w0:World} {h0:Hp} {we:World} {dz:List Deferred} {e:ME} {h:Hp} {a:Go.Act} {w:World} {o:Oper} {ih:DC} {K:DK} {Q:Exit→Go.Act→World→Prop} {i:Nat} (hi:ops[i]? = some o) (hd:∀ k,o.dst=some k→k<N) (s:At rf N ⟨dz,false⟩ w0 h0 we e h a w) (hr:fstep P rf ops o ih e h dz K) :
  wpOpIn (FW none) nn P ops Q i (fun a' w'=>∃ e' h' ds',At rf N ⟨ds',false⟩ w0 h0 we e' h' a' w'∧ih e' h' ds' K) a w:=by
 have hr:vguard ops o e fun b e1=>match b with
  | true=>match o.op with
   | .defer c=>match c.callee with
    | .value x=>match ev e1 x with
     | .v (.func fn first cap)=>(allV e1 o.op && noSel o.op)=true∧ih ((dstU o.dst (.v undef)).app rf e1) h ({ target:=.fn fn cap,args:=(first.toList++c.args.toList.map (vals e1)).toArray } :: dz) K
     | _=>False
    | _=>False
   | _=>planK P rf o e1 fun pl=>runK P rf o pl e1 h fun e' h'=>ih e' h' dz K
  | false=>ih ((dstU o.dst (.v undef)).app rf e1) h dz K:=hr
 obtain ⟨b,hw,hr⟩:=vguard_elim hr
 have reg:∀ {KK:ME→Hp→Prop},run1 P rf o (planG P rf ops o e) e h KK→(∀ e' h',KK e' h'→ih e' h' dz K)→wpOpIn (FW none) nn P ops Q i (fun a' w'=>∃ e' h' ds',At rf N ⟨ds',false⟩ w0 h0 we e' h' a' w'∧ih e' h' ds' K) a w :=
  fun hh hk=>wpOpIn_mono (fun a' w' ⟨e',h',s',k⟩=>⟨e',h',dz,s',hk _ _ k⟩) (op_sound hi hd s hh)
 cases b with
 | false =>
  refine reg (KK:=fun e' h'=>ih e' h' dz K) ?_ fun _ _ k=>k
  unfold planG
  rw [hw]
  exact hr
 | true =>
  simp only at hr
  split at hr
  ·rename_i c hc
   split at hr
   ·rename_i x hx
    split at hr
    ·rename_i fn first cap hf
     obtain ⟨hv,hr⟩:=hr
     unfold wpOpIn
     rw [hi]
     simp only [want_sound s hw,if_true]
     refine ⟨fun _ _=>trivial,?_⟩
     have hex:=s.exec hv
     have hvx:vals e x=.func fn first cap:=by
      unfold vals;rw [hf];rfl
     have hrun:(execOp (vals e) o).run P w=.ok (.defer { target:=.fn fn cap,args:=(first.toList++c.args.toList.map (vals e)).toArray }) w:=by
      unfold execOp
      rw [hc]
      have:(first.toList++c.args.toList.map (vals e)).toArray=first++c.args.map (vals e):=by apply Array.ext';simp
      rw [this]
      simp [resolve,hx,hvx,Deferred.ofValue]
     rw [← hex] at hrun
     have hrun2:(o.semAt (FW none).round a.eval).run P w=.ok (.defer { target:=.fn fn cap,args:=(first.toList++c.args.toList.map (vals e)).toArray }) w:=hrun
     rw [hrun2]
     obtain ⟨bs,hm,hn,hb⟩:=s.defers
     have s2:At rf N ⟨{ target:=.fn fn cap,args:=(first.toList++c.args.toList.map (vals e)).toArray } :: dz,false⟩ w0 h0 we e h { a with defers:={ target:=.fn fn cap,args:=(first.toList++c.args.toList.map (vals e)).toArray } :: a.defers } w:=⟨s.size,⟨bs,⟨.right hm.1,fun hh=>by cases hh⟩,hn,hb⟩,s.ext,s.rel⟩
     exact ⟨_,h,_,s2.slot hd undef _ (.inl rfl),hr⟩
    ·exact hr.elim
   ·exact hr.elim
  ·obtain ⟨pl,hp,hk⟩:=planK_elim hr
   refine reg (KK:=fun e' h'=>ih e' h' dz K) ?_ fun _ _ k=>k
   unfold planG
   rw [hw]
   simp only [if_true,hp]
   exact runK_elim hk
theorem flist_sound {nn:Nat} {w0:World} {h0:Hp} {we:World} {K:DK} (hd:∀ (i:Nat) o,ops[i]? = some o→∀ k,o.dst=some k→k<N):∀ (l:List Oper) (k:Nat) (e:ME) (h:Hp) (dz:List Deferred) (a:Go.Act) (w:World),(∀ j,l[j]? = ops[k+j]?)→flist P rf ops l e h dz K→At rf N ⟨dz,false⟩ w0 h0 we e h a w →
  wpOpsIn (FW none) nn P ops (GoesD rf N w0 h0 we K) (List.range' k l.length) a w
 | [],_,e,h,dz,a,w,_,hm,s=>⟨e,h,dz,s,hm⟩
 | o :: l,k,e,h,dz,a,w,hl,hm,s=>by
  have h0':ops[k]? = some o:=by simpa using (hl 0).symm
  simp only [List.length_cons,List.range'_succ]
  rw [wpOpsIn_cons]
  refine wpOpIn_mono ?_ (opD_sound (ih:=flist P rf ops l) h0' (hd k o h0') s hm)
  rintro a' w' ⟨e',h',ds',s',hm'⟩
  exact flist_sound hd l (k+1) e' h' ds' a' w' (fun j=>by have:=hl (j+1);simpa [Nat.add_assoc,Nat.add_comm 1 j] using this) hm' s'
theorem dif_alt {c:Code} {A B:DC} {e:ME} {h:Hp} {dz:List Deferred} {K:DK} (hh:dif c A B e h dz K):A e h dz K∨B e h dz K:=by
 unfold dif at hh
 split at hh
 ·exact .inl hh
 ·exact .inr hh
attribute [local irreducible] dif in
theorem dcode_sound {cl:Nat→Oper→Cl} {pm:List (Nat×List Nat)} (hmix:P.follows .mixedOrders=true):∀ (c:Code) {nn:Nat} {dz:List Deferred} {w0:World} {h0:Hp} {we:World} {e:ME} {h:Hp} {a:Go.Act} {w:World} {K:DK},okC N rf cl pm c=true→dcode P rf cl pm c e h dz K→At rf N ⟨dz,false⟩ w0 h0 we e h a w →
  c.wpIn (FW none) nn P (GoesD rf N w0 h0 we K) a w:=by
 have plain:∀ (c:Code) {nn:Nat} {dz:List Deferred} {w0:World} {h0:Hp} {we:World} {e:ME} {h:Hp} {a:Go.Act} {w:World} {K:DK},okC N rf cl pm c=true→vD P rf cl pm c e h dz K→At rf N ⟨dz,false⟩ w0 h0 we e h a w→c.wpIn (FW none) nn P (GoesD rf N w0 h0 we K) a w :=
  fun c _ dz _ _ _ e h _ _ _ hok hm s=>wpIn_mono (mcode_sound hmix c (.inl rfl) (fun hh=>by cases hh) (vcode_elim c hok hm) s) fun ex a' w' ⟨e',h',s',k⟩=>⟨e',h',dz,s',k⟩
 intro c
 induction c with
 | skip=>intro nn dz w0 h0 we e h a w K _ hm s;exact wpIn_skip ⟨e,h,dz,s,hm⟩
 | label l=>intro nn dz w0 h0 we e h a w K _ hm s;exact wpIn_label ⟨e,h,dz,s,hm⟩
 | region id ops draw =>
  intro nn dz w0 h0 we e h a w K hok hm s
  rcases dif_alt hm with hm | hm
  ·cases draw with
   | true=>exact hm.elim
   | false =>
    have hok':okR N rf (cl id) pm id ops false=true:=by simp only [okC,Bool.and_eq_true] at hok;exact hok.1
    simp only [okR,Bool.and_eq_true] at hok'
    refine wpIn_region ?_
    rw [List.range_eq_range',← Array.length_toList]
    exact flist_sound (okDst_spec hok'.1) ops.toList 0 e h dz a w (by simp) hm s
  ·exact plain _ hok hm s
 | seq x y ihx ihy =>
  intro nn dz w0 h0 we e h a w K hok hm s
  rcases dif_alt hm with hm | hm
  ·simp only [okC,Bool.and_eq_true] at hok
   refine wpIn_seq (wpIn_mono (ihx hok.1 hm s) ?_)
   rintro ex a1 w1 ⟨e1,h1,ds1,s1,hk⟩
   cases ex with
   | normal=>exact ihy hok.2 hk s1
   | _=>exact ⟨e1,h1,ds1,s1,hk⟩
  ·exact plain _ hok hm s
 | cond c x y ihx ihy=>intro nn dz w0 h0 we e h a w K hok hm s;exact plain _ hok ((dif_alt hm).resolve_left (fun hh=>hh)) s
 | block id b ih=>intro nn dz w0 h0 we e h a w K hok hm s;exact plain _ hok ((dif_alt hm).resolve_left (fun hh=>hh)) s
 | loop b ih=>intro nn dz w0 h0 we e h a w K hok hm s;exact plain _ hok ((dif_alt hm).resolve_left (fun hh=>hh)) s
 | rangeFunc g ps x y ihx ihy=>intro nn dz w0 h0 we e h a w K hok hm s;exact plain _ hok ((dif_alt hm).resolve_left (fun hh=>hh)) s
 | scope b ih =>
  intro nn dz w0 h0 we e h a w K hok hm s
  rcases dif_alt hm with hm | hm
  ·refine wpIn_wide.2 (wp_scope_straight (wp_mono (wpIn_wide.1 (ih (nn:=nn) (by simpa only [okC] using hok) hm s)) ?_))
   rintro ex a1 w1 ⟨e1,h1,ds1,s1,hk⟩
   cases ex with
   | goto l=>exact hk.elim
   | _=>exact ⟨e1,h1,ds1,s1,hk⟩
  ·exact plain _ hok hm s
 | exit id=>intro nn dz w0 h0 we e h a w K _ hm s;exact wpIn_exit ⟨e,h,dz,s,hm⟩
 | goto l=>intro nn dz w0 h0 we e h a w K _ hm s;exact wpIn_goto ⟨e,h,dz,s,hm⟩
 | ret=>intro nn dz w0 h0 we e h a w K _ hm s;exact wpIn_ret ⟨e,h,dz,s,hm⟩
 | refuse why=>intro nn dz w0 h0 we e h a w K _ hm s;exact hm.elim
def dEnd (P:Program) (rf:RF) (fn:Func) (e:ME) (K:Value→Hp→Prop) (E:List PanicEntry→Hp→Prop) (u:FrameMode) (h:Hp):Prop:=match u with
 | .returning=>resK P rf e h fn.results.toList fun vs=>K (shut vs) h
 | .panicking ch=>E ch h
 | .run=>False
def endsD (P:Program) (rf:RF) (fn:Func) (K:Value→Hp→Prop) (E:List PanicEntry→Hp→Prop):DK:=fun ex e h ds=>match ex with
 | .normal | .ret=>DLeave P (dEnd P rf fn e K E) ds .returning h
 | .panic ch=>DLeave P (dEnd P rf fn e K E) ds (.panicking ch) h
 | _=>False
theorem fnd {f:FuncId} {F:Func} {c:Code} {args:List Value} {h:Hp} {K:Value→Hp→Prop} {E:List PanicEntry→Hp→Prop} (hmix:P.follows .mixedOrders=true) (rf:RF) (pf dr:List Nat) (pm:List (Nat×List Nat)) (hf:P.funcs[f]? = some F) (hb:F.body=some c)
  (hok:okC (args.length+(F.ntmps - args.length)) rf (clOf P rf pf dr) pm c=true)
  (hm:dcode P rf (clOf P rf pf dr) pm c ⟨env0 args,fun _=>none⟩ h [] (endsD P rf F K E)):XE P f args.toArray h K E:=by
 refine ⟨fun w0 w hs=>?_⟩
 refine (callsIn_wide (n:=0)).1 (callsIn_of_wp_marks (F:=FW none) hf hb trivial ?_)
 have hat:At rf (args.length+(F.ntmps - args.length)) ⟨[],false⟩ w0 h w ⟨env0 args,fun _=>none⟩ h { tmps:=args.toArray++Array.replicate (F.ntmps - args.toArray.size) undef,defers:=[] } w:=by
  refine ⟨by simp,Marks.nil,Ext.refl hs,fun _=>0,fun s=>?_,fun t cs hb=>(by cases hb),fun t u cs ds hb=>(by cases hb),fun s off b he=>(by cases he)⟩
  show (args.toArray++Array.replicate (F.ntmps - args.toArray.size) undef).getD s undef=args.getD s undef
  simp only [Array.getD_eq_getD_getElem?,List.getD_eq_getElem?_getD,Array.getElem?_append]
  split
  ·simp
  ·rename_i hge
   simp at hge
   rw [List.getElem?_eq_none hge]
   cases hx:(Array.replicate (F.ntmps - args.toArray.size) undef)[s - args.toArray.size]? with
   | none=>rfl
   | some x =>
    obtain ⟨hlt,hx⟩:=Array.getElem?_eq_some_iff.1 hx
    simp at hx;simp [← hx]
 have leave:∀ (u:FrameMode) (e1:ME) (h1:Hp) (ds:List Deferred) (a1:Go.Act) (w1:World),u≠.run→At rf (args.length+(F.ntmps - args.length)) ⟨ds,false⟩ w0 h w e1 h1 a1 w1→DLeave P (dEnd P rf F e1 K E) ds u h1 →
   LeavesInM (FW none) 0 P F a1.tmps (fun e w'=>(∃ v h',e=.returned v∧Ext w0 h w h' w'∧K v h')∨∃ ch h',e=.panicked ch∧Ext w0 h w h' w'∧E ch h') a1.defers u w1:=by
  intro u e1 h1 ds a1 w1 hu s1 hl
  refine leaves_D (fun u' h' w' s' hu' hk=>?_) a1.defers ds u h1 w1 hu s1 hl
  cases u' with
  | run=>exact (hu' rfl).elim
  | returning =>
   obtain ⟨vs,hvs,hk⟩:=resK_elim _ (show resK P rf e1 h' F.results.toList _ from hk)
   exact ⟨shut vs,results_run s' hvs,.inl ⟨shut vs,h',rfl,s'.ext,hk⟩⟩
  | panicking ch=>exact .inr ⟨ch,h',rfl,s'.ext,hk⟩
 refine wpIn_mono (dcode_sound hmix c hok hm hat) ?_
 rintro ex a1 w1 ⟨e1,h1,ds,s1,hk⟩
 cases ex with
 | normal=>exact leave .returning e1 h1 ds a1 w1 (by simp) s1 hk
 | ret=>exact leave .returning e1 h1 ds a1 w1 (by simp) s1 hk
 | panic ch=>exact leave (.panicking ch) e1 h1 ds a1 w1 (by simp) s1 hk
 | exit id=>exact hk.elim
 | goto l=>exact hk.elim
 | outgrown=>exact hk.elim
end
end Go.Mid

namespace Go.Mid
set_option linter.unusedSimpArgs false
set_option linter.unusedVariables false
set_option linter.unusedSimpArgs false
set_option linter.unusedVariables false
open Go Go.RowKit
def recM:FrameMode→Value×FrameMode
 | .panicking ({ v,recovered:=false,goexit:=false } :: older)=>(v,.panicking ({ v,recovered:=true } :: older))
 | u=>(.nilIface,u)
theorem recD (c₀:Frame) (u:FrameMode) (cs:List Frame):(∃ v,recoverD ({ c₀ with mode:=u } :: cs)=some (v,{ c₀ with mode:=(recM u).2 } :: cs)∧(recM u).1=v)∨(recoverD ({ c₀ with mode:=u } :: cs)=none∧recM u=(.nilIface,u)):=by
 cases u with
 | run=>exact .inr ⟨rfl,rfl⟩
 | returning=>exact .inr ⟨rfl,rfl⟩
 | panicking ch =>
  cases ch with
  | nil=>exact .inr ⟨rfl,rfl⟩
  | cons x r =>
   obtain ⟨v,rc,gx⟩:=x
   cases rc <;> cases gx <;> first
    | exact .inl ⟨v,rfl,rfl⟩
    | exact .inr ⟨rfl,rfl⟩
abbrev RC:=ME→FrameMode→(ME→FrameMode→Prop)→Prop
def rstep (rf:RF) (ops:Array Oper) (o:Oper) (ih:RC) (e:ME) (u:FrameMode) (K:ME→FrameMode→Prop):Prop :=
 vguard ops o e fun b e1=>match b with
  | true=>match o.op with
   | .call c=>match c.callee with
    | .builtin .recover=>ih ((dstU o.dst (.v (recM u).1)).app rf e1) (recM u).2 K
    | _=>False
   | .assign x=>match ev e1 x with
    | .v y=>ih ((dstU o.dst (.v y)).app rf e1) u K
    | _=>False
   | _=>False
  | false=>False
def rlist (rf:RF) (ops:Array Oper) (l:List Oper):RC :=
 List.rec (motive:=fun _=>RC) (fun e u K=>K e u) (fun o _ ih=>rstep rf ops o ih) l
section
variable {P:Program} {rf:RF} {ops:Array Oper} {N:Nat}
theorem rlist_sound {n:Nat} {dz:DZ} {w0:World} {h0 h:Hp} {we:World} {c₀:Frame} {cs:List Frame} {K:ME→FrameMode→Prop} {Q:Exit→Go.Act→List Frame→World→Prop} (hd:∀ (i:Nat) o,ops[i]? = some o→∀ k,o.dst=some k→k<N)
  (hQ:∀ e u a w,At rf N dz w0 h0 we e h a w→K e u→Q .normal a ({ c₀ with mode:=u } :: cs) w):∀ (l:List Oper) (k:Nat) (e:ME) (u:FrameMode) (a:Go.Act) (w:World),(∀ j,l[j]? = ops[k+j]?)→rlist rf ops l e u K→At rf N dz w0 h0 we e h a w →
  wpOpsSIn (FW none) n P ops Q (List.range' k l.length) a ({ c₀ with mode:=u } :: cs) w
 | [],_,e,u,a,w,_,hm,s=>hQ _ _ _ _ s hm
 | o :: l,k,e,u,a,w,hl,hm,s=>by
  have h0':ops[k]? = some o:=by simpa using (hl 0).symm
  have hl':∀ j,l[j]? = ops[k+1+j]? := fun j=>by have:=hl (j+1);simpa [Nat.add_assoc,Nat.add_comm 1 j] using this
  simp only [List.length_cons,List.range'_succ]
  have hm:vguard ops o e fun b e1=>match b with
   | true=>match o.op with
    | .call c=>match c.callee with
     | .builtin .recover=>rlist rf ops l ((dstU o.dst (.v (recM u).1)).app rf e1) (recM u).2 K
     | _=>False
    | .assign x=>match ev e1 x with
     | .v y=>rlist rf ops l ((dstU o.dst (.v y)).app rf e1) u K
     | _=>False
    | _=>False
   | false=>False:=hm
  obtain ⟨b,hw,hm⟩:=vguard_elim hm
  cases b with
  | false=>exact hm.elim
  | true =>
   simp only at hm
   unfold wpOpsSIn
   rw [h0']
   refine ⟨fun _ _=>trivial,?_⟩
   rw [if_pos (want_sound s hw)]
   split at hm
   ·rename_i c hc
    split at hm
    ·rename_i hb
     have hrun:(execOp a.eval o).run P w=.ok .recover w:=by
      unfold execOp
      rw [hc]
      simp [resolve,hb,invoke,builtin]
     rw [hrun]
     simp only
     rcases recD c₀ u cs with ⟨v,h1,h2⟩ | ⟨h1,h2⟩
     ·rw [h1]
      simp only
      rw [h2] at hm
      exact rlist_sound hd hQ l (k+1) _ _ _ w hl' hm (s.slot (hd k o h0') v _ (.inl rfl))
     ·rw [h1]
      simp only
      rw [h2] at hm
      exact rlist_sound hd hQ l (k+1) _ _ _ w hl' hm (s.slot (hd k o h0') .nilIface _ (.inl rfl))
    ·exact hm.elim
   ·rename_i x hx
    split at hm
    ·rename_i y hy
     have hrun:(execOp a.eval o).run P w=.ok (.value y) w:=by
      unfold execOp
      rw [hx]
      simp [s.eval hy]
     rw [hrun]
     exact rlist_sound hd hQ l (k+1) _ _ _ w hl' hm (s.slot (hd k o h0') y _ (.inl rfl))
    ·exact hm.elim
   ·exact hm.elim
theorem xd_of {f:FuncId} {F:Func} {id:Nat} {rest:Code} {args:List Value} {u:FrameMode} {h:Hp} {K:FrameMode→Hp→Prop} (hmix:P.follows .mixedOrders=true) (rf:RF) (pf dr:List Nat) (pm:List (Nat×List Nat)) (hf:P.funcs[f]? = some F) (hb:F.body=some (.seq (.region id ops false) rest))
  (hok:okC (args.length+(F.ntmps - args.length)) rf (clOf P rf pf dr) pm (.seq (.region id ops false) rest)=true) (hflat:flat rest=true)
  (hm:rlist rf ops ops.toList ⟨env0 args,fun _=>none⟩ u fun e u'=>vcode P rf (clOf P rf pf dr) pm rest e h fun ex e' h'=>match ex with
   | .normal | .ret=>resK P rf e' h' F.results.toList fun _=>K u' h'
   | _=>False):XD P f args.toArray u h K:=by
 refine ⟨fun n w0 w hs=>?_⟩
 simp only [okC,Bool.and_eq_true] at hok
 have hok1:okR (args.length+(F.ntmps - args.length)) rf (clOf P rf pf dr id) pm id ops false=true:=hok.1.1
 simp only [okR,Bool.and_eq_true] at hok1
 have hat:At rf (args.length+(F.ntmps - args.length)) ⟨[],true⟩ w0 h w ⟨env0 args,fun _=>none⟩ h { tmps:=args.toArray++Array.replicate (F.ntmps - args.toArray.size) undef,defers:=[] } w:=by
  refine ⟨by simp,Marks.nil,Ext.refl hs,fun _=>0,fun s=>?_,fun t cs hb=>(by cases hb),fun t u cs ds hb=>(by cases hb),fun s off b he=>(by cases he)⟩
  show (args.toArray++Array.replicate (F.ntmps - args.toArray.size) undef).getD s undef=args.getD s undef
  simp only [Array.getD_eq_getD_getElem?,List.getD_eq_getElem?_getD,Array.getElem?_append]
  split
  ·simp
  ·rename_i hge
   simp at hge
   rw [List.getElem?_eq_none hge]
   cases hx:(Array.replicate (F.ntmps - args.toArray.size) undef)[s - args.toArray.size]? with
   | none=>rfl
   | some x =>
    obtain ⟨hlt,hx⟩:=Array.getElem?_eq_some_iff.1 hx
    simp at hx;simp [← hx]
 refine callsDIn_of_wpSIn hf hb trivial fun c₀ cs hu=>?_
 have hc0:c₀={ c₀ with mode:=u }:=by subst hu;rfl
 have endd:∀ {e1:ME} {h1:Hp} {a1:Go.Act} {w1:World},At rf (args.length+(F.ntmps - args.length)) ⟨[],true⟩ w0 h w e1 h1 a1 w1→a1.defers=[]:=by
  intro e1 h1 a1 w1 s1
  obtain ⟨bs,⟨hm,hbare⟩,_,_⟩:=s1.defers
  have:=hbare rfl
  subst this
  have:=hm.alone
  simpa using this
 refine wpSIn_seq (wpSIn_region ?_)
 rw [List.range_eq_range',← Array.length_toList]
 have key:=rlist_sound (P:=P) (n:=n) (dz:=⟨[],true⟩) (w0:=w0) (h0:=h) (we:=w) (h:=h) (c₀:=c₀) (cs:=cs) (Q:=Exit.thenS (rest.wpSIn (FW none) n P (bodyPostS P F c₀ cs fun e u' w'=>∃ v h',e=.returned v∧Ext w0 h w h' w'∧K u' h')) (bodyPostS P F c₀ cs fun e u' w'=>∃ v h',e=.returned v∧Ext w0 h w h' w'∧K u' h')) (okDst_spec hok1.1) (fun e u' a w1 s hk=>by
   show rest.wpSIn (FW none) n P _ a _ w1
   refine wpSIn_of_wpIn rfl (wpIn_mono (mcode_sound hmix rest (.inl rfl) (fun _=>hflat) (vcode_elim rest hok.2 hk) s) ?_)
   rintro ex a2 w2 ⟨e2,h2,s2,hk2⟩
   cases ex with
   | normal =>
    obtain ⟨vs,hvs,hk2⟩:=resK_elim _ hk2
    exact ⟨endd s2,u',rfl,shut vs,results_run s2 hvs,shut vs,h2,rfl,s2.ext,hk2⟩
   | ret =>
    obtain ⟨vs,hvs,hk2⟩:=resK_elim _ hk2
    exact ⟨endd s2,u',rfl,shut vs,results_run s2 hvs,shut vs,h2,rfl,s2.ext,hk2⟩
   | panic ch=>exact hk2.elim
   | exit id=>exact hk2.elim
   | goto l=>exact hk2.elim
   | outgrown=>exact hk2.elim) ops.toList 0 _ u _ w (by simp) hm hat
 rw [← hc0] at key
 exact key
end
end Go.Mid

namespace Go.Mid
set_option linter.unusedSimpArgs false
set_option linter.unusedVariables false
set_option linter.unusedSimpArgs false
set_option linter.unusedVariables false
open Go Go.RowKit
theorem sem_ta {P:Program} {xt asserted:TypeId} {v:Value} {u:TypeDesc} (hu:P.underlying asserted=some u) (hni:∀ ms,u≠.interface ms)
  {ρ:Operand→Value} {o:Oper} {x:Operand} {h:Hp} {K:Next→Hp→Prop} (ho:o.op=.typeAssert x xt asserted true) (hx:ρ x=.iface asserted v) (hk:K (.value (.tuple #[v,.bool true])) h):semK P (execOp ρ o) h K:=by
 refine ⟨?_⟩
 have e:execOp ρ o=(Instr.typeAssert (.iface asserted v) xt asserted true >>= fun v=>Pure.pure (Next.value v)):=by
  unfold execOp
  simp only [ho,hx]
 rw [e]
 refine mid_bind2 ?_
 unfold Instr.typeAssert
 refine mid_bind2 (mid_underlying hu ?_)
 cases u <;> first
  | exact (hni _ rfl).elim
  | (simp only [if_true];exact hk)
theorem XD.arg {P:Program} {f:FuncId} {args args':Array Value} {u:FrameMode} {h:Hp} {K:FrameMode→Hp→Prop} (e:args=args') (x:XD P f args' u h K):XD P f args u h K:=e ▸ x
theorem settle_ret:settle .returning≠.run:=by simp [settle]
theorem settle_rec {v:Value} {r:List PanicEntry} (hr:r.dropWhile (!·.goexit)=[]):settle (.panicking ({ v:=v,recovered:=true } :: r))=.returning:=by
 unfold settle
 simp [hr]
end Go.Mid

namespace Go.Proofs.YtdhkjcdneidgaaaGreatDoor
set_option linter.unusedSimpArgs false
set_option linter.unusedVariables false
set_option linter.unusedSimpArgs false
set_option linter.unusedVariables false
open Go Go.Mid Go.RowKit
attribute [local irreducible] mid
def stopV (n:Int):Value:=.iface 205 (.agg #[.int .i64 n])
section
set_option maxHeartbeats 8000000
set_option maxRecDepth 10000
variable {h:Hp} {K:FrameMode→Hp→Prop}
theorem parse1_ret {a b:Addr} (hk:K .returning h):XD Tryz.prog 143 #[.pointer (some a),.pointer (some b)] .returning h K:=by
 refine xd_of mixed [(3,3),(17,3)] [] [5] [] Tryz.func143 rfl (by kernel_rfl) (by kernel_rfl) ?_
 conv=>whnf
 exact hk
def insn0:List Value:=[.int .i64 0,.int .i64 0,.int .i64 0,.int .i64 0,.int .i64 0,.int .i64 0,.bool false,.bool false]
theorem sizAi:sizeT Tryz.prog 89=some 8:=by kernel_rfl
theorem sizAe:sizeT Tryz.prog 28=some 1:=by kernel_rfl
theorem parse1_pan {a b:Nat} {xl:List Value} {ev:Value} {n:Int} {r:List PanicEntry} (hab:a≠b) (hx:h a=some (rowO 89 xl)) (he:h b=some (rowO 28 [ev])) (hxs:xl.length=8)
  (hk:∀ h',h' a=some (rowO 89 insn0)→h' b=some (rowO 28 [.int .i64 n])→(∀ c,c≠a→c≠b→h' c=h c)→K (.panicking ({ v:=stopV n,recovered:=true } :: r)) h'):XD Tryz.prog 143 #[.pointer (some ⟨a,0,none⟩),.pointer (some ⟨b,0,none⟩)] (.panicking ({ v:=stopV n,recovered:=false } :: r)) h K:=by
 refine xd_of mixed [(3,3),(17,3)] [] [5] [] Tryz.func143 rfl (by kernel_rfl) (by kernel_rfl) ?_
 conv=>whnf
 refine sem_ta (v:=.agg #[.int .i64 n]) Tryz.underlying205 (fun _ hh=>by cases hh) rfl rfl ?_
 conv=>whnf
 refine wr_intro (by exact storeA0 sizAi hx hxs (by kernel_rfl) (by kernel_rfl)) (fun h1 at_h1 ot_h1=>?_)
 try (conv=>whnf)
 refine ⟨trivial,?_⟩;conv=>whnf
 have he1:h1 b=some (rowO 28 [ev]):=(ot_h1 _ (Ne.symm hab)).trans he
 conv=>whnf
 refine wr_intro (by exact storeC0 sizAe he1 (show (0:Nat)<1 by decide) rfl rfl) (fun h2 at_h2 ot_h2=>?_)
 try (conv=>whnf)
 refine ⟨trivial,?_⟩;conv=>whnf
 exact hk h2 ((ot_h2 _ hab).trans at_h1) at_h2 fun c hc hd=>(ot_h2 c hd).trans (ot_h1 c hc)
end
end Go.Proofs.YtdhkjcdneidgaaaGreatDoor
