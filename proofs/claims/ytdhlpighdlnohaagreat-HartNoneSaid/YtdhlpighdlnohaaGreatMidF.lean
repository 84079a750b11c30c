/-
  THE MIDDLE LAYER, PART SIX: every order of a region; code; functions.
-/
import Derived.Test.YtdhlpighdlnohaaGreatMidE
import Derived.Deep.LoopGhost
import Derived.Scope
import Derived.Eval
set_option linter.unusedSimpArgs false
set_option linter.unusedVariables false
set_option maxHeartbeats 8000000
set_option maxRecDepth 10000
set_option linter.unusedSimpArgs false
set_option linter.unusedVariables false
namespace Go.Mid
open Go Go.RowKit
section
variable {P:Program} {rf:RF} {ops:Array Oper} {N:Nat} {dz:DZ} {w0:World} {h0:Hp} {we:World} {e:ME} {h:Hp} {a:Go.Act} {w:World} {o:Oper} {K:ME→Hp→Prop} {Q:Exit→Go.Act→World→Prop}
theorem want_sound (s:At rf N dz w0 h0 we e h a w) {b:Bool} (hw:wantM ops o e=some b):Region.wanted o (yielded ops a.tmps)=b:=by
 obtain ⟨β,r1,_⟩:=s.rel
 unfold wantM at hw
 unfold Region.wanted yielded
 cases hg:o.guard with
 | none=>rw [hg] at hw;cases hw;rfl
 | some p =>
  obtain ⟨j,want⟩:=p
  rw [hg] at hw
  simp only at hw ⊢
  cases hd:(ops[j]?).bind (·.dst) with
  | none=>rw [hd] at hw;cases hw;rfl
  | some d =>
   rw [hd] at hw
   simp only [Option.bind_some] at hw ⊢
   have h1:=r1 d
   cases hm:e.env d with
   | junk=>rw [hm] at hw;cases hw
   | ref off =>
    rw [hm] at hw h1;cases hw
    obtain ⟨b',_,hx⟩:=h1
    cases ht:a.tmps[d]? with
    | none=>rfl
    | some z=>simp only [Array.getD_eq_getD_getElem?,ht,Option.getD_some] at hx;subst hx;rfl
   | v y =>
    rw [hm] at hw h1
    have h1:a.tmps.getD d undef=y:=h1
    cases ht:a.tmps[d]? with
    | none =>
     simp only [Array.getD_eq_getD_getElem?,ht,Option.getD_none] at h1
     subst h1
     simp only [undef] at hw
     cases hw;rfl
    | some z =>
     simp only [Array.getD_eq_getD_getElem?,ht,Option.getD_some] at h1
     subst h1
     cases z <;> first | (cases hw;rfl)
variable {rd:Option Nat} {nn:Nat}
theorem op_sound {i:Nat} (hi:ops[i]? = some o) (hd:∀ k,o.dst=some k→k<N) (s:At rf N dz w0 h0 we e h a w) (hr:run1 P rf o (planG P rf ops o e) e h K) :
  wpOpIn (FW rd) nn P ops Q i (Goes rf N dz w0 h0 we K) a w:=by
 unfold wpOpIn
 rw [hi]
 simp only []
 unfold planG at hr
 cases hw:wantM ops o e with
 | none=>rw [hw] at hr;exact hr.elim
 | some b =>
  rw [hw] at hr
  simp only [want_sound s hw]
  cases b with
  | true=>exact step_sound hd s hr
  | false=>exact ⟨fun _ _=>trivial,_,h,s.slot hd undef _ (.inl rfl),hr⟩
theorem list_sound (hd:∀ (i:Nat) o,ops[i]? = some o→∀ k,o.dst=some k→k<N) (hQ:∀ a w,Goes rf N dz w0 h0 we K a w→Q .normal a w):∀ (l:List Oper) (k:Nat) (e:ME) (h:Hp) (a:Go.Act) (w:World),(∀ j,l[j]? = ops[k+j]?)→mlist P rf ops l e h K→At rf N dz w0 h0 we e h a w →
  wpOpsIn (FW rd) nn P ops Q (List.range' k l.length) a w
 | [],_,e,h,a,w,_,hm,s=>hQ _ _ ⟨e,h,s,hm⟩
 | o :: l,k,e,h,a,w,hl,hm,s=>by
  have h0':ops[k]? = some o:=by simpa using (hl 0).symm
  simp only [List.length_cons,List.range'_succ]
  rw [wpOpsIn_cons]
  refine wpOpIn_mono ?_ (op_sound (K:=fun e' h'=>mlist P rf ops l e' h' K) h0' (hd k o h0') s hm)
  rintro a' w' ⟨e',h',s',hm'⟩
  exact list_sound hd hQ l (k+1) e' h' a' w' (fun j=>by have:=hl (j+1);simpa [Nat.add_assoc,Nat.add_comm 1 j] using this) hm' s'
theorem run1_fin {pl:Option Plan} (hf:Fin h) (hr:run1 P rf o pl e h K):run1 P rf o pl e h fun e' h'=>K e' h'∧Fin h':=by
 unfold run1 at *
 split
 ·exact ⟨hr,hf⟩
 ·exact aRun_fin hf hr
 ·exact hr
theorem mrun_fin {Inv:Hp→Prop} {k:Cl} {pl:Option Plan} (hf:Fin h) (hr:mrun P rf Inv k o pl e h K):mrun P rf Inv k o pl e h fun e' h'=>K e' h'∧Fin h':=by
 unfold mrun at *
 cases k with
 | a=>simp only at *;split at hr <;> first | exact ⟨hr,hf⟩ | exact hr
 | b=>simp only at *;obtain ⟨u,h1,h2,_⟩:=runB_spec hr;exact h2 ⟨h1,hf⟩
 | c=>exact run1_mono (fun _ _ ⟨⟨x,y⟩,z⟩=>⟨x,y,z⟩) (run1_fin hf hr)
 | d=>simp only at *;obtain ⟨u,h1,h2,_⟩:=runD_spec hr;exact h2 ⟨h1,hf⟩
 | n=>exact ⟨hr.1,run1_fin hf hr.2⟩
 | e=>exact run1_fin hf hr
theorem mrun_inv {Inv:Hp→Prop} {k:Cl} {pl:Option Plan} (hke:k≠.e) (hup:k=.n→UpInv Inv) (hi:Inv h) (hr:mrun P rf Inv k o pl e h K):mrun P rf Inv k o pl e h fun e' h'=>K e' h'∧Inv h':=by
 unfold mrun at *
 cases k with
 | a=>simp only at *;split at hr <;> first | exact ⟨hr,hi⟩ | exact hr
 | b=>simp only at *;obtain ⟨u,h1,h2,_⟩:=runB_spec hr;exact h2 ⟨h1,hi⟩
 | c=>exact run1_mono (fun _ _ ⟨x,y⟩=>⟨x,y,x⟩) hr
 | d=>simp only at *;obtain ⟨u,h1,h2,_⟩:=runD_spec hr;exact h2 ⟨h1,hi⟩
 | n =>
  obtain ⟨hn,hr⟩:=hr
  refine ⟨hn,?_⟩
  cases pl with
  | none=>exact hr
  | some p =>
   cases p with
   | upd u=>exact ⟨hr,hi⟩
   | act A =>
    cases A with
    | nw ob v=>exact fun b hb=>⟨hr b hb,hup rfl h _ hi (Hp.le_set hb)⟩
    | _=>cases hn
 | e=>exact absurd rfl hke
theorem heapOk_e {l:Cl} (h:heapOk .e l=true):l=.a:=by cases l <;> first | rfl | (cases h;done)
theorem heapOk_to_e {k:Cl} (h:heapOk k .e=true):k=.a:=by cases k <;> first | rfl | (cases h;done)
theorem pull {Inv:Hp→Prop} {cl:Oper→Cl} {x:Oper} {L2:List Oper} (hupx:cl x=.n→UpInv Inv):∀ (L1:List Oper) (e:ME) (h:Hp),(∀ y ∈ L1,cl y=.n→UpInv Inv)→Fin h→(cl x≠.a→Inv h)→(∀ y,y ∈ L1→indep rf ops y x=true∧heapOk (cl y) (cl x)=true)→mdraw P rf Inv cl ops (L1++x :: L2) e h K →
  mrun P rf Inv (cl x) x (planG P rf ops x e) e h fun e' h'=>mdraw P rf Inv cl ops (L1++L2) e' h' K
 | [],_,_,_,_,_,_,hm=>hm
 | y :: L1,e,h,hup,hf,hinv,hy,hm=>by
  have hyx:=hy y (by simp)
  have h1:mrun P rf Inv (cl y) y (planG P rf ops y e) e h fun e1 h1=>mrun P rf Inv (cl x) x (planG P rf ops x e1) e1 h1 fun e' h'=>mdraw P rf Inv cl ops (L1++L2) e' h' K:=by
   by_cases hxa:cl x=.a
   ·exact mrun_mono (fun e1 h1 ⟨hm1,hf1⟩=>pull hupx L1 e1 h1 (fun z hz=>hup z (List.mem_cons_of_mem _ hz)) hf1 (fun hh=>absurd hxa hh) (fun z hz=>hy z (List.mem_cons_of_mem _ hz)) hm1) (mrun_fin hf hm)
   ·have hye:cl y≠.e:=fun hh=>by
     have:=hyx.2
     rw [hh] at this
     exact hxa (heapOk_e this)
    exact mrun_mono (fun e1 h1 ⟨⟨hm1,hf1⟩,hi1⟩=>pull hupx L1 e1 h1 (fun z hz=>hup z (List.mem_cons_of_mem _ hz)) hf1 (fun _=>hi1) (fun z hz=>hy z (List.mem_cons_of_mem _ hz)) hm1) (mrun_inv hye (hup y (by simp)) (hinv hxa) (mrun_fin hf hm))
  exact swap (fun hh=>hh.elim (hup y (by simp)) hupx) hinv hyx.1 hyx.2 hf h1
def befores:List Oper→List Nat→List Nat
 | [],acc=>acc
 | o :: r,acc=>befores r (acc++[o.after.toList.foldl (fun s ed=>if Region.binds .any ed then s ||| 2 ^ ed.on ||| acc.getD ed.on 0 else s) 0])
inductive Anc (ops:Array Oper):Nat→Nat→Prop where
 | one {i j:Nat} {o:Oper} {ed:Edge}:ops[i]? = some o→ed ∈ o.after→Region.binds .any ed=true→ed.on=j→Anc ops i j
 | more {i j k:Nat} {o:Oper} {ed:Edge}:ops[i]? = some o→ed ∈ o.after→Region.binds .any ed=true→ed.on=k→Anc ops k j→Anc ops i j
theorem befores_spec:∀ (l:List Oper) (acc:List Nat),(∀ j,l[j]? = ops[acc.length+j]?)→(∀ i,i<acc.length→∀ j,(acc.getD i 0).testBit j=true→Anc ops i j) →
  ∀ i,i<acc.length+l.length→∀ j,((befores l acc).getD i 0).testBit j=true→Anc ops i j
 | [],acc,_,h,i,hi,j,hb=>h i (by simpa using hi) j hb
 | o :: r,acc,hl,h,i,hi,j,hb=>by
  refine befores_spec r _ (fun k=>by have:=hl (k+1);simp only [List.getElem?_cons_succ] at this;rw [this];simp [Nat.add_assoc,Nat.add_comm 1 k]) (fun i' hi' j' hb'=>?_) i (by simpa [Nat.add_assoc,Nat.add_comm 1] using hi) j hb
  by_cases hlt:i'<acc.length
  ·refine h i' hlt j' ?_
   simpa [List.getD_eq_getElem?_getD,List.getElem?_append_left hlt] using hb'
  ·have hi2:i'=acc.length:=by simp at hi';omega
   subst hi2
   have ho:ops[acc.length]? = some o:=by simpa using (hl 0).symm
   have hv:(acc++[o.after.toList.foldl (fun s ed=>if Region.binds .any ed then s ||| 2 ^ ed.on ||| acc.getD ed.on 0 else s) 0]).getD acc.length 0=o.after.toList.foldl (fun s ed=>if Region.binds .any ed then s ||| 2 ^ ed.on ||| acc.getD ed.on 0 else s) 0:=by
    simp [List.getD_eq_getElem?_getD]
   rw [hv] at hb'
   have key:∀ (es:List Edge) (s:Nat),(∀ ed,ed ∈ es→ed ∈ o.after.toList)→(∀ j,s.testBit j=true→Anc ops acc.length j)→∀ j,(es.foldl (fun s ed=>if Region.binds .any ed then s ||| 2 ^ ed.on ||| acc.getD ed.on 0 else s) s).testBit j=true→Anc ops acc.length j:=by
    intro es
    induction es with
    | nil=>intro s _ hs j hj;exact hs j hj
    | cons ed es ih =>
     intro s hmem hs j hj
     simp only [List.foldl_cons] at hj
     refine ih _ (fun d hd=>hmem d (by simp [hd])) (fun k hk=>?_) j hj
     have hin:ed ∈ o.after:=by simpa using hmem ed (by simp)
     split at hk
     ·rename_i hbnd
      simp only [Nat.testBit_or,Bool.or_eq_true,Nat.testBit_two_pow] at hk
      rcases hk with (hk | hk) | hk
      ·exact hs k hk
      ·exact .one ho hin hbnd (by simpa using hk)
      ·have hlt2:ed.on<acc.length:=by
        rcases Nat.lt_or_ge ed.on acc.length with h' | h'
        ·exact h'
        ·rw [show acc.getD ed.on 0=0 by simp [List.getD_eq_getElem?_getD,List.getElem?_eq_none h']] at hk;simp at hk
       exact .more ho hin hbnd rfl (h ed.on hlt2 k hk)
     ·exact hs k hk
   exact key _ 0 (fun _ hd=>hd) (fun k hk=>by simp at hk) j' hb'
def okDst (N:Nat) (ops:Array Oper):Bool:=ops.toList.all fun o=>match o.dst with | some d=>decide (d<N) | none=>true
def okBack (ops:Array Oper):Bool:=(List.range ops.size).all fun i=>match ops[i]? with | some o=>o.after.toList.all fun ed=>!Region.binds .any ed || decide (ed.on<i) | none=>true
def notE:Cl→Bool
 | .e=>false
 | _=>true
def okPair (rf:RF) (cl:Oper→Cl) (ops:Array Oper) (b:List Nat) (j i:Nat):Bool:=((b.getD i 0).testBit j && notE (cl (ops.getD j default))) || (match ops[j]?,ops[i]? with | some y,some x=>indep rf ops y x && heapOk (cl y) (cl x) | _,_=>true)
def okPairs (rf:RF) (cl:Oper→Cl) (ops:Array Oper) (b:List Nat):List Nat→Bool
 | []=>true
 | j :: r=>r.all (fun i=>okPair rf cl ops b j i) && okPairs rf cl ops b r
def okPerm (n:Nat) (pm:List Nat):Bool:=(List.range n).all (pm.contains ·) && pm.all (fun i=>decide (i<n)) && nodupB pm
where nodupB:List Nat→Bool
 | []=>true
 | i :: r=>!r.contains i && nodupB r
def permOf:List (Nat×List Nat)→Nat→Nat→List Nat
 | [],_,n=>List.range n
 | p :: r,id,n=>if p.1=id then p.2 else permOf r id n
def okR (N:Nat) (rf:RF) (cl:Oper→Cl) (pm:List (Nat×List Nat)) (id:Nat) (ops:Array Oper) (draw:Bool):Bool:=okDst N ops && (!draw || (okBack ops && (okPerm ops.size (permOf pm id ops.size) && okPairs rf cl ops (befores ops.toList []) (permOf pm id ops.size))))
theorem okPairs_at {rf:RF} {cl:Oper→Cl} {ops:Array Oper} {b:List Nat}:∀ {pm:List Nat},okPairs rf cl ops b pm=true→∀ {A B:List Nat} {i:Nat},pm=A++i :: B→∀ j ∈ A,okPair rf cl ops b j i=true
 | [],_,A,B,i,h,_,_=>by cases A <;> cases h
 | k :: r,hp,[],B,i,h,j,hj=>by cases hj
 | k :: r,hp,a :: A,B,i,h,j,hj=>by
  simp only [List.cons_append,List.cons.injEq] at h
  obtain ⟨rfl,rfl⟩:=h
  simp only [okPairs,Bool.and_eq_true,List.all_eq_true] at hp
  rcases List.mem_cons.1 hj with rfl | hj
  ·exact hp.1 i (by simp)
  ·exact okPairs_at hp.2 rfl j hj
theorem okDst_spec (hk:okDst N ops=true) (i:Nat) (o:Oper) (hi:ops[i]? = some o) (k:Nat) (hd:o.dst=some k):k<N:=by
 have:=List.all_eq_true.1 hk o (Array.mem_toList_iff.2 (Array.mem_of_getElem? hi))
 rw [hd] at this
 simpa using this
def eLast (cl:Oper→Cl):List Oper→Prop
 | []=>True
 | o :: r=>(cl o=.e→∀ y ∈ r,cl y=.a)∧eLast cl r
theorem okPair_e {rf:RF} {cl:Oper→Cl} {ops:Array Oper} {b:List Nat} {j i:Nat} (hj:j<ops.size) (hi:i<ops.size) (he:cl (ops.getD j default)=.e) (hp:okPair rf cl ops b j i=true):cl (ops.getD i default)=.a:=by
 have ej:ops[j]? = some (ops.getD j default):=by simp [Array.getD_eq_getD_getElem?,hj]
 have ei:ops[i]? = some (ops.getD i default):=by simp [Array.getD_eq_getD_getElem?,hi]
 unfold okPair at hp
 rw [ej,ei] at hp
 simp only [he,notE,Bool.and_false,Bool.false_or,Bool.and_eq_true] at hp
 exact heapOk_e hp.2
theorem okPairs_e {rf:RF} {cl:Oper→Cl} {ops:Array Oper} {b:List Nat}:∀ {pm:List Nat},(∀ i ∈ pm,i<ops.size)→okPairs rf cl ops b pm=true→eLast cl (pm.map (ops.getD · default))
 | [],_,_=>trivial
 | j :: r,hlt,hp=>by
  simp only [okPairs,Bool.and_eq_true,List.all_eq_true] at hp
  refine ⟨fun he y hy=>?_,okPairs_e (fun i hi=>hlt i (List.mem_cons_of_mem _ hi)) hp.2⟩
  obtain ⟨i,hi,rfl⟩:=List.mem_map.1 hy
  exact okPair_e (hlt j (by simp)) (hlt i (List.mem_cons_of_mem _ hi)) he (hp.1 i hi)
def remain (pm:List Nat) (listed:Array Bool):List Nat:=pm.filter fun i=>!listed.getD i true
theorem okPerm_spec {n:Nat} {pm:List Nat} (h:okPerm n pm=true):(∀ i,i<n→i ∈ pm)∧(∀ i ∈ pm,i<n)∧okPerm.nodupB pm=true:=by
 simp only [okPerm,Bool.and_eq_true,List.all_eq_true,List.mem_range,List.contains_eq_mem,decide_eq_true_eq] at h
 exact ⟨fun i hi=>h.1.1 i hi,h.1.2,h.2⟩
theorem nodupB_app:∀ {A B:List Nat} {i:Nat},okPerm.nodupB (A++i :: B)=true→(∀ j ∈ A,j≠i)∧∀ j ∈ B,j≠i
 | [],B,i,h=>by
  simp only [List.nil_append,okPerm.nodupB,Bool.and_eq_true,Bool.not_eq_true',List.contains_eq_mem,decide_eq_false_iff_not] at h
  exact ⟨fun _ hj=>(by cases hj),fun j hj e=>h.1 (e ▸ hj)⟩
 | a :: A,B,i,h=>by
  simp only [List.cons_append,okPerm.nodupB,Bool.and_eq_true,Bool.not_eq_true',List.contains_eq_mem,decide_eq_false_iff_not] at h
  obtain ⟨h1,h2⟩:=nodupB_app h.2
  refine ⟨fun j hj e=>?_,h2⟩
  rcases List.mem_cons.1 hj with rfl | hj
  ·subst e;exact h.1 (by simp)
  ·exact h1 j hj e
theorem remain_split {pm:List Nat} {n i:Nat} {listed:Array Bool} (hpm:okPerm n pm=true) (hin:i<n) (hl:listed.size=n) (hi:listed.getD i true=false) :
  ∃ A B L1 L2,pm=A++i :: B∧remain pm listed=L1++i :: L2∧remain pm (listed.setIfInBounds i true)=L1++L2∧∀ j,j ∈ L1→j ∈ A∧listed.getD j true=false:=by
 obtain ⟨h1,h2,h3⟩:=okPerm_spec hpm
 obtain ⟨A,B,rfl⟩:=List.append_of_mem (h1 i hin)
 obtain ⟨n1,n2⟩:=nodupB_app h3
 refine ⟨A,B,A.filter fun i=>!listed.getD i true,B.filter fun i=>!listed.getD i true,rfl,?_,?_,?_⟩
 ·unfold remain;rw [List.filter_append,List.filter_cons,hi];rfl
 ·unfold remain
  rw [List.filter_append,List.filter_cons]
  have:(listed.setIfInBounds i true).getD i true=true:=by simp [show i<listed.size by omega]
  rw [this]
  simp only [Bool.not_true,Bool.false_eq_true,if_false]
  congr 1
  ·exact List.filter_congr fun j hj=>by rw [getD_set_ne true (Ne.symm (n1 j hj))]
  ·exact List.filter_congr fun j hj=>by rw [getD_set_ne true (Ne.symm (n2 j hj))]
 ·intro j hj
  have:=List.mem_filter.1 hj
  exact ⟨this.1,by simpa using this.2⟩
structure Closed (ops:Array Oper) (listed:Array Bool):Prop where
 size:listed.size=ops.size
 down:∀ (j:Nat) oj,ops[j]? = some oj→listed.getD j false=true→∀ ed ∈ oj.after,Region.binds .any ed=true→listed.getD ed.on false=true
theorem Closed.anc {listed:Array Bool} (c:Closed ops listed) {i j:Nat} (ha:Anc ops i j):listed.getD i false=true→listed.getD j false=true:=by
 induction ha with
 | one ho he hb hj=>intro hi;subst hj;exact c.down _ _ ho hi _ he hb
 | more ho he hb hk _ ih=>intro hi;subst hk;exact ih (c.down _ _ ho hi _ he hb)
theorem Closed.set {listed:Array Bool} (c:Closed ops listed) {i:Nat} (hi:i ∈ Region.ready .any ops listed):Closed ops (listed.setIfInBounds i true):=by
 obtain ⟨_,oi,hoi,hall⟩:=mem_ready.1 hi
 refine ⟨by simp [c.size],fun j oj hj hl ed he hb=>?_⟩
 by_cases hij:i=j
 ·subst hij
  have:oj=oi:=Option.some.inj (hj.symm.trans hoi)
  subst this
  exact getD_set_true (hall ed he hb)
 ·rw [getD_set_ne false hij] at hl
  exact getD_set_true (c.down j oj hj hl ed he hb)
theorem getD_tf {listed:Array Bool} {i:Nat} (hi:i<listed.size) (b:Bool):listed.getD i false=b↔listed.getD i true=b:=by
 simp [hi]
theorem draw_any {Inv:Hp→Prop} {cl:Oper→Cl} {pm:List Nat} (hup:∀ (i:Nat) y,ops[i]? = some y→cl y=.n→UpInv Inv) (hd:∀ (i:Nat) o,ops[i]? = some o→∀ k,o.dst=some k→k<N) (hback:okBack ops=true) (hpm:okPerm ops.size pm=true) (hp:okPairs rf cl ops (befores ops.toList []) pm=true) (hQ:∀ a w,Goes rf N dz w0 h0 we K a w→Q .normal a w) :
  ∀ (fuel:Nat) (listed:Array Bool) (e:ME) (h:Hp) (a:Go.Act) (w:World),Closed ops listed→(remain pm listed).length≤fuel→(Inv h∨∀ j ∈ remain pm listed,cl (ops.getD j default)=.a) →
  mdraw P rf Inv cl ops ((remain pm listed).map (ops.getD · default)) e h K→At rf N dz w0 h0 we e h a w→wpAnyIn (FW rd) nn P .any ops Q fuel listed a w:=by
 have hleast:∀ listed,Closed ops listed→Region.ready .any ops listed=[]→remain pm listed=[]:=by
  intro listed c hr
  have:∀ n i,i<n→i<ops.size→listed.getD i true=true:=by
   intro n
   induction n with
   | zero=>intro i hi;omega
   | succ n ih =>
    intro i hi his
    cases hl:listed.getD i true with
    | true=>rfl
    | false =>
     exfalso
     have ho:∃ o,ops[i]? = some o:=⟨ops[i],by simp [his]⟩
     obtain ⟨o,ho⟩:=ho
     have hmem:i ∈ Region.ready .any ops listed:=mem_ready.2 ⟨hl,o,ho,fun ed he hb=>by
      have h1:=List.all_eq_true.1 hback i (List.mem_range.2 his)
      rw [ho] at h1
      have h2:=List.all_eq_true.1 h1 ed (Array.mem_toList_iff.2 he)
      rw [hb] at h2
      have hlt:ed.on<i:=by simpa using h2
      have:=ih ed.on (by omega) (by omega)
      exact (getD_tf (by rw [c.size];omega) true).2 this⟩
     rw [hr] at hmem;cases hmem
  unfold remain
  rw [List.filter_eq_nil_iff]
  intro i hi
  have:=this (i+1) i (by omega) ((okPerm_spec hpm).2.1 i hi)
  simp [this]
 intro fuel
 induction fuel with
 | zero =>
  intro listed e h a w c hlen hinv hm s
  have hnil:remain pm listed=[]:=List.length_eq_zero_iff.1 (by omega)
  rw [hnil] at hm
  refine ⟨?_,hQ _ _ ⟨e,h,s,hm⟩⟩
  rw [List.eq_nil_iff_forall_not_mem]
  intro i hi
  obtain ⟨h1,o,ho,_⟩:=mem_ready.1 hi
  have hin:i<ops.size:=(Array.getElem?_eq_some_iff.1 ho).1
  obtain ⟨_,_,L1,L2,_,hs,_⟩:=remain_split hpm hin c.size h1
  rw [hnil] at hs
  exact absurd hs.symm (by simp)
 | succ fuel ih =>
  intro listed e h a w c hlen hinv hm s
  refine ⟨fun hr=>?_,fun i hi=>?_⟩
  ·rw [hleast listed c hr] at hm
   exact hQ _ _ ⟨e,h,s,hm⟩
  ·obtain ⟨h1,o,ho,hall⟩:=mem_ready.1 hi
   have hin:i<ops.size:=(Array.getElem?_eq_some_iff.1 ho).1
   obtain ⟨A,B,L1,L2,hAB,hs,hs',hL1⟩:=remain_split hpm hin c.size h1
   rw [hs] at hm hlen
   simp only [List.map_append,List.map_cons] at hm
   have hoi:ops.getD i default=o:=by simp [Array.getD_eq_getD_getElem?,ho]
   rw [hoi] at hm
   have hx:=pull (hup i o ho) (L1.map (ops.getD · default)) e h (fun y hy=>by
    obtain ⟨j,hj,rfl⟩:=List.mem_map.1 hy
    obtain ⟨hji,hjl⟩:=hL1 j hj
    have hjn:j<ops.size:=(okPerm_spec hpm).2.1 j (by rw [hAB];exact List.mem_append_left _ hji)
    exact hup j _ (by simp [Array.getD_eq_getD_getElem?,hjn])) s.ext.sat.fin (fun hxa=>hinv.resolve_right fun hh=>hxa (by rw [← hoi];exact hh i (by rw [hs];simp))) (fun y hy=>by
    obtain ⟨j,hj,rfl⟩:=List.mem_map.1 hy
    obtain ⟨hji,hjl⟩:=hL1 j hj
    have hjn:j<ops.size:=(okPerm_spec hpm).2.1 j (by rw [hAB];exact List.mem_append_left _ hji)
    have hoj:ops[j]? = some (ops.getD j default):=by simp [Array.getD_eq_getD_getElem?,hjn]
    have h2:=okPairs_at hp hAB j hji
    unfold okPair at h2
    rw [hoj,ho] at h2
    simp only [Bool.or_eq_true,Bool.and_eq_true] at h2
    rcases h2 with ⟨h2,_⟩ | h2
    ·exfalso
     have hanc:Anc ops i j:=befores_spec ops.toList [] (by simp) (by simp) i (by simpa using hin) j h2
     have hfalse:listed.getD j false=true:=by
      cases hanc with
      | one ho' he hb hj' =>
       have:o=_:=Option.some.inj (ho.symm.trans ho')
       subst this;subst hj';exact hall _ he hb
      | more ho' he hb hk hrest =>
       have:o=_:=Option.some.inj (ho.symm.trans ho')
       subst this;subst hk;exact c.anc hrest (hall _ he hb)
     rw [(getD_tf (by rw [c.size];exact hjn) false).2 hjl] at hfalse
     cases hfalse
    ·exact h2) hm
   have hlt:∀ j ∈ L1++L2,j<ops.size:=fun j hj=>by
    have:j ∈ remain pm (listed.setIfInBounds i true):=by rw [hs'];exact hj
    exact (okPerm_spec hpm).2.1 j (List.mem_filter.1 this).1
   have hnext:∀ (e':ME) (h':Hp) (a':Go.Act) (w':World),(Inv h'∨∀ j ∈ L1++L2,cl (ops.getD j default)=.a)→mdraw P rf Inv cl ops (L1.map (ops.getD · default)++L2.map (ops.getD · default)) e' h' K→At rf N dz w0 h0 we e' h' a' w'→wpAnyIn (FW rd) nn P .any ops Q fuel (listed.setIfInBounds i true) a' w':=fun e' h' a' w' hinv' hm' s'=>by
    refine ih (listed.setIfInBounds i true) e' h' a' w' (c.set hi) (by rw [hs'];simp at hlen ⊢;omega) (by rw [hs'];exact hinv') ?_ s'
    rw [hs',List.map_append];exact hm'
   have hiL:i ∈ remain pm listed:=by rw [hs];simp
   by_cases hke:cl o=.e
   ·have hall:∀ j ∈ L1++L2,cl (ops.getD j default)=.a:=fun j hj=>by
     have hjn:=hlt j hj
     have hjr:j ∈ remain pm (listed.setIfInBounds i true):=by rw [hs'];exact hj
     have hoj:ops[j]? = some (ops.getD j default):=by simp [Array.getD_eq_getD_getElem?,hjn]
     have hjl:listed.getD j true=false:=by
      have:=(List.mem_filter.1 hjr).2
      by_cases hij:i=j
      ·subst hij
       have h9:(listed.setIfInBounds i true).getD i true=true:=by simp [show i<listed.size by rw [c.size];exact hin]
       rw [h9] at this;cases this
      ·rw [getD_set_ne true hij] at this;simpa using this
     have hjpm:j ∈ A++i :: B:=by rw [← hAB];exact (List.mem_filter.1 hjr).1
     rcases List.mem_append.1 hjpm with hjA | hjB
     ·have h2:=okPairs_at hp hAB j hjA
      unfold okPair at h2
      rw [hoj,ho] at h2
      simp only [Bool.or_eq_true,Bool.and_eq_true] at h2
      rcases h2 with ⟨h2,_⟩ | h2
      ·exfalso
       have hanc:Anc ops i j:=befores_spec ops.toList [] (by simp) (by simp) i (by simpa using hin) j h2
       have hfalse:listed.getD j false=true:=by
        cases hanc with
        | one ho' he hb hj' =>
         have:o=_:=Option.some.inj (ho.symm.trans ho')
         subst this;subst hj';exact hall _ he hb
        | more ho' he hb hk hrest =>
         have:o=_:=Option.some.inj (ho.symm.trans ho')
         subst this;subst hk;exact c.anc hrest (hall _ he hb)
       rw [(getD_tf (by rw [c.size];exact hjn) false).2 hjl] at hfalse
       cases hfalse
      ·have:=h2.2
       rw [hke] at this
       exact heapOk_to_e this
     ·rcases List.mem_cons.1 hjB with rfl | hjB
      ·exfalso
       have:=(List.mem_filter.1 hjr).2
       have h9:(listed.setIfInBounds j true).getD j true=true:=by simp [show j<listed.size by rw [c.size];exact hin]
       rw [h9] at this;cases this
      ·obtain ⟨C,D,hCD⟩:=List.append_of_mem hjB
       have hAB2:pm=(A++i :: C)++j :: D:=by rw [hAB,hCD];simp
       exact okPair_e hin hjn (by rw [hoi];exact hke) (okPairs_at hp hAB2 i (by simp))
    refine wpOpIn_mono ?_ (op_sound (K:=fun e' h'=>mdraw P rf Inv cl ops (L1.map (ops.getD · default)++L2.map (ops.getD · default)) e' h' K) ho (hd i o ho) s (mrun_run0 (.inr hke) hx))
    rintro a' w' ⟨e',h',s',hm'⟩
    exact hnext e' h' a' w' (.inr hall) hm' s'
   rcases hinv with hinv | hinv
   ·refine wpOpIn_mono ?_ (op_sound (K:=fun e' h'=>Inv h'∧mdraw P rf Inv cl ops (L1.map (ops.getD · default)++L2.map (ops.getD · default)) e' h' K) ho (hd i o ho) s (mrun_run1 hke hinv (hup i o ho) hx))
    rintro a' w' ⟨e',h',s',hinv',hm'⟩
    exact hnext e' h' a' w' (.inl hinv') hm' s'
   ·have hka:cl o=.a:=by rw [← hoi];exact hinv i hiL
    refine wpOpIn_mono ?_ (op_sound (K:=fun e' h'=>mdraw P rf Inv cl ops (L1.map (ops.getD · default)++L2.map (ops.getD · default)) e' h' K) ho (hd i o ho) s (mrun_run0 (.inl hka) hx))
    rintro a' w' ⟨e',h',s',hm'⟩
    refine hnext e' h' a' w' (.inr fun j hj=>hinv j ?_) hm' s'
    rw [hs]
    rcases List.mem_append.1 hj with hj | hj
    ·exact List.mem_append_left _ hj
    ·exact List.mem_append_right _ (List.mem_cons_of_mem _ hj)
end
end Go.Mid
