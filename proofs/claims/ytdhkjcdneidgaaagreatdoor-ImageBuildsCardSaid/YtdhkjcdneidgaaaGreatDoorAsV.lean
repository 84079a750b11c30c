/-
  Instructions as text: the instruction of any line, the document's (printed by a program).
-/
import Derived.Test.YtdhkjcdneidgaaaGreatDoorAsU
set_option linter.unusedSimpArgs false
set_option linter.unusedVariables false
set_option maxHeartbeats 8000000
set_option maxRecDepth 10000
set_option linter.unusedSimpArgs false
set_option linter.unusedVariables false
namespace Go.Proofs.YtdhkjcdneidgaaaGreatDoor
open Go Go.Mid Go.RowKit
attribute [local irreducible] mid
def fieldR (x:Ins×Bool) (f:UInt8) (w:Str):Except Int (Ins×Bool) :=
 if f=100 then (match Rg.findI w with | some i=>.ok ({ x.1 with a:=i },x.2) | none=>.error 9)
 else if f=49 then (match Rg.findI w with | some i=>.ok ({ x.1 with b:=i },x.2) | none=>.error 9)
 else if f=50 then (match Rg.findI w with | some i=>.ok ({ x.1 with c:=i },x.2) | none=>.error 9)
 else if f=105 then (match numA w with | some n=>.ok ({ x.1 with m:=n },x.2) | none=>.error 2)
 else if f=117 then (match numA w with | some n=>if n < -524288∨524287<n then .ok (x.1,true) else .ok ({ x.1 with m:=n*4096 },false) | none=>.error 2)
 else if f=99 then (match numA w with | some n=>if n<0∨4095<n then .ok (x.1,true) else .ok ({ x.1 with s:=n },false) | none=>.error 2)
 else (match numA w with | some n=>if n<0∨31<n then .ok (x.1,true) else .ok ({ x.1 with b:=n },x.2) | none=>.error 2)
def fieldsR:Ins×Bool→Str→List Str→Except Int (Ins×Bool)
 | x,f :: fs,w :: ws=>match fieldR x f w with
  | .ok y=>fieldsR y fs ws
  | .error e=>.error e
 | x,_,_=>.ok x
theorem fieldsR_cons (x:Ins×Bool) (f:UInt8) (fs:Str) (w:Str) (ws:List Str):fieldsR x (f :: fs) (w :: ws)=(match fieldR x f w with
  | .ok y=>fieldsR y fs ws
  | .error e=>.error e):=rfl
def endP:Except Int Ins→Except Int Ins
 | .error e=>.error e
 | .ok x=>if x.chk=0 then .ok x else .error x.chk
def endR:Except Int (Ins×Bool)→Except Int Ins
 | .error e=>.error e
 | .ok (x,far)=>if far=true∨x.chk≠0 then .error 3 else .ok x
theorem chk_or3 {x:Ins} {f:Nat} (hf:fmtN x.op=f) (h0:f≠0) (hb:¬ badF (fieldsL.getD f []) x.a x.b x.c x.m x.s x.aq x.rl):x.chk=0∨x.chk=3:=by
 unfold Ins.chk checkF
 rw [hf,if_neg h0,if_neg hb]
 split
 ·exact .inr rfl
 ·split
  ·exact .inr rfl
  ·exact .inl rfl
theorem chk_3 {x:Ins} {f:Nat} (hf:fmtN x.op=f) (h0:f≠0) (hb:¬ badF (fieldsL.getD f []) x.a x.b x.c x.m x.s x.aq x.rl) (hr:x.b<0∨31<x.b∨x.s<0∨4095<x.s∨fitsN f x.m=false):x.chk=3:=by
 unfold Ins.chk checkF
 rw [hf,if_neg h0,if_neg hb]
 split
 ·rfl
 ·rw [if_pos]
  rcases hr with hr | hr | hr | hr | hr
  ·omega
  ·omega
  ·exact .inl hr
  ·exact .inr (.inl hr)
  ·exact .inr (.inr hr)
def easy (c:UInt8):Bool:=c==100 || c==49 || c==50 || c==105
theorem easy_field {c:UInt8} (h:easy c=true) (x:Ins) (w:Str):fieldR (x,false) c w=(match fieldP x c w with | .ok y=>.ok (y,false) | .error e=>.error e):=by
 simp only [easy,Bool.or_eq_true,beq_iff_eq] at h
 rcases h with ((rfl | rfl) | rfl) | rfl
 ·unfold fieldR fieldP;cases Rg.findI w <;> rfl
 ·unfold fieldR fieldP;cases Rg.findI w <;> rfl
 ·unfold fieldR fieldP;cases Rg.findI w <;> rfl
 ·unfold fieldR fieldP;cases numA w <;> rfl
theorem easy_fields:∀ (fs:Str) (r:List Str) (x:Ins),fs.all easy=true→fieldsR (x,false) fs r=(match fieldsP x fs r with | .ok y=>.ok (y,false) | .error e=>.error e)
 | [],r,x,_=>by cases r <;> rfl
 | c :: fs,[],x,_=>rfl
 | c :: fs,w :: r,x,h=>by
  rw [List.all_cons,Bool.and_eq_true] at h
  rw [fieldsR_cons,fieldsP_cons,easy_field h.1]
  cases fieldP x c w with
  | error e=>rfl
  | ok y=>exact easy_fields fs r y h.2
def toldF (x:Ins) (fl:List Bool):Prop:=¬ badF fl x.a x.b x.c x.m x.s x.aq x.rl
theorem told_step {x y:Ins} {fl:List Bool} {c:UInt8} {w:Str} (h:toldF x fl) (hy:fieldP x c w=.ok y) (hc:(c=100→fl.getD 0 true=true)∧((c=49∨c=110)→fl.getD 1 true=true)∧(c=50→fl.getD 2 true=true)∧((c=105∨c=117)→fl.getD 3 true=true)∧(c=99→fl.getD 4 true=true)) (hm:c=100∨c=49∨c=50∨c=105∨c=117∨c=99∨c=110):toldF y fl∧y.op=x.op:=by
 obtain ⟨c1,c2,c3,c4,c5⟩:=hc
 unfold fieldP at hy
 rcases hm with rfl | rfl | rfl | rfl | rfl | rfl | rfl
 ·cases hr:Rg.findI w with
  | none=>rw [hr] at hy;cases hy
  | some v =>
   rw [hr] at hy
   obtain rfl:_=y:=by injection hy
   refine ⟨?_,rfl⟩
   have:=c1 rfl
   unfold toldF badF at h ⊢
   simp only [this] at h ⊢
   simpa using h
 ·cases hr:Rg.findI w with
  | none=>rw [hr] at hy;cases hy
  | some v =>
   rw [hr] at hy
   obtain rfl:_=y:=by injection hy
   refine ⟨?_,rfl⟩
   have:=c2 (.inl rfl)
   unfold toldF badF at h ⊢
   simp only [this] at h ⊢
   simpa using h
 ·cases hr:Rg.findI w with
  | none=>rw [hr] at hy;cases hy
  | some v =>
   rw [hr] at hy
   obtain rfl:_=y:=by injection hy
   refine ⟨?_,rfl⟩
   have:=c3 rfl
   unfold toldF badF at h ⊢
   simp only [this] at h ⊢
   simpa using h
 ·cases hr:numA w with
  | none=>rw [hr] at hy;cases hy
  | some v =>
   rw [hr] at hy
   obtain rfl:_=y:=by injection hy
   refine ⟨?_,rfl⟩
   have:=c4 (.inl rfl)
   unfold toldF badF at h ⊢
   simp only [this] at h ⊢
   simpa using h
 ·cases hr:numA w with
  | none=>rw [hr] at hy;cases hy
  | some v =>
   rw [hr] at hy
   obtain rfl:_=y:=by injection hy
   refine ⟨?_,rfl⟩
   have:=c4 (.inr rfl)
   unfold toldF badF at h ⊢
   simp only [this] at h ⊢
   simpa using h
 ·cases hr:numA w with
  | none=>rw [hr] at hy;cases hy
  | some v =>
   rw [hr] at hy
   obtain rfl:_=y:=by injection hy
   refine ⟨?_,rfl⟩
   have:=c5 rfl
   unfold toldF badF at h ⊢
   simp only [this] at h ⊢
   simpa using h
 ·cases hr:numA w with
  | none=>rw [hr] at hy;cases hy
  | some v =>
   rw [hr] at hy
   obtain rfl:_=y:=by injection hy
   refine ⟨?_,rfl⟩
   have:=c2 (.inr rfl)
   unfold toldF badF at h ⊢
   simp only [this] at h ⊢
   simpa using h
def fitsFl (fl:List Bool) (c:UInt8):Bool:=(c != 100 || fl.getD 0 true) && (!(c==49 || c==110) || fl.getD 1 true) && (c != 50 || fl.getD 2 true) && (!(c==105 || c==117) || fl.getD 3 true) && (c != 99 || fl.getD 4 true) && (c==100 || c==49 || c==50 || c==105 || c==117 || c==99 || c==110)
theorem fits_fl {fl:List Bool} {c:UInt8} (h:fitsFl fl c=true):((c=100→fl.getD 0 true=true)∧((c=49∨c=110)→fl.getD 1 true=true)∧(c=50→fl.getD 2 true=true)∧((c=105∨c=117)→fl.getD 3 true=true)∧(c=99→fl.getD 4 true=true))∧(c=100∨c=49∨c=50∨c=105∨c=117∨c=99∨c=110):=by
 simp only [fitsFl,Bool.and_eq_true,Bool.or_eq_true,bne_iff_ne,beq_iff_eq,Bool.not_eq_true',Bool.or_eq_false_iff,beq_eq_false_iff_ne] at h
 obtain ⟨⟨⟨⟨⟨h1,h2⟩,h3⟩,h4⟩,h5⟩,h6⟩:=h
 refine ⟨⟨fun e=>h1.resolve_left (fun hn=>hn e),fun e=>h2.resolve_left (fun hn=>e.elim hn.1 hn.2),fun e=>h3.resolve_left (fun hn=>hn e),fun e=>h4.resolve_left (fun hn=>e.elim hn.1 hn.2),fun e=>h5.resolve_left (fun hn=>hn e)⟩,?_⟩
 rcases h6 with (((((h | h) | h) | h) | h) | h) | h <;> simp [h]
theorem told_fields {fl:List Bool}:∀ (fs:Str) (r:List Str) (x y:Ins),fs.all (fitsFl fl)=true→toldF x fl→fieldsP x fs r=.ok y→toldF y fl∧y.op=x.op
 | [],r,x,y,_,h,e=>by
  have:x=y:=by cases r <;> (injection e)
  subst this;exact ⟨h,rfl⟩
 | c :: fs,[],x,y,_,h,e=>by
  have:x=y:=by injection e
  subst this;exact ⟨h,rfl⟩
 | c :: fs,w :: r,x,y,ha,h,e=>by
  rw [List.all_cons,Bool.and_eq_true] at ha
  rw [fieldsP_cons] at e
  cases hz:fieldP x c w with
  | error _=>rw [hz] at e;cases e
  | ok z =>
   rw [hz] at e
   obtain ⟨f1,f2⟩:=fits_fl ha.1
   obtain ⟨t1,t2⟩:=told_step h hz f1 f2
   obtain ⟨t3,t4⟩:=told_fields fs r z y ha.2 t1 e
   exact ⟨t3,t4.trans t2⟩
theorem order_fits:∀ f:Nat,f<15→(orderS f).all (fitsFl (fieldsL.getD f []))=true:=by decide
theorem end_easy {f:Nat} {x:Ins} {r:List Str} (hf:fmtN x.op=f) (h0:f≠0) (hlt:f<15) (ht:toldF x (fieldsL.getD f [])) (he:(orderS f).all easy=true):endR (fieldsR (x,false) (orderS f) r)=endP (fieldsP x (orderS f) r):=by
 rw [easy_fields _ _ _ he]
 cases hy:fieldsP x (orderS f) r with
 | error e=>rfl
 | ok y =>
  obtain ⟨t1,t2⟩:=told_fields _ _ _ _ (order_fits f hlt) ht hy
  have:=chk_or3 (x:=y) (by rw [t2];exact hf) h0 t1
  show (if false=true∨y.chk≠0 then _ else _)=if y.chk=0 then _ else _
  rcases this with h | h
  ·rw [if_pos h,if_neg (by simp [h])]
  ·rw [if_pos (.inr (by rw [h];decide)),if_neg (by rw [h];decide),h]
theorem end_U {x:Ins} {r:List Str} (hf:fmtN x.op=5) (ht:toldF x (fieldsL.getD 5 [])) (hl:r.length=2):endR (fieldsR (x,false) (orderS 5) r)=endP (fieldsP x (orderS 5) r):=by
 obtain ⟨w1,w2,rfl⟩:∃ w1 w2,r=[w1,w2]:=by
  match r,hl with
  | [a,b],_=>exact ⟨a,b,rfl⟩
 have hP:fieldsP x (orderS 5) [w1,w2]=(match fieldP x 100 w1 with | .ok y=>(match fieldP y 117 w2 with | .ok z=>.ok z | .error e=>.error e) | .error e=>.error e):=rfl
 have hR:fieldsR (x,false) (orderS 5) [w1,w2]=(match fieldR (x,false) 100 w1 with | .ok y=>(match fieldR y 117 w2 with | .ok z=>.ok z | .error e=>.error e) | .error e=>.error e):=rfl
 rw [hR,easy_field rfl]
 cases hy:fieldP x 100 w1 with
 | error e=>rw [hP,hy];rfl
 | ok y =>
  cases hn:numA w2 with
  | none =>
   have e1:fieldP y 117 w2=.error 2:=by show (match numA w2 with | some n=>_ | none=>_)=_;rw [hn]
   have e2:fieldR (y,false) 117 w2=.error 2:=by show (match numA w2 with | some n=>_ | none=>_)=_;rw [hn]
   rw [hP,hy]
   simp only [e1,e2]
   rfl
  | some n =>
   have e1:fieldP y 117 w2=.ok { y with m:=upN n }:=by show (match numA w2 with | some n=>_ | none=>_)=_;rw [hn]
   have e2:fieldR (y,false) 117 w2=if n < -524288∨524287<n then .ok (y,true) else .ok ({ y with m:=n*4096 },false):=by show (match numA w2 with | some n=>_ | none=>_)=_;rw [hn]
   have hz:fieldsP x (orderS 5) [w1,w2]=.ok { y with m:=upN n }:=by rw [hP,hy];simp only [e1]
   obtain ⟨t1,t2⟩:=told_fields _ _ _ _ (order_fits 5 (by decide)) ht hz
   rw [hz]
   simp only [e2]
   show endR _=if Ins.chk { y with m:=upN n }=0 then _ else _
   by_cases far:n < -524288∨524287<n
   ·rw [if_pos far]
    have h3:Ins.chk { y with m:=upN n }=3:=chk_3 (by rw [t2];exact hf) (by decide) t1 (.inr (.inr (.inr (.inr (by
     show decide _=false
     rw [decide_eq_false_iff_not]
     show ¬ (-2147483648≤upN n∧upN n≤2147483647∧upN n % 4096=0)
     unfold upN
     split <;> omega)))))
    rw [if_neg (by rw [h3];decide),h3]
    rfl
   ·rw [if_neg far]
    have hu:upN n=n*4096:=by unfold upN;rw [if_neg (by omega)]
    have h3:=chk_or3 (by rw [t2];exact hf) (by decide) t1
    rw [hu] at h3 ⊢
    show (if false=true∨Ins.chk { y with m:=n*4096 }≠0 then _ else _)=_
    rcases h3 with h | h
    ·rw [if_pos h,if_neg (by simp [h])]
    ·rw [if_pos (.inr (by rw [h];decide)),if_neg (by rw [h];decide),h]
theorem end_Csr {x:Ins} {r:List Str} (hf:fmtN x.op=9) (ht:toldF x (fieldsL.getD 9 [])) (hl:r.length=3):endR (fieldsR (x,false) (orderS 9) r)=endP (fieldsP x (orderS 9) r):=by
 obtain ⟨w1,w2,w3,rfl⟩:∃ w1 w2 w3,r=[w1,w2,w3]:=by
  match r,hl with
  | [a,b,c],_=>exact ⟨a,b,c,rfl⟩
 have hP:fieldsP x (orderS 9) [w1,w2,w3]=(match fieldP x 100 w1 with | .ok y=>(match fieldP y 99 w2 with | .ok z=>(match fieldP z 49 w3 with | .ok z=>.ok z | .error e=>.error e) | .error e=>.error e) | .error e=>.error e):=rfl
 have hR:fieldsR (x,false) (orderS 9) [w1,w2,w3]=(match fieldR (x,false) 100 w1 with | .ok y=>(match fieldR y 99 w2 with | .ok z=>(match fieldR z 49 w3 with | .ok z=>.ok z | .error e=>.error e) | .error e=>.error e) | .error e=>.error e):=rfl
 rw [hR,easy_field rfl]
 cases hy:fieldP x 100 w1 with
 | error e=>rw [hP,hy];rfl
 | ok y =>
  cases hn:numA w2 with
  | none =>
   have e1:fieldP y 99 w2=.error 2:=by show (match numA w2 with | some n=>_ | none=>_)=_;rw [hn]
   have e2:fieldR (y,false) 99 w2=.error 2:=by show (match numA w2 with | some n=>_ | none=>_)=_;rw [hn]
   rw [hP,hy]
   simp only [e1,e2]
   rfl
  | some n =>
   have e1:fieldP y 99 w2=.ok { y with s:=smallN n }:=by show (match numA w2 with | some n=>_ | none=>_)=_;rw [hn]
   have e2:fieldR (y,false) 99 w2=if n<0∨4095<n then .ok (y,true) else .ok ({ y with s:=n },false):=by show (match numA w2 with | some n=>_ | none=>_)=_;rw [hn]
   cases hg:Rg.findI w3 with
   | none =>
    have e3:∀ z:Ins,fieldP z 49 w3=.error 9:=fun z=>by show (match Rg.findI w3 with | some n=>_ | none=>_)=_;rw [hg]
    have e4:∀ z:Ins×Bool,fieldR z 49 w3=.error 9:=fun z=>by show (match Rg.findI w3 with | some n=>_ | none=>_)=_;rw [hg]
    rw [hP,hy]
    simp only [e1,e2,e3]
    by_cases far:n<0∨4095<n
    ·rw [if_pos far];simp only [e4];rfl
    ·rw [if_neg far];simp only [e4];rfl
   | some g =>
    have e3:∀ z:Ins,fieldP z 49 w3=.ok { z with b:=g }:=fun z=>by show (match Rg.findI w3 with | some n=>_ | none=>_)=_;rw [hg]
    have e4:∀ z:Ins×Bool,fieldR z 49 w3=.ok ({ z.1 with b:=g },z.2):=fun z=>by show (match Rg.findI w3 with | some n=>_ | none=>_)=_;rw [hg]
    have hz:fieldsP x (orderS 9) [w1,w2,w3]=.ok { y with s:=smallN n,b:=g }:=by rw [hP,hy];simp only [e1,e3]
    obtain ⟨t1,t2⟩:=told_fields _ _ _ _ (order_fits 9 (by decide)) ht hz
    rw [hz]
    simp only [e2]
    show endR _=if Ins.chk { y with s:=smallN n,b:=g }=0 then _ else _
    by_cases far:n<0∨4095<n
    ·rw [if_pos far]
     simp only [e4]
     have h3:Ins.chk { y with s:=smallN n,b:=g }=3:=chk_3 (by rw [t2];exact hf) (by decide) t1 (by
      show g<0∨31<g∨smallN n<0∨4095<smallN n∨_
      have:smallN n<0∨4095<smallN n:=by unfold smallN;split <;> omega
      rcases this with h | h
      ·exact .inr (.inr (.inl h))
      ·exact .inr (.inr (.inr (.inl h))))
     rw [if_neg (by rw [h3];decide),h3]
     rfl
    ·rw [if_neg far]
     simp only [e4]
     have hu:smallN n=n:=by unfold smallN;rw [if_neg (by omega)]
     have h3:=chk_or3 (by rw [t2];exact hf) (by decide) t1
     rw [hu] at h3 ⊢
     show (if false=true∨Ins.chk { y with s:=n,b:=g }≠0 then _ else _)=_
     rcases h3 with h | h
     ·rw [if_pos h,if_neg (by simp [h])]
     ·rw [if_pos (.inr (by rw [h];decide)),if_neg (by rw [h];decide),h]
theorem end_CsrI {x:Ins} {r:List Str} (hf:fmtN x.op=10) (ht:toldF x (fieldsL.getD 10 [])) (hl:r.length=3):endR (fieldsR (x,false) (orderS 10) r)=endP (fieldsP x (orderS 10) r):=by
 obtain ⟨w1,w2,w3,rfl⟩:∃ w1 w2 w3,r=[w1,w2,w3]:=by
  match r,hl with
  | [a,b,c],_=>exact ⟨a,b,c,rfl⟩
 have hP:fieldsP x (orderS 10) [w1,w2,w3]=(match fieldP x 100 w1 with | .ok y=>(match fieldP y 99 w2 with | .ok z=>(match fieldP z 110 w3 with | .ok z=>.ok z | .error e=>.error e) | .error e=>.error e) | .error e=>.error e):=rfl
 have hR:fieldsR (x,false) (orderS 10) [w1,w2,w3]=(match fieldR (x,false) 100 w1 with | .ok y=>(match fieldR y 99 w2 with | .ok z=>(match fieldR z 110 w3 with | .ok z=>.ok z | .error e=>.error e) | .error e=>.error e) | .error e=>.error e):=rfl
 rw [hR,easy_field rfl]
 cases hy:fieldP x 100 w1 with
 | error e=>rw [hP,hy];rfl
 | ok y =>
  cases hn:numA w2 with
  | none =>
   have e1:fieldP y 99 w2=.error 2:=by show (match numA w2 with | some n=>_ | none=>_)=_;rw [hn]
   have e2:fieldR (y,false) 99 w2=.error 2:=by show (match numA w2 with | some n=>_ | none=>_)=_;rw [hn]
   rw [hP,hy]
   simp only [e1,e2]
   rfl
  | some n =>
   have e1:fieldP y 99 w2=.ok { y with s:=smallN n }:=by show (match numA w2 with | some n=>_ | none=>_)=_;rw [hn]
   have e2:fieldR (y,false) 99 w2=if n<0∨4095<n then .ok (y,true) else .ok ({ y with s:=n },false):=by show (match numA w2 with | some n=>_ | none=>_)=_;rw [hn]
   cases hg:numA w3 with
   | none =>
    have e3:∀ z:Ins,fieldP z 110 w3=.error 2:=fun z=>by show (match numA w3 with | some n=>_ | none=>_)=_;rw [hg]
    have e4:∀ z:Ins×Bool,fieldR z 110 w3=.error 2:=fun z=>by show (match numA w3 with | some n=>_ | none=>_)=_;rw [hg]
    rw [hP,hy]
    simp only [e1,e2,e3]
    by_cases far:n<0∨4095<n
    ·rw [if_pos far];simp only [e4];rfl
    ·rw [if_neg far];simp only [e4];rfl
   | some g =>
    have e3:∀ z:Ins,fieldP z 110 w3=.ok { z with b:=smallN g }:=fun z=>by show (match numA w3 with | some n=>_ | none=>_)=_;rw [hg]
    have e4:∀ z:Ins×Bool,fieldR z 110 w3=if g<0∨31<g then .ok (z.1,true) else .ok ({ z.1 with b:=g },z.2):=fun z=>by show (match numA w3 with | some n=>_ | none=>_)=_;rw [hg]
    have hz:fieldsP x (orderS 10) [w1,w2,w3]=.ok { y with s:=smallN n,b:=smallN g }:=by rw [hP,hy];simp only [e1,e3]
    obtain ⟨t1,t2⟩:=told_fields _ _ _ _ (order_fits 10 (by decide)) ht hz
    rw [hz]
    simp only [e2]
    show endR _=if Ins.chk { y with s:=smallN n,b:=smallN g }=0 then _ else _
    by_cases far:(n<0∨4095<n)∨(g<0∨31<g)
    ·have h3:Ins.chk { y with s:=smallN n,b:=smallN g }=3:=chk_3 (by rw [t2];exact hf) (by decide) t1 (by
      show smallN g<0∨31<smallN g∨smallN n<0∨4095<smallN n∨_
      have:smallN g<0∨31<smallN g∨smallN n<0∨4095<smallN n:=by unfold smallN;split <;> split <;> omega
      rcases this with h | h | h | h
      ·exact .inl h
      ·exact .inr (.inl h)
      ·exact .inr (.inr (.inl h))
      ·exact .inr (.inr (.inr (.inl h))))
     rw [h3,if_neg (show ¬ ((3:Int)=0) by decide)]
     by_cases f1:n<0∨4095<n
     ·rw [if_pos f1]
      simp only [e4]
      by_cases f2:g<0∨31<g
      ·rw [if_pos f2];rfl
      ·rw [if_neg f2];rfl
     ·rw [if_neg f1]
      simp only [e4]
      rw [if_pos (far.resolve_left f1)]
      rfl
    ·rw [if_neg (fun h=>far (.inl h))]
     simp only [e4]
     rw [if_neg (fun h=>far (.inr h))]
     have hu:smallN n=n:=by unfold smallN;rw [if_neg (by omega)]
     have hv:smallN g=g:=by unfold smallN;rw [if_neg (by omega)]
     have h3:=chk_or3 (by rw [t2];exact hf) (by decide) t1
     rw [hu,hv] at h3 ⊢
     show (if false=true∨Ins.chk { y with s:=n,b:=g }≠0 then _ else _)=_
     rcases h3 with h | h
     ·rw [if_pos h,if_neg (by simp [h])]
     ·rw [if_pos (.inr (by rw [h];decide)),if_neg (by rw [h];decide),h]
theorem fmt_class:∀ i:Nat,i<98→fmtN (i+1:Nat)≠0∧(classN (i+1:Nat)=7→fmtN (i+1:Nat)=11∨fmtN (i+1:Nat)=12):=by decide
theorem opA_marks {w:Str} {i:Nat} {aq rl:Bool} (h:opA w=some (i,aq,rl)):(aq=true∨rl=true)→classN (i+1:Nat)=7:=by
 obtain ⟨h1,k,h2,h3,h4⟩:=opA_inv h
 rcases h3 with rfl | h3
 ·have:=opA_word i h1 0 h2 (.inl rfl)
  rw [h4,h] at this
  simp only [Option.some.injEq,Prod.mk.injEq] at this
  obtain ⟨_,rfl,rfl⟩:=this
  intro hh
  exact absurd hh (by decide)
 ·exact fun _=>h3
def lineR (w:Str) (r:List Str):Except Int Ins:=match opA w with
 | none=>.error 9
 | some (i,aq,rl)=>if r.length≠(orderS (fmtN (i+1:Nat))).length then .error 2 else endR (fieldsR (⟨(i+1:Nat),0,0,0,0,0,aq,rl⟩,false) (orderS (fmtN (i+1:Nat))) r)
theorem lineP_end (w:Str) (r:List Str):lineP w r=(match opA w with
 | none=>.error 9
 | some (i,aq,rl)=>if r.length≠(orderS (fmtN (i+1:Nat))).length then .error 2 else endP (fieldsP ⟨(i+1:Nat),0,0,0,0,0,aq,rl⟩ (orderS (fmtN (i+1:Nat))) r)):=by
 unfold lineP endP
 rfl
theorem lineR_eq (w:Str) (r:List Str):lineR w r=lineP w r:=by
 rw [lineP_end]
 unfold lineR
 cases ho:opA w with
 | none=>rfl
 | some t =>
  obtain ⟨i,aq,rl⟩:=t
  simp only
  by_cases hl:r.length=(orderS (fmtN (i+1:Nat))).length
  ·rw [if_neg (by simpa using hl),if_neg (by simpa using hl)]
   obtain ⟨hi,_⟩:=opA_inv ho
   obtain ⟨f0,f1⟩:=fmt_class i hi
   have hm:=opA_marks ho
   have hlt:=fmtN_lt (i+1:Nat)
   have ht:toldF ⟨(i+1:Nat),0,0,0,0,0,aq,rl⟩ (fieldsL.getD (fmtN (i+1:Nat)) []):=by
    unfold toldF badF
    simp only [ne_eq,not_true_eq_false,and_false,false_or]
    rintro ⟨h1,h2⟩
    rcases f1 (hm h2) with h3 | h3 <;> rw [h3] at h1 <;> cases h1
   have hf:fmtN (Ins.op ⟨(i+1:Nat),0,0,0,0,0,aq,rl⟩)=fmtN (i+1:Nat):=rfl
   generalize hx:(⟨(i+1:Nat),0,0,0,0,0,aq,rl⟩:Ins)=x at ht hf
   generalize fmtN (i+1:Nat)=f at *
   match f,f0,hlt,ht,hf,hl with
   | 0,f0,_,_,_,_=>exact absurd rfl f0
   | 1,_,_,ht,hf,_=>exact end_easy hf (by decide) (by decide) ht (by decide)
   | 2,_,_,ht,hf,_=>exact end_easy hf (by decide) (by decide) ht (by decide)
   | 3,_,_,ht,hf,_=>exact end_easy hf (by decide) (by decide) ht (by decide)
   | 4,_,_,ht,hf,_=>exact end_easy hf (by decide) (by decide) ht (by decide)
   | 5,_,_,ht,hf,hl=>exact end_U hf ht hl
   | 6,_,_,ht,hf,_=>exact end_easy hf (by decide) (by decide) ht (by decide)
   | 7,_,_,ht,hf,_=>exact end_easy hf (by decide) (by decide) ht (by decide)
   | 8,_,_,ht,hf,_=>exact end_easy hf (by decide) (by decide) ht (by decide)
   | 9,_,_,ht,hf,hl=>exact end_Csr hf ht hl
   | 10,_,_,ht,hf,hl=>exact end_CsrI hf ht hl
   | 11,_,_,ht,hf,_=>exact end_easy hf (by decide) (by decide) ht (by decide)
   | 12,_,_,ht,hf,_=>exact end_easy hf (by decide) (by decide) ht (by decide)
   | 13,_,_,ht,hf,_=>exact end_easy hf (by decide) (by decide) ht (by decide)
   | 14,_,_,ht,hf,_=>exact end_easy hf (by decide) (by decide) ht (by decide)
   | f+15,_,hlt,_,_,_=>exact absurd hlt (by omega)
  ·rw [if_pos hl,if_pos hl]
end Go.Proofs.YtdhkjcdneidgaaaGreatDoor
