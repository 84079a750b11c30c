/-
  THE MIDDLE LAYER: pieces of the heap: a call is made over a piece of what is known, the rest stays; rows of elements of several cells.
-/
import Derived.Test.YtdhlpighdlnohaaGreatMidV
import Derived.Laws.AppendOwn
set_option linter.unusedSimpArgs false
set_option linter.unusedVariables false
set_option maxHeartbeats 8000000
set_option maxRecDepth 10000
set_option linter.unusedSimpArgs false
set_option linter.unusedVariables false
namespace Go.Mid
open Go Go.RowKit
theorem Hp.ne {h:Hp} {b c:Nat} {o:Obj} (hb:h b=none) (hc:h c=some o):c≠b:=fun e=>by rw [e,hb] at hc;cases hc
theorem Hp.le_keep {h0 h:Hp} {b:Nat} {o:Obj} (hle:h0.le h) (hb:h0 b=none):h0.le (h.set b o):=fun c x e=>by
 rw [Hp.set_other _ _ (Hp.ne hb e)];exact hle c x e
theorem Hp.none_le {h0 h:Hp} {b:Nat} (hle:h0.le h) (hb:h b=none):h0 b=none:=by
 cases e:h0 b with
 | none=>rfl
 | some o=>rw [hle b o e] at hb;cases hb
theorem Hp.set_self {h:Hp} {b:Nat} {o:Obj} (hb:h b=some o):h.set b o=h:=by
 funext c;unfold Hp.set;split
 ·rename_i hc;rw [hc,hb]
 ·rfl
theorem Hp.set_set (h:Hp) (b:Nat) (o o':Obj):(h.set b o).set b o'=h.set b o':=by
 funext c;unfold Hp.set;split <;> rfl
abbrev rowO (el:TypeId) (l:List Value):Obj:=.cells l.toArray el (0,0)
theorem cell_row {h:Hp} {b i:Nat} {el:TypeId} {l:List Value} {v:Value} (hb:h b=some (rowO el l)) (hv:l[i]? = some v):h.cell? ⟨b,i,none⟩=some v:=by
 unfold Hp.cell?;simp only [hb];simpa using hv
theorem cell_le {h h':Hp} {a:Addr} {v:Value} (hle:h.le h') (hc:h.cell? a=some v):h'.cell? a=some v:=by
 obtain ⟨c,el,f,hb⟩:=cell_block hc
 unfold Hp.cell? at hc ⊢
 rw [hle _ _ hb]
 rw [hb] at hc
 exact hc
theorem loadH_cell {P:Program} {t:TypeId} (ht:isAggT P t=some false) (h:Hp) (a:Addr):loadH P t h a=h.cell? a:=by unfold loadH;rw [ht]
theorem loadH_le {P:Program} {t:TypeId} {h h':Hp} {a:Addr} {v:Value} (hle:h.le h') (hl:loadH P t h a=some v):loadH P t h' a=some v:=by
 unfold loadH at hl ⊢
 split at hl
 ·split at hl
  ·rename_i n c e f h1 h2
   rw [h1,hle _ _ h2]
   exact hl
  ·cases hl
 ·exact cell_le hle hl
 ·cases hl
theorem storeH_row {P:Program} {t el:TypeId} {h:Hp} {b i:Nat} {l:List Value} {z:Value} (ht:sizeT P t=some 1) (hb:h b=some (rowO el l)) (hi:i<l.length) (hz:z.cells.toList=[z]) (h1:z.oneCell'=true) :
  storeH P t h ⟨b,i,none⟩ z=some (b,rowO el (l.set i z)):=by
 have hs:z.cells.size=1:=by rw [← Array.length_toList,hz];rfl
 have hi':i+1≤l.length:=hi
 unfold storeH
 rw [ht,hb]
 simp [hs,hz,h1,setL,hi']
def Rd (P:Program) (t:TypeId) (n:Nat) (h:Hp) (s:Value) (vs:List Value):Prop :=
 ∃ base cap,s=.slice base vs.length cap∧∀ i v,vs[i]? = some v→∃ a,base=some a∧loadH P t h (a.add (i*n))=some v
theorem Rd.le {P:Program} {t n:Nat} {h h':Hp} {s:Value} {vs:List Value} (r:Rd P t n h s vs) (hle:h.le h'):Rd P t n h' s vs:=by
 obtain ⟨base,cap,e,f⟩:=r
 exact ⟨base,cap,e,fun i v hv=>let ⟨a,e1,e2⟩:=f i v hv;⟨a,e1,loadH_le hle e2⟩⟩
theorem Rd.nil {P:Program} {t n:Nat} {h:Hp}:Rd P t n h (.slice none 0 0) []:=⟨none,0,rfl,fun i v hv=>by simp at hv⟩
theorem Rd.row {P:Program} {t el:TypeId} {h:Hp} {b:Nat} {l r:List Value} {cap:Nat} (ht:isAggT P t=some false) (hb:h b=some (rowO el (l++r))):Rd P t 1 h (.slice (some ⟨b,0,none⟩) l.length cap) l:=by
 refine ⟨_,_,rfl,fun i v hv=>⟨_,rfl,?_⟩⟩
 have hlt:i<l.length:=(List.getElem?_eq_some_iff.1 hv).1
 rw [loadH_cell ht,addr_add,Nat.zero_add,Nat.mul_one]
 exact cell_row hb (by rw [List.getElem?_append_left hlt];exact hv)
def Gr (h:Hp) (el:TypeId) (size:Nat) (s:Value) (n:Nat) (cs:List Value) (ob:Option Nat):Prop :=
 cs.length=n*size∧((ob=none∧s=.slice none 0 0∧n=0)∨∃ b cap rest,ob=some b∧s=.slice (some ⟨b,0,none⟩) n cap∧n≤cap∧rest.length=(cap - n)*size∧h b=some (rowO el (cs++rest)))
theorem Gr.nil {h:Hp} {el size:Nat}:Gr h el size (.slice none 0 0) 0 [] none:=⟨by simp,.inl ⟨rfl,rfl,rfl⟩⟩
def Turn (h h':Hp) (ob ob':Option Nat):Prop:=(h'=h∧ob'=ob)∨∃ b o,ob'=some b∧h'=h.set b o∧(h b=none∨ob=some b)
theorem Turn.le {h0 h h':Hp} {ob ob':Option Nat} (t:Turn h h' ob ob') (hle:h0.le h) (hb:∀ b,ob=some b→h0 b=none):h0.le h'∧∀ b,ob'=some b→h0 b=none:=by
 rcases t with ⟨rfl,rfl⟩ | ⟨b,o,rfl,rfl,hn | hn⟩
 ·exact ⟨hle,hb⟩
 ·have:=Hp.none_le hle hn
  exact ⟨Hp.le_keep hle this,fun c hc=>by cases hc;exact this⟩
 ·have:=hb b hn
  exact ⟨Hp.le_keep hle this,fun c hc=>by cases hc;exact this⟩
theorem Turn.keep {h h':Hp} {ob ob':Option Nat} {c:Nat} {x:Obj} (t:Turn h h' ob ob') (hc:h c=some x) (hb:∀ b,ob=some b→b≠c):h' c=some x∧∀ b,ob'=some b→b≠c:=by
 rcases t with ⟨rfl,rfl⟩ | ⟨b,o,rfl,rfl,hn | hn⟩
 ·exact ⟨hc,hb⟩
 ·have hne:=Hp.ne hn hc
  exact ⟨by rw [Hp.set_other _ _ hne];exact hc,fun d hd=>by cases hd;exact hne.symm⟩
 ·have hne:=hb b hn
  exact ⟨by rw [Hp.set_other _ _ hne.symm];exact hc,fun d hd=>by cases hd;exact hne⟩
theorem Gr.set {h:Hp} {el size:Nat} {s:Value} {n:Nat} {cs:List Value} {ob:Option Nat} {b:Nat} {o:Obj} (g:Gr h el size s n cs ob) (hb:∀ c,ob=some c→c≠b):Gr (h.set b o) el size s n cs ob:=by
 obtain ⟨hl,g | ⟨c,cap,rest,e1,e2,h1,h2,h3⟩⟩:=g
 ·exact ⟨hl,.inl g⟩
 ·exact ⟨hl,.inr ⟨c,cap,rest,e1,e2,h1,h2,by rw [Hp.set_other _ _ (hb c e1)];exact h3⟩⟩
theorem Gr.fresh {h:Hp} {el size:Nat} {s:Value} {n:Nat} {cs:List Value} {ob:Option Nat} {b:Nat} {o:Obj} (g:Gr h el size s n cs ob) (hb:h b=none):Gr (h.set b o) el size s n cs ob:=by
 obtain ⟨hl,g | ⟨c,cap,rest,e1,e2,h1,h2,h3⟩⟩:=g
 ·exact ⟨hl,.inl g⟩
 ·exact ⟨hl,.inr ⟨c,cap,rest,e1,e2,h1,h2,by rw [Hp.set_other _ _ (Hp.ne hb h3)];exact h3⟩⟩
theorem Gr.le {h h':Hp} {el size:Nat} {s:Value} {n:Nat} {cs:List Value} {ob:Option Nat} (g:Gr h el size s n cs ob) (hle:h.le h'):Gr h' el size s n cs ob:=by
 obtain ⟨hl,g | ⟨c,cap,rest,e1,e2,h1,h2,h3⟩⟩:=g
 ·exact ⟨hl,.inl g⟩
 ·exact ⟨hl,.inr ⟨c,cap,rest,e1,e2,h1,h2,hle _ _ h3⟩⟩
theorem Gr.piece {h:Hp} {el size:Nat} {s:Value} {n:Nat} {cs:List Value} {ob:Option Nat} (g:Gr h el size s n cs ob):∃ p:Hp,p.le h∧Gr p el size s n cs ob∧∀ b o,p b=some o→ob=some b:=by
 obtain ⟨hl,g | ⟨c,cap,rest,e1,e2,h1,h2,h3⟩⟩:=g
 ·exact ⟨fun _=>none,fun b o e=>(by cases e),⟨hl,.inl g⟩,fun b o e=>(by cases e)⟩
 ·refine ⟨fun b=>if b=c then h b else none,fun b o e=>?_,⟨hl,.inr ⟨c,cap,rest,e1,e2,h1,h2,?_⟩⟩,fun b o e=>?_⟩
  ·simp only at e
   split at e
   ·exact e
   ·cases e
  ·simp only [if_pos]
   exact h3
  ·simp only at e
   split at e
   ·rename_i hb;rw [e1,hb]
   ·cases e
theorem Gr.rd {P:Program} {t el:TypeId} {h:Hp} {s:Value} {n:Nat} {cs:List Value} {ob:Option Nat} (ht:isAggT P t=some false) (g:Gr h el 1 s n cs ob):Rd P t 1 h s cs:=by
 obtain ⟨hl,⟨rfl,rfl,rfl⟩ | ⟨b,cap,rest,rfl,rfl,hcap,hr,hb⟩⟩:=g
 ·obtain rfl:=List.eq_nil_of_length_eq_zero (by simpa using hl:cs.length=0)
  exact Rd.nil
 ·obtain rfl:cs.length=n:=by omega
  exact Rd.row ht hb
theorem mid_pure {α:Type} {P:Program} {a:α} {h:Hp} {K:α→Hp→Prop} (hk:K a h):mid P (Pure.pure a) h K:=hk
theorem mid_bind2 {α β:Type} {P:Program} {s:Sem α} {f:α→Sem β} {h:Hp} {K:β→Hp→Prop} (hk:mid P s h fun a g=>mid P (f a) g K):mid P (s >>= f) h K:=(mid_bind s f h K).2 hk
theorem mid_loadFrom {P:Program} {h:Hp} {a:Addr} {K:Array Value→Hp→Prop}:∀ (k i:Nat) (acc:Array Value) (cs:List Value),cs.length=k→(∀ j v,cs[j]? = some v→h.cell? (a.add (i+j))=some v) →
  K (acc++cs.toArray) h→mid P (loadCellsFrom a i k acc) h K
 | 0,i,acc,cs,hl,_,hk=>by
  obtain rfl:=List.eq_nil_of_length_eq_zero hl
  show K acc h
  simpa using hk
 | k+1,i,acc,cs,hl,hc,hk=>by
  cases cs with
  | nil=>simp at hl
  | cons v cs =>
   show mid P (load (a.add i) >>= fun v=>loadCellsFrom a (i+1) k (acc.push v)) h K
   refine mid_bind2 ?_
   unfold load
   have h0:h.cell? (a.add i)=some v:=hc 0 v rfl
   simp only [mid,h0]
   refine mid_loadFrom k (i+1) _ cs (by simpa using hl) (fun j u hj=>?_) (by simpa using hk)
   have:=hc (j+1) u (by simpa using hj)
   rwa [show i+1+j=i+(j+1) by omega]
theorem mid_loadCells {P:Program} {h:Hp} {a:Addr} {K:Array Value→Hp→Prop} (k:Nat) (cs:List Value) (hl:cs.length=k) (hc:∀ j v,cs[j]? = some v→h.cell? (a.add j)=some v) (hk:K cs.toArray h):mid P (loadCells a k) h K :=
 mid_loadFrom k 0 #[] cs hl (fun j v hj=>by rw [Nat.zero_add];exact hc j v hj) (by simpa using hk)
theorem mid_storeCells {P:Program} {el:TypeId} {K:Unit→Hp→Prop} {b off:Nat}:∀ (vs:List Value) (i:Nat) (l:List Value) (h:Hp),h b=some (rowO el l)→off+i+vs.length≤l.length→vs.all Value.oneCell'=true →
  K () (h.set b (rowO el (setL l (off+i) vs)))→mid P (storeCells ⟨b,off,none⟩ vs i) h K
 | [],i,l,h,hb,_,_,hk=>by
  show K () h
  have:h.set b (rowO el (setL l (off+i) []))=h:=Hp.set_self hb
  rw [this] at hk
  exact hk
 | v :: vs,i,l,h,hb,hl,h1,hk=>by
  simp only [List.all_cons,Bool.and_eq_true] at h1
  simp only [List.length_cons] at hl
  show v.oneCell'=true∧match h.cell? ((⟨b,off,none⟩:Addr).add i) with
   | some _=>h.frozen? ((⟨b,off,none⟩:Addr).add i)=false∧mid P (storeCells ⟨b,off,none⟩ vs (i+1)) (h.setCell ((⟨b,off,none⟩:Addr).add i) v) K
   | none=>False
  rw [addr_add]
  have hc:h.cell? ⟨b,off+i,none⟩=some l[off+i]:=cell_row hb (by rw [List.getElem?_eq_getElem (by omega)])
  rw [hc]
  refine ⟨h1.1,by unfold Hp.frozen?;simp only [hb];simp,?_⟩
  have hset:h.setCell ⟨b,off+i,none⟩ v=h.set b (rowO el (l.set (off+i) v)):=by
   unfold Hp.setCell;simp only [hb];simp
  rw [hset]
  refine mid_storeCells vs (i+1) (l.set (off+i) v) _ (Hp.set_same _ _ _) (by simp;omega) h1.2 ?_
  rw [Hp.set_set]
  exact hk
theorem setL_append:∀ (new old rest:List Value),new.length≤rest.length→setL (old++rest) old.length new=old++new++rest.drop new.length
 | [],old,rest,_=>by simp [setL]
 | v :: new,old,[],hl=>by simp at hl
 | v :: new,old,r :: rest,hl=>by
  simp only [setL]
  rw [List.set_append_right _ _ (Nat.le_refl _),Nat.sub_self,List.set_cons_zero]
  have:=setL_append new (old++[v]) rest (by simpa using hl)
  simp only [List.length_append,List.length_singleton,List.append_assoc,List.singleton_append] at this
  rw [this];simp
theorem mid_underlying {P:Program} {t:TypeId} {d:TypeDesc} {h:Hp} {K:TypeDesc→Hp→Prop} (ht:P.underlying t=some d) (hk:K d h):mid P (underlying t) h K:=by
 show mid P (match P.underlying t with | some d => Pure.pure d | none => stuck "no such type") h K
 rw [ht];exact hk
theorem mid_typeInfo {P:Program} {t:TypeId} {i:TypeInfo} {h:Hp} {K:TypeInfo→Hp→Prop} (ht:P.info? t=some i) (hk:K i h):mid P (typeInfo t) h K:=by
 show mid P (match P.info? t with | some d => Pure.pure d | none => stuck "no such type") h K
 rw [ht];exact hk
theorem mid_sizeOf {P:Program} {t:TypeId} {i:TypeInfo} {h:Hp} {K:Nat→Hp→Prop} (ht:P.info? t=some i) (hk:K i.size h):mid P (sizeOf t) h K:=by
 refine mid_bind2 (mid_typeInfo ht ?_);exact hk
theorem mid_zeroValue {P:Program} {t:TypeId} {i:TypeInfo} {z:Value} {h:Hp} {K:Value→Hp→Prop} (ht:P.info? t=some i) (hz:i.zero=some z) (hk:K z h):mid P (zeroValue t) h K:=by
 refine mid_bind2 (mid_typeInfo ht ?_)
 simp only [hz];exact hk
theorem mid_askRoom {P:Program} {n:Nat} {h:Hp} {K:Unit→Hp→Prop} (hk:K () h):mid P (askRoom n) h K:=by
 unfold askRoom;split
 ·exact hk
 ·exact hk
theorem mid_append {P:Program} {t ty e:TypeId} {i:TypeInfo} {z:Value} {size bytes:Nat} (ht:P.underlying t=some (.slice e)) (hi:P.info? e=some i) (hz:i.zero=some z)
  (hsize:i.size=size) (hby:i.bytes=bytes) (hzs:z.cells.size=size)
  {h:Hp} {s:Value} {n:Nat} {cs:List Value} {ob:Option Nat} (hs:Gr h e size s n cs ob)
  {base:Option Addr} {m c:Nat} {news:List Value} (hl:news.length=m*size) (hnews:∀ j v,news[j]? = some v→∃ a,base=some a∧h.cell? (a.add j)=some v) (hnil:base=none→m=0) (h1:news.all Value.oneCell'=true)
  (h63:n+m≤maxLen) (hbytes:(n+m)*bytes≤140737488355328) {K:Value→Hp→Prop}
  (hk:∀ s' h' ob',Gr h' e size s' (n+m) (cs++news) ob'→Turn h h' ob ob'→K s' h') :
  mid P (Builtin.append_ #[t,t] ty #[s,.slice base m c]) h K:=by
 subst hsize;subst hby
 have hfirst:∀ {K':Array Value→Hp→Prop},K' news.toArray h→mid P (Builtin.firstCells i.size m (.slice base m c)) h K':=by
  intro K' hk'
  cases base with
  | none =>
   obtain rfl:=hnil rfl
   obtain rfl:=List.eq_nil_of_length_eq_zero (by simpa using hl:news.length=0)
   exact hk'
  | some a=>exact mid_loadCells _ news hl (fun j v hj=>by obtain ⟨a',e1,e2⟩:=hnews j v hj;cases e1;exact e2) hk'
 have key:∀ (sb:Option Addr) (cap:Nat),s=.slice sb n cap→(∀ {K':Array Value→Hp→Prop},K' cs.toArray h→mid P (Builtin.firstCells i.size n s) h K') →
   (n+m≤cap→mid P (Builtin.firstCells i.size m (.slice base m c)) h fun new h'=>mid P (match sb with
    | some a=>storeCells (a.add (n*i.size)) new.toList >>= fun _=>Pure.pure (.slice sb (n+m) cap)
    | none=>Pure.pure (.slice sb (n+m) cap)) h' K)→mid P (Builtin.append_ #[t,t] ty #[s,.slice base m c]) h K:=by
  intro sb cap hsb hold hroom
  subst hsb
  unfold Builtin.append_
  refine mid_bind2 (mid_underlying ht ?_)
  refine mid_bind2 (mid_sizeOf hi ?_)
  refine mid_bind2 (mid_underlying ht ?_)
  refine mid_bind2 ?_
  refine mid_bind2 ?_
  refine mid_pure ?_
  show mid P (if n+m≤cap then _ else _) h K
  by_cases hle:n+m≤cap
  ·rw [if_pos hle]
   refine mid_bind2 (mid_mono _ ?_ (hroom hle))
   intro new h' hh
   cases sb with
   | none=>exact hh
   | some a=>exact hh
  ·rw [if_neg hle]
   have hlt:cap<n+m:=by omega
   have hno:¬ (((n+m:Nat):Int)>IntKind.i64.max∧((false:Bool)=true∨i.bytes=0)):=by
    intro hh;have:=hh.1;simp only [maxLen] at h63;rw [show IntKind.i64.max=9223372036854775807 from rfl] at this;omega
   have hno2:¬ (Builtin.nextslicecap (n+m) cap*i.bytes>2 ^ 48):=by
    have:=growslice_fits (bytes:=i.bytes) hlt hbytes;omega
   refine mid_bind2 (mid_typeInfo hi ?_)
   rw [if_neg hno]
   refine mid_bind2 (mid_typeInfo hi ?_)
   rw [if_neg hno2]
   refine mid_bind2 ?_
   have key:∀ nc,n+m≤nc→mid P (do
     askRoom (nc*(← typeInfo e).bytes)
     let old ← Builtin.firstCells i.size n (.slice sb n cap)
     let new ← Builtin.firstCells i.size m (.slice base m c)
     let rest:=Builtin.zeroCells (← zeroValue e).cells (nc - (n+m))
     pure (.slice (some (← newRow e (old++new++rest))) (n+m) nc)) h K:=by
    intro nc hnc
    refine mid_bind2 (mid_typeInfo hi ?_)
    refine mid_bind2 (mid_askRoom ?_)
    refine mid_bind2 (hold ?_)
    refine mid_bind2 (hfirst ?_)
    refine mid_bind2 (mid_zeroValue hi hz ?_)
    refine mid_bind2 ?_
    refine mid_bind2 ?_
    intro b hb
    refine hk _ _ (some b) ⟨by rw [List.length_append,hs.1,hl,Nat.add_mul],.inr ⟨b,nc,(Builtin.zeroCells z.cells (nc - (n+m))).toList,rfl,rfl,hnc,by rw [Array.length_toList,size_zeroCells,hzs],?_⟩⟩ (.inr ⟨b,_,rfl,rfl,.inl hb⟩)
    rw [Hp.set_same]
    congr 2
    simp
   show if (Question.appendCap (n+m) cap e).forced=true then _ else _
   split
   ·rename_i hf
    exact absurd hf (by simp [Question.forced])
   ·intro tp
    exact key _ (by simp [Question.cut])
 rcases hs.2 with ⟨rfl,rfl,rfl⟩ | ⟨b,cap,rest,rfl,rfl,hcap,hrest,hb⟩
 ·obtain rfl:=List.eq_nil_of_length_eq_zero (by simpa using hs.1:cs.length=0)
  refine key none 0 rfl (fun hk'=>hk') (fun hle=>hfirst ?_)
  obtain rfl:m=0:=by omega
  obtain rfl:=List.eq_nil_of_length_eq_zero (by simpa using hl:news.length=0)
  exact hk _ _ none Gr.nil (.inl ⟨rfl,rfl⟩)
 ·refine key (some ⟨b,0,none⟩) cap rfl (fun hk'=>mid_loadCells _ cs hs.1 (fun j v hj=>?_) hk') (fun hle=>hfirst ?_)
  ·rw [addr_add,Nat.zero_add]
   exact cell_row hb (by rw [List.getElem?_append_left (List.getElem?_eq_some_iff.1 hj).1];exact hj)
  ·refine mid_bind2 ?_
   rw [addr_add,Nat.zero_add]
   have hlen:news.length≤rest.length:=by rw [hl,hrest];exact Nat.mul_le_mul_right _ (by omega)
   refine mid_storeCells news 0 _ _ hb (by rw [List.length_append,hs.1];omega) h1 ?_
   rw [Nat.add_zero,← hs.1,setL_append _ _ _ hlen]
   refine hk _ _ (some b) ⟨by rw [List.length_append,hs.1,hl,Nat.add_mul],.inr ⟨b,cap,rest.drop news.length,rfl,rfl,hle,by rw [List.length_drop,hrest,hl,← Nat.sub_mul];congr 1;omega,Hp.set_same _ _ _⟩⟩ (.inr ⟨b,_,rfl,rfl,.inr rfl⟩)
end Go.Mid
namespace Go.Mid
open Go Go.RowKit
def Apart (k g:Hp):Prop:=∀ b o,k b=some o→g b=none
structure Turned (h g h' g':Hp):Prop where
 kept:∀ b o,h b=some o→g b=none→h' b=some o
 le:g'.le h'
 new:∀ b o,g' b=some o→g b=none→h b=none
theorem Turned.other {h g h' g' k:Hp} (u:Turned h g h' g') (hk:k.le h) (ha:Apart k g):k.le h'∧Apart k g' :=
 ⟨fun b o e=>u.kept b o (hk b o e) (ha b o e),fun b o e=>by
  cases hg:g' b with
  | none=>rfl
  | some x=>have:=u.new b x hg (ha b o e);rw [hk b o e] at this;cases this⟩
theorem Apart.symm {k g:Hp} (a:Apart k g):Apart g k:=fun b o e=>by
 cases hk:k b with
 | none=>rfl
 | some x=>rw [a b x hk] at e;cases e
theorem Apart.le {k g k':Hp} (a:Apart k g) (h:k'.le k):Apart k' g:=fun b o e=>a b o (h b o e)
theorem Apart.none {g:Hp}:Apart (fun _=>.none) g:=fun b o e=>by cases e
def Hp.emp:Hp:=fun _=>none
theorem Hp.emp_le (h:Hp):Hp.emp.le h:=fun _ _ e=>by cases e
theorem X.frame {P:Program} {f:FuncId} {args:Array Value} {g h:Hp} {K' K:Value→Hp→Prop} (hg:g.le h) (x:X P f args g K') (hK:∀ v g' h',K' v g'→Turned h g h' g'→K v h'):X P f args h K:=by
 refine ⟨fun w0 w s=>?_⟩
 have s':Sat w0 g w:=⟨s.os,s.tape,s.output,s.size,fun b o e=>s.known b o (hg b o e)⟩
 refine (x.go w0 w s').mono fun e w' ⟨v,g',he,hx,hk⟩=>?_
 have hfr:∀ b o,h b=some o→g b=none→w'.heap[b]? = some o∧g' b=none:=fun b o hb hgb=>by
  obtain ⟨e1,e2⟩:=hx.priv b (s.lt hb) hgb
  exact ⟨e1.trans (s.known b o hb),e2⟩
 let h':Hp:=fun b=>match g' b with
  | some o=>some o
  | none=>match g b with
   | some _=>none
   | none=>h b
 have e1:∀ b o,g' b=some o→h' b=some o:=fun b o e=>by simp only [h',e]
 have e2:∀ b,g' b=none→g b=none→h' b=h b:=fun b e f=>by simp only [h',e,f]
 have e3:∀ b o,g' b=none→g b=some o→h' b=none:=fun b o e f=>by simp only [h',e,f]
 have ht:Turned h g h' g':=⟨fun b o hb hgb=>by rw [e2 b (hfr b o hb hgb).2 hgb];exact hb,fun b o hb=>e1 b o hb,fun b o hb hgb=>by
  cases hh:h b with
  | none=>rfl
  | some x=>have:=(hfr b x hh hgb).2;rw [hb] at this;cases this⟩
 refine ⟨v,h',he,⟨⟨hx.sat.os,hx.sat.tape,hx.sat.output,hx.sat.size,fun b o hb=>?_⟩,hx.grow,fun b hlt hb=>?_⟩,hK v g' h' hk ht⟩
 ·cases hg':g' b with
  | some x=>rw [e1 b x hg'] at hb;cases hb;exact hx.sat.known b _ hg'
  | none =>
   cases hgb:g b with
   | some x=>rw [e3 b x hg' hgb] at hb;cases hb
   | none=>rw [e2 b hg' hgb] at hb;exact (hfr b o hb hgb).1
 ·have hgb:g b=none:=by
   cases hgb:g b with
   | none=>rfl
   | some x=>rw [hg b x hgb] at hb;cases hb
  obtain ⟨p1,p2⟩:=hx.priv b hlt hgb
  exact ⟨p1,by rw [e2 b p2 hgb];exact hb⟩
theorem X.pure {P:Program} {f:FuncId} {args:Array Value} {h:Hp} {r:Value} {K:Value→Hp→Prop} (x:X P f args h fun v h'=>v=r∧h.le h') (hK:K r h):X P f args h K :=
 X.forget (x.mono fun v h' ⟨e,hle⟩=>⟨h,hle,by subst e;exact hK⟩)
def news (h h':Hp):Hp:=fun x=>match h x with
 | none=>h' x
 | some _=>none
theorem news_le (h h':Hp):(news h h').le h':=fun x o e=>by
 unfold news at e;split at e
 ·exact e
 ·cases e
theorem news_apart (h h':Hp):Apart h (news h h'):=fun x o e=>by unfold news;rw [e]
theorem news_at {h h':Hp} {x:Nat} (hx:h x=none):news h h' x=h' x:=by unfold news;rw [hx]
theorem new_intro {h:Hp} {o:Obj} {K:Nat→Hp→Prop} (hk:∀ b h',h b=none→h.le h'→h' b=some o→(∀ c,c≠b→h' c=h c)→K b h'):∀ b,h b=none→K b (h.set b o) :=
 fun b hb=>hk b _ hb (Hp.le_set hb) (Hp.set_same _ _ _) fun _ hc=>Hp.set_other _ _ hc
theorem wr_intro {x:Option (Nat×Obj)} {h:Hp} {K:Hp→Prop} {b:Nat} {o:Obj} (hf:x=some (b,o)) (hk:∀ h',h' b=some o→(∀ c,c≠b→h' c=h c)→K h'):∃ bo,x=some bo∧K (h.set bo.1 bo.2) :=
 ⟨(b,o),hf,hk _ (Hp.set_same _ _ _) fun _ hc=>Hp.set_other _ _ hc⟩
theorem io_intro {x:Option (Value×Option (Nat×Obj))} {h:Hp} {K:Value→Hp→Prop} {v:Value} {b:Nat} {o:Obj} (hf:x=some (v,some (b,o))) (hk:∀ h',h' b=some o→(∀ c,c≠b→h' c=h c)→K v h'):ioK x h K:=by
 subst hf
 refine ⟨?_⟩
 exact hk _ (Hp.set_same _ _ _) fun _ hc=>Hp.set_other _ _ hc
theorem io_none {x:Option (Value×Option (Nat×Obj))} {h:Hp} {K:Value→Hp→Prop} {v:Value} (hf:x=some (v,none)) (hk:K v h):ioK x h K:=by
 subst hf
 exact ⟨hk⟩
theorem flat_at {α:Type} {f:α→List Value} {n:Nat} (hf:∀ x,(f x).length=n):∀ (l:List α) (i:Nat) (x:α) (rest:List Value),l[i]? = some x→((l.flatMap f++rest).drop (i*n)).take n=f x∧i*n+n≤(l.flatMap f).length
 | [],i,x,rest,h=>by simp at h
 | y :: l,0,x,rest,h=>by
  simp only [List.getElem?_cons_zero,Option.some.injEq] at h
  subst h
  rw [List.flatMap_cons,Nat.zero_mul,List.drop_zero,List.append_assoc,List.take_left' (hf y)]
  exact ⟨rfl,by rw [List.length_append,hf];omega⟩
 | y :: l,i+1,x,rest,h=>by
  simp only [List.getElem?_cons_succ] at h
  obtain ⟨h1,h2⟩:=flat_at hf l i x rest h
  rw [List.flatMap_cons,List.append_assoc,show (i+1)*n=(f y).length+i*n by rw [hf,Nat.add_mul];omega,List.drop_append]
  rw [List.drop_eq_nil_of_le (by omega),List.nil_append,show (f y).length+i*n - (f y).length=i*n by omega]
  refine ⟨h1,?_⟩
  rw [List.length_append];omega
theorem flat_length {α:Type} {f:α→List Value} {n:Nat} (hf:∀ x,(f x).length=n) (l:List α):(l.flatMap f).length=l.length*n:=by
 induction l with
 | nil=>simp
 | cons x l ih=>rw [List.flatMap_cons,List.length_append,ih,hf,List.length_cons,Nat.add_mul];omega
theorem loadH_agg {P:Program} {t el:TypeId} {n:Nat} (ht:isAggT P t=some true) (hn:sizeT P t=some n) {α:Type} {f:α→List Value} (hf:∀ x,(f x).length=n) {h:Hp} {b:Nat} {l:List α} {rest:List Value} (hb:h b=some (rowO el (l.flatMap f++rest))) {i:Nat} {x:α} (hi:l[i]? = some x) :
  loadH P t h ((⟨b,0,none⟩:Addr).add (i*n))=some (.agg (f x).toArray):=by
 obtain ⟨h1,h2⟩:=flat_at hf l i x rest hi
 rw [addr_add,Nat.zero_add]
 unfold loadH
 rw [ht,hn]
 simp only [hb]
 rw [if_pos (by
  simp only [Option.isNone_none,Bool.true_and,decide_eq_true_eq,List.size_toArray,List.length_append]
  omega)]
 congr 2
 rw [← h1]
 apply Array.ext'
 simp [List.extract_eq_take_drop]
theorem Gr.rdN {P:Program} {t el:TypeId} {n:Nat} (ht:isAggT P t=some true) (hn:sizeT P t=some n) {α:Type} {f:α→List Value} (hf:∀ x,(f x).length=n) {h:Hp} {s:Value} {l:List α} {ob:Option Nat} (g:Gr h el n s l.length (l.flatMap f) ob):Rd P t n h s (l.map fun x=>.agg (f x).toArray):=by
 obtain ⟨hl,⟨rfl,rfl,h0⟩ | ⟨b,cap,rest,rfl,rfl,hcap,hr,hb⟩⟩:=g
 ·obtain rfl:=List.eq_nil_of_length_eq_zero h0
  exact Rd.nil
 ·refine ⟨_,cap,by rw [List.length_map],fun i v hv=>⟨_,rfl,?_⟩⟩
  rw [List.getElem?_map] at hv
  cases hx:l[i]? with
  | none=>rw [hx] at hv;cases hv
  | some x=>rw [hx] at hv;cases hv;exact loadH_agg ht hn hf hb hx
theorem setL_at {A x y B:List Value} (hxy:x.length=y.length):setL (A++(x++B)) A.length y=A++(y++B):=by
 rw [setL_append y A (x++B) (by rw [List.length_append];omega),List.append_assoc,List.drop_left' hxy]
theorem loadH_at {P:Program} {t el:TypeId} {n:Nat} (ht:isAggT P t=some true) (hn:sizeT P t=some n) {h:Hp} {b i:Nat} {A x B:List Value} (hb:h b=some (rowO el (A++(x++B)))) (hA:A.length=i*n) (hx:x.length=n) :
  loadH P t h ((⟨b,0,none⟩:Addr).add (i*n))=some (.agg x.toArray):=by
 rw [addr_add,Nat.zero_add]
 unfold loadH
 rw [ht,hn]
 simp only [hb]
 rw [if_pos (by
  simp only [Option.isNone_none,Bool.true_and,decide_eq_true_eq,List.size_toArray,List.length_append]
  omega)]
 congr 2
 apply Array.ext'
 simp only [Array.toList_extract,List.extract_eq_take_drop]
 rw [List.drop_left' hA,show i*n+n - i*n=n by omega,List.take_left' hx]
theorem storeH_at {P:Program} {t el:TypeId} {n:Nat} (hn:sizeT P t=some n) {h:Hp} {b i:Nat} {A x B:List Value} {z:Value} (hb:h b=some (rowO el (A++(x++B)))) (hA:A.length=i*n) (hx:x.length=n) (hz:z.cells.toList.length=n) (h1:z.cells.toList.all Value.oneCell'=true) :
  storeH P t h ((⟨b,0,none⟩:Addr).add (i*n)) z=some (b,rowO el (A++(z.cells.toList++B))):=by
 rw [addr_add,Nat.zero_add]
 unfold storeH
 rw [hn,hb]
 have e1:z.cells.size=n:=by rw [← Array.length_toList];exact hz
 simp only []
 rw [if_pos (by
  simp only [Option.isNone_none,Bool.and_true,Bool.and_eq_true,beq_iff_eq,decide_eq_true_eq,List.size_toArray,List.length_append,h1,and_true]
  exact ⟨⟨e1,by omega⟩,Nat.le_refl _⟩)]
 rw [← hA,setL_at (by rw [hx,hz])]
theorem loadH_part {P:Program} {t:TypeId} {n:Nat} (ht:isAggT P t=some true) (hn:sizeT P t=some n) {h:Hp} {a:Addr} {cs:Array Value} (hl:loadH P t h a=some (.agg cs)):∃ c el f,h a.block=some (.cells c el f)∧a.spot=none∧a.off+n≤c.size∧cs=c.extract a.off (a.off+n):=by
 unfold loadH at hl
 rw [ht,hn] at hl
 simp only at hl
 split at hl
 ·rename_i n' c el f hn' hb
  cases hn'
  split at hl
  ·rename_i hc
   cases hl
   simp only [Bool.and_eq_true,decide_eq_true_eq,Option.isNone_iff_eq_none] at hc
   exact ⟨c,el,f,hb,hc.1,hc.2,rfl⟩
  ·cases hl
 ·cases hl
theorem loadH_cellOf {P:Program} {t:TypeId} {n:Nat} (ht:isAggT P t=some true) (hn:sizeT P t=some n) {h:Hp} {a:Addr} {cs:Array Value} (hl:loadH P t h a=some (.agg cs)) {k:Nat} {v:Value} (hk:cs[k]? = some v):h.cell? (a.add k)=some v:=by
 obtain ⟨c,el,f,hb,hs,hle,rfl⟩:=loadH_part ht hn hl
 obtain ⟨blk,off,spot⟩:=a
 simp only at hs;subst hs
 rw [addr_add]
 unfold Hp.cell?
 simp only [hb]
 simp only at hle hk
 rw [Array.getElem?_extract] at hk
 split at hk
 ·exact hk
 ·cases hk
theorem loadA0 {P:Program} {t el:TypeId} {n:Nat} (ht:isAggT P t=some true) (hn:sizeT P t=some n) {h:Hp} {b:Nat} {x:List Value} (hb:h b=some (rowO el x)) (hx:x.length=n):loadH P t h ⟨b,0,none⟩=some (.agg x.toArray):=by
 have:=loadH_at (i:=0) (A:=[]) (B:=[]) ht hn (by rw [List.nil_append,List.append_nil];exact hb) (by simp) hx
 rw [Nat.zero_mul,addr_add] at this
 exact this
theorem storeA0 {P:Program} {t el:TypeId} {n:Nat} (hn:sizeT P t=some n) {h:Hp} {b:Nat} {x:List Value} {z:Value} (hb:h b=some (rowO el x)) (hx:x.length=n) (hz:z.cells.toList.length=n) (h1:z.cells.toList.all Value.oneCell'=true):storeH P t h ⟨b,0,none⟩ z=some (b,rowO el z.cells.toList):=by
 have:=storeH_at (i:=0) (A:=[]) (B:=[]) hn (by rw [List.nil_append,List.append_nil];exact hb) (by simp) hx hz h1
 rw [Nat.zero_mul,addr_add,List.nil_append,List.append_nil] at this
 exact this
theorem clrH_at {P:Program} {t el e:TypeId} {z:Value} (ht:P.underlying t=some (.slice e)) (hz:zeroT P e=some z) (h1:z.cells.toList.all Value.oneCell'=true) {h:Hp} {b off n c:Nat} {A x B:List Value} (hb:h b=some (rowO el (A++(x++B)))) (hA:A.length=off) (hx:x.length=n*z.cells.size) (hn:n≠0) :
  ∃ Z:List Value,Z.length=x.length∧clrH P t h (.slice (some ⟨b,off,none⟩) n c)=some (.tuple #[],some (b,rowO el (A++(Z++B)))):=by
 have hl:(Builtin.zeroCells z.cells n).toList.length=n*z.cells.size:=by rw [Array.length_toList,size_zeroCells]
 refine ⟨(Builtin.zeroCells z.cells n).toList,by rw [hl,hx],?_⟩
 unfold clrH
 rw [ht]
 simp only [hz,hb,if_neg hn]
 have h2:(Builtin.zeroCells z.cells n).toList.all Value.oneCell'=true:=by
  rw [List.all_eq_true] at h1 ⊢
  intro v hv
  refine h1 v ?_
  simp only [Builtin.zeroCells,Array.toList_map,List.mem_map,Array.toList_range,List.mem_range] at hv
  obtain ⟨i,hi,rfl⟩:=hv
  have hpos:0<z.cells.size:=by
   rcases Nat.eq_zero_or_pos z.cells.size with h0 | h0
   ·rw [h0] at hi;omega
   ·exact h0
  have hlt:=Nat.mod_lt i hpos
  rw [getElem!_pos z.cells _ hlt]
  exact Array.mem_toList_iff.2 (Array.getElem_mem hlt)
 rw [if_pos (by
  simp only [Option.isNone_none,Bool.true_and,Bool.and_eq_true,decide_eq_true_eq,List.size_toArray,List.length_append,h2,and_true]
  refine ⟨by omega,Nat.le_refl _⟩)]
 rw [← hA,setL_at (by rw [hl,hx])]
theorem Gr.shape {h:Hp} {el size:Nat} {s:Value} {n:Nat} {cs:List Value} {ob:Option Nat} (g:Gr h el size s n cs ob):∃ a c,s=.slice a n c:=by
 obtain ⟨_,⟨_,e,rfl⟩ | ⟨b,cap,_,_,e,_⟩⟩:=g
 ·exact ⟨none,0,e⟩
 ·exact ⟨_,cap,e⟩
theorem Gr.agree {h h':Hp} {el size:Nat} {s:Value} {n:Nat} {cs:List Value} {ob:Option Nat} (g:Gr h el size s n cs ob) (hh:∀ x,ob=some x→h' x=h x):Gr h' el size s n cs ob:=by
 obtain ⟨h1,h2 | ⟨b,cap,rest,e1,e2,h3,h4,h5⟩⟩:=g
 ·exact ⟨h1,.inl h2⟩
 ·exact ⟨h1,.inr ⟨b,cap,rest,e1,e2,h3,h4,(hh _ e1).trans h5⟩⟩
theorem Gr.off {h:Hp} {el size:Nat} {s:Value} {n:Nat} {cs:List Value} {ob:Option Nat} {m:Nat} {om:Obj} (g:Gr h el size s n cs ob) (hm:h m=some om) (hmo:∀ (el:TypeId) l,om≠rowO el l):∀ x,ob=some x→x≠m:=fun x hx hh=>by
 subst hh
 obtain ⟨_,⟨e,_⟩ | ⟨y,_,_,e,_,_,_,e2⟩⟩:=g
 ·rw [hx] at e;cases e
 ·rw [hx] at e;cases e;rw [hm] at e2;exact hmo _ _ (Option.some.inj e2)
theorem Gr.offR {h:Hp} {el size:Nat} {s:Value} {n:Nat} {cs:List Value} {ob:Option Nat} {m:Nat} {el':TypeId} {l:List Value} (g:Gr h el size s n cs ob) (hm:h m=some (rowO el' l)) (hne:el≠el'):∀ x,ob=some x→x≠m:=fun x hx hh=>by
 subst hh
 obtain ⟨_,⟨e,_⟩ | ⟨y,_,_,e,_,_,_,e2⟩⟩:=g
 ·rw [hx] at e;cases e
 ·rw [hx] at e;cases e;rw [hm] at e2;cases e2;exact hne rfl
theorem appOne {P:Program} {t e:TypeId} {i:TypeInfo} {z:Value} {size bytes:Nat} (ht:P.underlying t=some (.slice e)) (hi:P.info? e=some i) (hz:i.zero=some z) (hsize:i.size=size) (hby:i.bytes=bytes) (hzs:z.cells.size=size) (hb2:bytes≤4096)
  {ρ:Operand→Value} {o:Oper} {a b:Operand} {s:Value} {news:List Value} {h:Hp} {n x c:Nat} {cs:List Value} {ob:Option Nat} {K:Next→Hp→Prop}
  (ho:o.op=.call { callee:=.builtin .append,args:=#[a,b],argTypes:=#[t,t] }) (ha:ρ a=s) (hb:ρ b=.slice (some ⟨x,0,none⟩) 1 c) (hs:Gr h e size s n cs ob) (hx:h x=some (rowO e news)) (hl:news.length=size) (h1:news.all Value.oneCell'=true) (hn:n≤2 ^ 30)
  (hk:∀ s' h' ob',Gr h' e size s' (n+1) (cs++news) ob'→Turn h h' ob ob'→K (.value s') h'):semK P (execOp ρ o) h K:=by
 refine ⟨?_⟩
 have e:execOp ρ o=(Builtin.append_ #[t,t] o.type #[s,.slice (some ⟨x,0,none⟩) 1 c] >>= fun v=>Pure.pure (Next.value v)):=by
  subst ha
  unfold execOp
  simp only [ho]
  simp [resolve,invoke,builtin,hb]
 rw [e]
 refine mid_bind2 ?_
 refine mid_append ht hi hz hsize hby hzs hs (m:=1) (news:=news) (by rw [hl,Nat.one_mul]) (fun j u hj=>⟨_,rfl,?_⟩) (fun hh=>by cases hh) h1 (by simp only [maxLen];omega) ?_ (fun s' h' ob' hg ht=>mid_pure (hk s' h' ob' hg ht))
 ·rw [addr_add,Nat.zero_add]
  exact cell_row hx hj
 ·have:(n+1)*bytes≤(2 ^ 30+1)*4096:=Nat.mul_le_mul (by omega) hb2
  omega
theorem appMany {P:Program} {t e:TypeId} {i:TypeInfo} {z:Value} {size bytes:Nat} (ht:P.underlying t=some (.slice e)) (hi:P.info? e=some i) (hz:i.zero=some z) (hsize:i.size=size) (hby:i.bytes=bytes) (hzs:z.cells.size=size) (hb2:bytes≤4096)
  {ρ:Operand→Value} {o:Oper} {a b:Operand} {s:Value} {news:List Value} {h:Hp} {n m c:Nat} {cs:List Value} {ob:Option Nat} {base:Option Addr} {K:Next→Hp→Prop}
  (ho:o.op=.call { callee:=.builtin .append,args:=#[a,b],argTypes:=#[t,t] }) (ha:ρ a=s) (hb:ρ b=.slice base m c) (hs:Gr h e size s n cs ob) (hl:news.length=m*size) (hx:∀ j v,news[j]? = some v→∃ a,base=some a∧h.cell? (a.add j)=some v) (hnil:base=none→m=0) (h1:news.all Value.oneCell'=true) (hn:n+m≤2 ^ 31)
  (hk:∀ s' h' ob',Gr h' e size s' (n+m) (cs++news) ob'→Turn h h' ob ob'→K (.value s') h'):semK P (execOp ρ o) h K:=by
 refine ⟨?_⟩
 have e:execOp ρ o=(Builtin.append_ #[t,t] o.type #[s,.slice base m c] >>= fun v=>Pure.pure (Next.value v)):=by
  subst ha
  unfold execOp
  simp only [ho]
  simp [resolve,invoke,builtin,hb]
 rw [e]
 refine mid_bind2 ?_
 refine mid_append ht hi hz hsize hby hzs hs (m:=m) (news:=news) hl hx hnil h1 (by simp only [maxLen];omega) ?_ (fun s' h' ob' hg ht=>mid_pure (hk s' h' ob' hg ht))
 have:(n+m)*bytes≤2 ^ 31*4096:=Nat.mul_le_mul hn hb2
 omega
end Go.Mid
