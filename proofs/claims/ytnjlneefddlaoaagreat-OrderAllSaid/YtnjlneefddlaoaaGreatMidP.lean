/-
  THE MIDDLE LAYER, PART TWELVE: rows: what lies in a slice; a slice that grows; append.
-/
import Derived.Test.YtnjlneefddlaoaaGreatMidV
import Derived.Laws.AppendOwn
set_option linter.unusedSimpArgs false
set_option linter.unusedVariables false
set_option maxHeartbeats 8000000
set_option maxRecDepth 10000
set_option linter.unusedSimpArgs false
set_option linter.unusedVariables false
namespace Go.Mid
open Go Go.RowKit
theorem Hp.ne {h:Hp} {b c:Nat} {o:Obj} (hb:h b=none) (hc:h c=some o):c≠b:=fun e=>by rw [e,hb] at hc;cases hc
theorem Hp.le_keep {h0 h:Hp} {b:Nat} {o:Obj} (hle:h0.le h) (hb:h0 b=none):h0.le (h.set b o):=fun c x e=>by
 rw [Hp.set_other _ _ (Hp.ne hb e)];exact hle c x e
theorem Hp.none_le {h0 h:Hp} {b:Nat} (hle:h0.le h) (hb:h b=none):h0 b=none:=by
 cases e:h0 b with
 | none=>rfl
 | some o=>rw [hle b o e] at hb;cases hb
theorem Hp.set_self {h:Hp} {b:Nat} {o:Obj} (hb:h b=some o):h.set b o=h:=by
 funext c;unfold Hp.set;split
 ·rename_i hc;rw [hc,hb]
 ·rfl
theorem Hp.set_set (h:Hp) (b:Nat) (o o':Obj):(h.set b o).set b o'=h.set b o':=by
 funext c;unfold Hp.set;split <;> rfl
abbrev rowO (el:TypeId) (l:List Value):Obj:=.cells l.toArray el (0,0)
theorem cell_row {h:Hp} {b i:Nat} {el:TypeId} {l:List Value} {v:Value} (hb:h b=some (rowO el l)) (hv:l[i]? = some v):h.cell? ⟨b,i,none⟩=some v:=by
 unfold Hp.cell?;simp only [hb];simpa using hv
theorem cell_le {h h':Hp} {a:Addr} {v:Value} (hle:h.le h') (hc:h.cell? a=some v):h'.cell? a=some v:=by
 obtain ⟨c,el,f,hb⟩:=cell_block hc
 unfold Hp.cell? at hc ⊢
 rw [hle _ _ hb]
 rw [hb] at hc
 exact hc
theorem loadH_cell {P:Program} {t:TypeId} (ht:isAggT P t=some false) (h:Hp) (a:Addr):loadH P t h a=h.cell? a:=by unfold loadH;rw [ht]
theorem loadH_le {P:Program} {t:TypeId} {h h':Hp} {a:Addr} {v:Value} (hle:h.le h') (hl:loadH P t h a=some v):loadH P t h' a=some v:=by
 unfold loadH at hl ⊢
 split at hl
 ·split at hl
  ·rename_i n c e f h1 h2
   rw [h1,hle _ _ h2]
   exact hl
  ·cases hl
 ·exact cell_le hle hl
 ·cases hl
theorem storeH_row {P:Program} {t el:TypeId} {h:Hp} {b i:Nat} {l:List Value} {z:Value} (ht:sizeT P t=some 1) (hb:h b=some (rowO el l)) (hi:i<l.length) (hz:z.cells.toList=[z]) (h1:z.oneCell'=true) :
  storeH P t h ⟨b,i,none⟩ z=some (b,rowO el (l.set i z)):=by
 have hs:z.cells.size=1:=by rw [← Array.length_toList,hz];rfl
 have hi':i+1≤l.length:=hi
 unfold storeH
 rw [ht,hb]
 simp [hs,hz,h1,setL,hi']
def Rd (P:Program) (t:TypeId) (n:Nat) (h:Hp) (s:Value) (vs:List Value):Prop :=
 ∃ base cap,s=.slice base vs.length cap∧∀ i v,vs[i]? = some v→∃ a,base=some a∧loadH P t h (a.add (i*n))=some v
theorem Rd.le {P:Program} {t n:Nat} {h h':Hp} {s:Value} {vs:List Value} (r:Rd P t n h s vs) (hle:h.le h'):Rd P t n h' s vs:=by
 obtain ⟨base,cap,e,f⟩:=r
 exact ⟨base,cap,e,fun i v hv=>let ⟨a,e1,e2⟩:=f i v hv;⟨a,e1,loadH_le hle e2⟩⟩
theorem Rd.nil {P:Program} {t n:Nat} {h:Hp}:Rd P t n h (.slice none 0 0) []:=⟨none,0,rfl,fun i v hv=>by simp at hv⟩
theorem Rd.row {P:Program} {t el:TypeId} {h:Hp} {b:Nat} {l r:List Value} {cap:Nat} (ht:isAggT P t=some false) (hb:h b=some (rowO el (l++r))):Rd P t 1 h (.slice (some ⟨b,0,none⟩) l.length cap) l:=by
 refine ⟨_,_,rfl,fun i v hv=>⟨_,rfl,?_⟩⟩
 have hlt:i<l.length:=(List.getElem?_eq_some_iff.1 hv).1
 rw [loadH_cell ht,addr_add,Nat.zero_add,Nat.mul_one]
 exact cell_row hb (by rw [List.getElem?_append_left hlt];exact hv)
def Gr (h:Hp) (el:TypeId) (size:Nat) (s:Value) (n:Nat) (cs:List Value) (ob:Option Nat):Prop :=
 cs.length=n*size∧((ob=none∧s=.slice none 0 0∧n=0)∨∃ b cap rest,ob=some b∧s=.slice (some ⟨b,0,none⟩) n cap∧n≤cap∧rest.length=(cap - n)*size∧h b=some (rowO el (cs++rest)))
theorem Gr.nil {h:Hp} {el size:Nat}:Gr h el size (.slice none 0 0) 0 [] none:=⟨by simp,.inl ⟨rfl,rfl,rfl⟩⟩
def Turn (h h':Hp) (ob ob':Option Nat):Prop:=(h'=h∧ob'=ob)∨∃ b o,ob'=some b∧h'=h.set b o∧(h b=none∨ob=some b)
theorem Turn.le {h0 h h':Hp} {ob ob':Option Nat} (t:Turn h h' ob ob') (hle:h0.le h) (hb:∀ b,ob=some b→h0 b=none):h0.le h'∧∀ b,ob'=some b→h0 b=none:=by
 rcases t with ⟨rfl,rfl⟩ | ⟨b,o,rfl,rfl,hn | hn⟩
 ·exact ⟨hle,hb⟩
 ·have:=Hp.none_le hle hn
  exact ⟨Hp.le_keep hle this,fun c hc=>by cases hc;exact this⟩
 ·have:=hb b hn
  exact ⟨Hp.le_keep hle this,fun c hc=>by cases hc;exact this⟩
theorem Turn.keep {h h':Hp} {ob ob':Option Nat} {c:Nat} {x:Obj} (t:Turn h h' ob ob') (hc:h c=some x) (hb:∀ b,ob=some b→b≠c):h' c=some x∧∀ b,ob'=some b→b≠c:=by
 rcases t with ⟨rfl,rfl⟩ | ⟨b,o,rfl,rfl,hn | hn⟩
 ·exact ⟨hc,hb⟩
 ·have hne:=Hp.ne hn hc
  exact ⟨by rw [Hp.set_other _ _ hne];exact hc,fun d hd=>by cases hd;exact hne.symm⟩
 ·have hne:=hb b hn
  exact ⟨by rw [Hp.set_other _ _ hne.symm];exact hc,fun d hd=>by cases hd;exact hne⟩
theorem Gr.set {h:Hp} {el size:Nat} {s:Value} {n:Nat} {cs:List Value} {ob:Option Nat} {b:Nat} {o:Obj} (g:Gr h el size s n cs ob) (hb:∀ c,ob=some c→c≠b):Gr (h.set b o) el size s n cs ob:=by
 obtain ⟨hl,g | ⟨c,cap,rest,e1,e2,h1,h2,h3⟩⟩:=g
 ·exact ⟨hl,.inl g⟩
 ·exact ⟨hl,.inr ⟨c,cap,rest,e1,e2,h1,h2,by rw [Hp.set_other _ _ (hb c e1)];exact h3⟩⟩
theorem Gr.fresh {h:Hp} {el size:Nat} {s:Value} {n:Nat} {cs:List Value} {ob:Option Nat} {b:Nat} {o:Obj} (g:Gr h el size s n cs ob) (hb:h b=none):Gr (h.set b o) el size s n cs ob:=by
 obtain ⟨hl,g | ⟨c,cap,rest,e1,e2,h1,h2,h3⟩⟩:=g
 ·exact ⟨hl,.inl g⟩
 ·exact ⟨hl,.inr ⟨c,cap,rest,e1,e2,h1,h2,by rw [Hp.set_other _ _ (Hp.ne hb h3)];exact h3⟩⟩
theorem Gr.le {h h':Hp} {el size:Nat} {s:Value} {n:Nat} {cs:List Value} {ob:Option Nat} (g:Gr h el size s n cs ob) (hle:h.le h'):Gr h' el size s n cs ob:=by
 obtain ⟨hl,g | ⟨c,cap,rest,e1,e2,h1,h2,h3⟩⟩:=g
 ·exact ⟨hl,.inl g⟩
 ·exact ⟨hl,.inr ⟨c,cap,rest,e1,e2,h1,h2,hle _ _ h3⟩⟩
theorem Gr.piece {h:Hp} {el size:Nat} {s:Value} {n:Nat} {cs:List Value} {ob:Option Nat} (g:Gr h el size s n cs ob):∃ p:Hp,p.le h∧Gr p el size s n cs ob∧∀ b o,p b=some o→ob=some b:=by
 obtain ⟨hl,g | ⟨c,cap,rest,e1,e2,h1,h2,h3⟩⟩:=g
 ·exact ⟨fun _=>none,fun b o e=>(by cases e),⟨hl,.inl g⟩,fun b o e=>(by cases e)⟩
 ·refine ⟨fun b=>if b=c then h b else none,fun b o e=>?_,⟨hl,.inr ⟨c,cap,rest,e1,e2,h1,h2,?_⟩⟩,fun b o e=>?_⟩
  ·simp only at e
   split at e
   ·exact e
   ·cases e
  ·simp only [if_pos]
   exact h3
  ·simp only at e
   split at e
   ·rename_i hb;rw [e1,hb]
   ·cases e
theorem Gr.rd {P:Program} {t el:TypeId} {h:Hp} {s:Value} {n:Nat} {cs:List Value} {ob:Option Nat} (ht:isAggT P t=some false) (g:Gr h el 1 s n cs ob):Rd P t 1 h s cs:=by
 obtain ⟨hl,⟨rfl,rfl,rfl⟩ | ⟨b,cap,rest,rfl,rfl,hcap,hr,hb⟩⟩:=g
 ·obtain rfl:=List.eq_nil_of_length_eq_zero (by simpa using hl:cs.length=0)
  exact Rd.nil
 ·obtain rfl:cs.length=n:=by omega
  exact Rd.row ht hb
theorem mid_pure {α:Type} {P:Program} {a:α} {h:Hp} {K:α→Hp→Prop} (hk:K a h):mid P (Pure.pure a) h K:=hk
theorem mid_bind2 {α β:Type} {P:Program} {s:Sem α} {f:α→Sem β} {h:Hp} {K:β→Hp→Prop} (hk:mid P s h fun a g=>mid P (f a) g K):mid P (s >>= f) h K:=(mid_bind s f h K).2 hk
theorem mid_loadFrom {P:Program} {h:Hp} {a:Addr} {K:Array Value→Hp→Prop}:∀ (k i:Nat) (acc:Array Value) (cs:List Value),cs.length=k→(∀ j v,cs[j]? = some v→h.cell? (a.add (i+j))=some v) →
  K (acc++cs.toArray) h→mid P (loadCellsFrom a i k acc) h K
 | 0,i,acc,cs,hl,_,hk=>by
  obtain rfl:=List.eq_nil_of_length_eq_zero hl
  show K acc h
  simpa using hk
 | k+1,i,acc,cs,hl,hc,hk=>by
  cases cs with
  | nil=>simp at hl
  | cons v cs =>
   show mid P (load (a.add i) >>= fun v=>loadCellsFrom a (i+1) k (acc.push v)) h K
   refine mid_bind2 ?_
   unfold load
   have h0:h.cell? (a.add i)=some v:=hc 0 v rfl
   simp only [mid,h0]
   refine mid_loadFrom k (i+1) _ cs (by simpa using hl) (fun j u hj=>?_) (by simpa using hk)
   have:=hc (j+1) u (by simpa using hj)
   rwa [show i+1+j=i+(j+1) by omega]
theorem mid_loadCells {P:Program} {h:Hp} {a:Addr} {K:Array Value→Hp→Prop} (k:Nat) (cs:List Value) (hl:cs.length=k) (hc:∀ j v,cs[j]? = some v→h.cell? (a.add j)=some v) (hk:K cs.toArray h):mid P (loadCells a k) h K :=
 mid_loadFrom k 0 #[] cs hl (fun j v hj=>by rw [Nat.zero_add];exact hc j v hj) (by simpa using hk)
theorem mid_storeCells {P:Program} {el:TypeId} {K:Unit→Hp→Prop} {b off:Nat}:∀ (vs:List Value) (i:Nat) (l:List Value) (h:Hp),h b=some (rowO el l)→off+i+vs.length≤l.length→vs.all Value.oneCell'=true →
  K () (h.set b (rowO el (setL l (off+i) vs)))→mid P (storeCells ⟨b,off,none⟩ vs i) h K
 | [],i,l,h,hb,_,_,hk=>by
  show K () h
  have:h.set b (rowO el (setL l (off+i) []))=h:=Hp.set_self hb
  rw [this] at hk
  exact hk
 | v :: vs,i,l,h,hb,hl,h1,hk=>by
  simp only [List.all_cons,Bool.and_eq_true] at h1
  simp only [List.length_cons] at hl
  show v.oneCell'=true∧match h.cell? ((⟨b,off,none⟩:Addr).add i) with
   | some _=>h.frozen? ((⟨b,off,none⟩:Addr).add i)=false∧mid P (storeCells ⟨b,off,none⟩ vs (i+1)) (h.setCell ((⟨b,off,none⟩:Addr).add i) v) K
   | none=>False
  rw [addr_add]
  have hc:h.cell? ⟨b,off+i,none⟩=some l[off+i]:=cell_row hb (by rw [List.getElem?_eq_getElem (by omega)])
  rw [hc]
  refine ⟨h1.1,by unfold Hp.frozen?;simp only [hb];simp,?_⟩
  have hset:h.setCell ⟨b,off+i,none⟩ v=h.set b (rowO el (l.set (off+i) v)):=by
   unfold Hp.setCell;simp only [hb];simp
  rw [hset]
  refine mid_storeCells vs (i+1) (l.set (off+i) v) _ (Hp.set_same _ _ _) (by simp;omega) h1.2 ?_
  rw [Hp.set_set]
  exact hk
theorem setL_append:∀ (new old rest:List Value),new.length≤rest.length→setL (old++rest) old.length new=old++new++rest.drop new.length
 | [],old,rest,_=>by simp [setL]
 | v :: new,old,[],hl=>by simp at hl
 | v :: new,old,r :: rest,hl=>by
  simp only [setL]
  rw [List.set_append_right _ _ (Nat.le_refl _),Nat.sub_self,List.set_cons_zero]
  have:=setL_append new (old++[v]) rest (by simpa using hl)
  simp only [List.length_append,List.length_singleton,List.append_assoc,List.singleton_append] at this
  rw [this];simp
theorem mid_underlying {P:Program} {t:TypeId} {d:TypeDesc} {h:Hp} {K:TypeDesc→Hp→Prop} (ht:P.underlying t=some d) (hk:K d h):mid P (underlying t) h K:=by
 show mid P (match P.underlying t with | some d => Pure.pure d | none => stuck "no such type") h K
 rw [ht];exact hk
theorem mid_typeInfo {P:Program} {t:TypeId} {i:TypeInfo} {h:Hp} {K:TypeInfo→Hp→Prop} (ht:P.info? t=some i) (hk:K i h):mid P (typeInfo t) h K:=by
 show mid P (match P.info? t with | some d => Pure.pure d | none => stuck "no such type") h K
 rw [ht];exact hk
theorem mid_sizeOf {P:Program} {t:TypeId} {i:TypeInfo} {h:Hp} {K:Nat→Hp→Prop} (ht:P.info? t=some i) (hk:K i.size h):mid P (sizeOf t) h K:=by
 refine mid_bind2 (mid_typeInfo ht ?_);exact hk
theorem mid_zeroValue {P:Program} {t:TypeId} {i:TypeInfo} {z:Value} {h:Hp} {K:Value→Hp→Prop} (ht:P.info? t=some i) (hz:i.zero=some z) (hk:K z h):mid P (zeroValue t) h K:=by
 refine mid_bind2 (mid_typeInfo ht ?_)
 simp only [hz];exact hk
theorem mid_askRoom {P:Program} {n:Nat} {h:Hp} {K:Unit→Hp→Prop} (hk:K () h):mid P (askRoom n) h K:=by
 unfold askRoom;split
 ·exact hk
 ·exact hk
theorem mid_append {P:Program} {t ty e:TypeId} {i:TypeInfo} {z:Value} {size bytes:Nat} (ht:P.underlying t=some (.slice e)) (hi:P.info? e=some i) (hz:i.zero=some z)
  (hsize:i.size=size) (hby:i.bytes=bytes) (hzs:z.cells.size=size)
  {h:Hp} {s:Value} {n:Nat} {cs:List Value} {ob:Option Nat} (hs:Gr h e size s n cs ob)
  {base:Option Addr} {m c:Nat} {news:List Value} (hl:news.length=m*size) (hnews:∀ j v,news[j]? = some v→∃ a,base=some a∧h.cell? (a.add j)=some v) (hnil:base=none→m=0) (h1:news.all Value.oneCell'=true)
  (h63:n+m≤maxLen) (hbytes:(n+m)*bytes≤140737488355328) {K:Value→Hp→Prop}
  (hk:∀ s' h' ob',Gr h' e size s' (n+m) (cs++news) ob'→Turn h h' ob ob'→K s' h') :
  mid P (Builtin.append_ #[t,t] ty #[s,.slice base m c]) h K:=by
 subst hsize;subst hby
 have hfirst:∀ {K':Array Value→Hp→Prop},K' news.toArray h→mid P (Builtin.firstCells i.size m (.slice base m c)) h K':=by
  intro K' hk'
  cases base with
  | none =>
   obtain rfl:=hnil rfl
   obtain rfl:=List.eq_nil_of_length_eq_zero (by simpa using hl:news.length=0)
   exact hk'
  | some a=>exact mid_loadCells _ news hl (fun j v hj=>by obtain ⟨a',e1,e2⟩:=hnews j v hj;cases e1;exact e2) hk'
 have key:∀ (sb:Option Addr) (cap:Nat),s=.slice sb n cap→(∀ {K':Array Value→Hp→Prop},K' cs.toArray h→mid P (Builtin.firstCells i.size n s) h K') →
   (n+m≤cap→mid P (Builtin.firstCells i.size m (.slice base m c)) h fun new h'=>mid P (match sb with
    | some a=>storeCells (a.add (n*i.size)) new.toList >>= fun _=>Pure.pure (.slice sb (n+m) cap)
    | none=>Pure.pure (.slice sb (n+m) cap)) h' K)→mid P (Builtin.append_ #[t,t] ty #[s,.slice base m c]) h K:=by
  intro sb cap hsb hold hroom
  subst hsb
  unfold Builtin.append_
  refine mid_bind2 (mid_underlying ht ?_)
  refine mid_bind2 (mid_sizeOf hi ?_)
  refine mid_bind2 (mid_underlying ht ?_)
  refine mid_bind2 ?_
  refine mid_bind2 ?_
  refine mid_pure ?_
  show mid P (if n+m≤cap then _ else _) h K
  by_cases hle:n+m≤cap
  ·rw [if_pos hle]
   refine mid_bind2 (mid_mono _ ?_ (hroom hle))
   intro new h' hh
   cases sb with
   | none=>exact hh
   | some a=>exact hh
  ·rw [if_neg hle]
   have hlt:cap<n+m:=by omega
   have hno:¬ (((n+m:Nat):Int)>IntKind.i64.max∧((false:Bool)=true∨i.bytes=0)):=by
    intro hh;have:=hh.1;simp only [maxLen] at h63;rw [show IntKind.i64.max=9223372036854775807 from rfl] at this;omega
   have hno2:¬ (Builtin.nextslicecap (n+m) cap*i.bytes>2 ^ 48):=by
    have:=growslice_fits (bytes:=i.bytes) hlt hbytes;omega
   refine mid_bind2 (mid_typeInfo hi ?_)
   rw [if_neg hno]
   refine mid_bind2 (mid_typeInfo hi ?_)
   rw [if_neg hno2]
   refine mid_bind2 ?_
   have key:∀ nc,n+m≤nc→mid P (do
     askRoom (nc*(← typeInfo e).bytes)
     let old ← Builtin.firstCells i.size n (.slice sb n cap)
     let new ← Builtin.firstCells i.size m (.slice base m c)
     let rest:=Builtin.zeroCells (← zeroValue e).cells (nc - (n+m))
     pure (.slice (some (← newRow e (old++new++rest))) (n+m) nc)) h K:=by
    intro nc hnc
    refine mid_bind2 (mid_typeInfo hi ?_)
    refine mid_bind2 (mid_askRoom ?_)
    refine mid_bind2 (hold ?_)
    refine mid_bind2 (hfirst ?_)
    refine mid_bind2 (mid_zeroValue hi hz ?_)
    refine mid_bind2 ?_
    refine mid_bind2 ?_
    intro b hb
    refine hk _ _ (some b) ⟨by rw [List.length_append,hs.1,hl,Nat.add_mul],.inr ⟨b,nc,(Builtin.zeroCells z.cells (nc - (n+m))).toList,rfl,rfl,hnc,by rw [Array.length_toList,size_zeroCells,hzs],?_⟩⟩ (.inr ⟨b,_,rfl,rfl,.inl hb⟩)
    rw [Hp.set_same]
    congr 2
    simp
   show if (Question.appendCap (n+m) cap e).forced=true then _ else _
   split
   ·rename_i hf
    exact absurd hf (by simp [Question.forced])
   ·intro tp
    exact key _ (by simp [Question.cut])
 rcases hs.2 with ⟨rfl,rfl,rfl⟩ | ⟨b,cap,rest,rfl,rfl,hcap,hrest,hb⟩
 ·obtain rfl:=List.eq_nil_of_length_eq_zero (by simpa using hs.1:cs.length=0)
  refine key none 0 rfl (fun hk'=>hk') (fun hle=>hfirst ?_)
  obtain rfl:m=0:=by omega
  obtain rfl:=List.eq_nil_of_length_eq_zero (by simpa using hl:news.length=0)
  exact hk _ _ none Gr.nil (.inl ⟨rfl,rfl⟩)
 ·refine key (some ⟨b,0,none⟩) cap rfl (fun hk'=>mid_loadCells _ cs hs.1 (fun j v hj=>?_) hk') (fun hle=>hfirst ?_)
  ·rw [addr_add,Nat.zero_add]
   exact cell_row hb (by rw [List.getElem?_append_left (List.getElem?_eq_some_iff.1 hj).1];exact hj)
  ·refine mid_bind2 ?_
   rw [addr_add,Nat.zero_add]
   have hlen:news.length≤rest.length:=by rw [hl,hrest];exact Nat.mul_le_mul_right _ (by omega)
   refine mid_storeCells news 0 _ _ hb (by rw [List.length_append,hs.1];omega) h1 ?_
   rw [Nat.add_zero,← hs.1,setL_append _ _ _ hlen]
   refine hk _ _ (some b) ⟨by rw [List.length_append,hs.1,hl,Nat.add_mul],.inr ⟨b,cap,rest.drop news.length,rfl,rfl,hle,by rw [List.length_drop,hrest,hl,← Nat.sub_mul];congr 1;omega,Hp.set_same _ _ _⟩⟩ (.inr ⟨b,_,rfl,rfl,.inr rfl⟩)
end Go.Mid
