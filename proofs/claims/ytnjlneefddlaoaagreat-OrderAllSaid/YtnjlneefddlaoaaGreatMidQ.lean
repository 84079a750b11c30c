/-
  THE MIDDLE LAYER: pieces of the heap: a call is made over a piece of what is known, the rest stays; rows of elements of several cells.
-/
import Derived.Test.YtnjlneefddlaoaaGreatMidP
set_option linter.unusedSimpArgs false
set_option linter.unusedVariables false
set_option maxHeartbeats 8000000
set_option maxRecDepth 10000
set_option linter.unusedSimpArgs false
set_option linter.unusedVariables false
namespace Go.Mid
open Go Go.RowKit
def Apart (k g:Hp):Prop:=∀ b o,k b=some o→g b=none
structure Turned (h g h' g':Hp):Prop where
 kept:∀ b o,h b=some o→g b=none→h' b=some o
 le:g'.le h'
 new:∀ b o,g' b=some o→g b=none→h b=none
theorem Apart.symm {k g:Hp} (a:Apart k g):Apart g k:=fun b o e=>by
 cases hk:k b with
 | none=>rfl
 | some x=>rw [a b x hk] at e;cases e
theorem Apart.le {k g k':Hp} (a:Apart k g) (h:k'.le k):Apart k' g:=fun b o e=>a b o (h b o e)
theorem Apart.none {g:Hp}:Apart (fun _=>.none) g:=fun b o e=>by cases e
theorem X.frame {P:Program} {f:FuncId} {args:Array Value} {g h:Hp} {K' K:Value→Hp→Prop} (hg:g.le h) (x:X P f args g K') (hK:∀ v g' h',K' v g'→Turned h g h' g'→K v h'):X P f args h K:=by
 refine ⟨fun w0 w s=>?_⟩
 have s':Sat w0 g w:=⟨s.os,s.tape,s.output,s.size,fun b o e=>s.known b o (hg b o e)⟩
 refine (x.go w0 w s').mono fun e w' ⟨v,g',he,hx,hk⟩=>?_
 have hfr:∀ b o,h b=some o→g b=none→w'.heap[b]? = some o∧g' b=none:=fun b o hb hgb=>by
  obtain ⟨e1,e2⟩:=hx.priv b (s.lt hb) hgb
  exact ⟨e1.trans (s.known b o hb),e2⟩
 let h':Hp:=fun b=>match g' b with
  | some o=>some o
  | none=>match g b with
   | some _=>none
   | none=>h b
 have e1:∀ b o,g' b=some o→h' b=some o:=fun b o e=>by simp only [h',e]
 have e2:∀ b,g' b=none→g b=none→h' b=h b:=fun b e f=>by simp only [h',e,f]
 have e3:∀ b o,g' b=none→g b=some o→h' b=none:=fun b o e f=>by simp only [h',e,f]
 have ht:Turned h g h' g':=⟨fun b o hb hgb=>by rw [e2 b (hfr b o hb hgb).2 hgb];exact hb,fun b o hb=>e1 b o hb,fun b o hb hgb=>by
  cases hh:h b with
  | none=>rfl
  | some x=>have:=(hfr b x hh hgb).2;rw [hb] at this;cases this⟩
 refine ⟨v,h',he,⟨⟨hx.sat.os,hx.sat.tape,hx.sat.output,hx.sat.size,fun b o hb=>?_⟩,hx.grow,fun b hlt hb=>?_⟩,hK v g' h' hk ht⟩
 ·cases hg':g' b with
  | some x=>rw [e1 b x hg'] at hb;cases hb;exact hx.sat.known b _ hg'
  | none =>
   cases hgb:g b with
   | some x=>rw [e3 b x hg' hgb] at hb;cases hb
   | none=>rw [e2 b hg' hgb] at hb;exact (hfr b o hb hgb).1
 ·have hgb:g b=none:=by
   cases hgb:g b with
   | none=>rfl
   | some x=>rw [hg b x hgb] at hb;cases hb
  obtain ⟨p1,p2⟩:=hx.priv b hlt hgb
  exact ⟨p1,by rw [e2 b p2 hgb];exact hb⟩
theorem X.pure {P:Program} {f:FuncId} {args:Array Value} {h:Hp} {r:Value} {K:Value→Hp→Prop} (x:X P f args h fun v h'=>v=r∧h.le h') (hK:K r h):X P f args h K :=
 X.forget (x.mono fun v h' ⟨e,hle⟩=>⟨h,hle,by subst e;exact hK⟩)
def news (h h':Hp):Hp:=fun x=>match h x with
 | none=>h' x
 | some _=>none
theorem new_intro {h:Hp} {o:Obj} {K:Nat→Hp→Prop} (hk:∀ b h',h b=none→h.le h'→h' b=some o→(∀ c,c≠b→h' c=h c)→K b h'):∀ b,h b=none→K b (h.set b o) :=
 fun b hb=>hk b _ hb (Hp.le_set hb) (Hp.set_same _ _ _) fun _ hc=>Hp.set_other _ _ hc
theorem wr_intro {x:Option (Nat×Obj)} {h:Hp} {K:Hp→Prop} {b:Nat} {o:Obj} (hf:x=some (b,o)) (hk:∀ h',h' b=some o→(∀ c,c≠b→h' c=h c)→K h'):∃ bo,x=some bo∧K (h.set bo.1 bo.2) :=
 ⟨(b,o),hf,hk _ (Hp.set_same _ _ _) fun _ hc=>Hp.set_other _ _ hc⟩
theorem io_intro {x:Option (Value×Option (Nat×Obj))} {h:Hp} {K:Value→Hp→Prop} {v:Value} {b:Nat} {o:Obj} (hf:x=some (v,some (b,o))) (hk:∀ h',h' b=some o→(∀ c,c≠b→h' c=h c)→K v h'):ioK x h K:=by
 subst hf
 refine ⟨?_⟩
 exact hk _ (Hp.set_same _ _ _) fun _ hc=>Hp.set_other _ _ hc
theorem flat_at {α:Type} {f:α→List Value} {n:Nat} (hf:∀ x,(f x).length=n):∀ (l:List α) (i:Nat) (x:α) (rest:List Value),l[i]? = some x→((l.flatMap f++rest).drop (i*n)).take n=f x∧i*n+n≤(l.flatMap f).length
 | [],i,x,rest,h=>by simp at h
 | y :: l,0,x,rest,h=>by
  simp only [List.getElem?_cons_zero,Option.some.injEq] at h
  subst h
  rw [List.flatMap_cons,Nat.zero_mul,List.drop_zero,List.append_assoc,List.take_left' (hf y)]
  exact ⟨rfl,by rw [List.length_append,hf];omega⟩
 | y :: l,i+1,x,rest,h=>by
  simp only [List.getElem?_cons_succ] at h
  obtain ⟨h1,h2⟩:=flat_at hf l i x rest h
  rw [List.flatMap_cons,List.append_assoc,show (i+1)*n=(f y).length+i*n by rw [hf,Nat.add_mul];omega,List.drop_append]
  rw [List.drop_eq_nil_of_le (by omega),List.nil_append,show (f y).length+i*n - (f y).length=i*n by omega]
  refine ⟨h1,?_⟩
  rw [List.length_append];omega
theorem loadH_agg {P:Program} {t el:TypeId} {n:Nat} (ht:isAggT P t=some true) (hn:sizeT P t=some n) {α:Type} {f:α→List Value} (hf:∀ x,(f x).length=n) {h:Hp} {b:Nat} {l:List α} {rest:List Value} (hb:h b=some (rowO el (l.flatMap f++rest))) {i:Nat} {x:α} (hi:l[i]? = some x) :
  loadH P t h ((⟨b,0,none⟩:Addr).add (i*n))=some (.agg (f x).toArray):=by
 obtain ⟨h1,h2⟩:=flat_at hf l i x rest hi
 rw [addr_add,Nat.zero_add]
 unfold loadH
 rw [ht,hn]
 simp only [hb]
 rw [if_pos (by
  simp only [Option.isNone_none,Bool.true_and,decide_eq_true_eq,List.size_toArray,List.length_append]
  omega)]
 congr 2
 rw [← h1]
 apply Array.ext'
 simp [List.extract_eq_take_drop]
theorem Gr.rdN {P:Program} {t el:TypeId} {n:Nat} (ht:isAggT P t=some true) (hn:sizeT P t=some n) {α:Type} {f:α→List Value} (hf:∀ x,(f x).length=n) {h:Hp} {s:Value} {l:List α} {ob:Option Nat} (g:Gr h el n s l.length (l.flatMap f) ob):Rd P t n h s (l.map fun x=>.agg (f x).toArray):=by
 obtain ⟨hl,⟨rfl,rfl,h0⟩ | ⟨b,cap,rest,rfl,rfl,hcap,hr,hb⟩⟩:=g
 ·obtain rfl:=List.eq_nil_of_length_eq_zero h0
  exact Rd.nil
 ·refine ⟨_,cap,by rw [List.length_map],fun i v hv=>⟨_,rfl,?_⟩⟩
  rw [List.getElem?_map] at hv
  cases hx:l[i]? with
  | none=>rw [hx] at hv;cases hv
  | some x=>rw [hx] at hv;cases hv;exact loadH_agg ht hn hf hb hx
theorem setL_at {A x y B:List Value} (hxy:x.length=y.length):setL (A++(x++B)) A.length y=A++(y++B):=by
 rw [setL_append y A (x++B) (by rw [List.length_append];omega),List.append_assoc,List.drop_left' hxy]
theorem loadH_at {P:Program} {t el:TypeId} {n:Nat} (ht:isAggT P t=some true) (hn:sizeT P t=some n) {h:Hp} {b i:Nat} {A x B:List Value} (hb:h b=some (rowO el (A++(x++B)))) (hA:A.length=i*n) (hx:x.length=n) :
  loadH P t h ((⟨b,0,none⟩:Addr).add (i*n))=some (.agg x.toArray):=by
 rw [addr_add,Nat.zero_add]
 unfold loadH
 rw [ht,hn]
 simp only [hb]
 rw [if_pos (by
  simp only [Option.isNone_none,Bool.true_and,decide_eq_true_eq,List.size_toArray,List.length_append]
  omega)]
 congr 2
 apply Array.ext'
 simp only [Array.toList_extract,List.extract_eq_take_drop]
 rw [List.drop_left' hA,show i*n+n - i*n=n by omega,List.take_left' hx]
theorem storeH_at {P:Program} {t el:TypeId} {n:Nat} (hn:sizeT P t=some n) {h:Hp} {b i:Nat} {A x B:List Value} {z:Value} (hb:h b=some (rowO el (A++(x++B)))) (hA:A.length=i*n) (hx:x.length=n) (hz:z.cells.toList.length=n) (h1:z.cells.toList.all Value.oneCell'=true) :
  storeH P t h ((⟨b,0,none⟩:Addr).add (i*n)) z=some (b,rowO el (A++(z.cells.toList++B))):=by
 rw [addr_add,Nat.zero_add]
 unfold storeH
 rw [hn,hb]
 have e1:z.cells.size=n:=by rw [← Array.length_toList];exact hz
 simp only []
 rw [if_pos (by
  simp only [Option.isNone_none,Bool.and_true,Bool.and_eq_true,beq_iff_eq,decide_eq_true_eq,List.size_toArray,List.length_append,h1,and_true]
  exact ⟨⟨e1,by omega⟩,Nat.le_refl _⟩)]
 rw [← hA,setL_at (by rw [hx,hz])]
theorem loadH_part {P:Program} {t:TypeId} {n:Nat} (ht:isAggT P t=some true) (hn:sizeT P t=some n) {h:Hp} {a:Addr} {cs:Array Value} (hl:loadH P t h a=some (.agg cs)):∃ c el f,h a.block=some (.cells c el f)∧a.spot=none∧a.off+n≤c.size∧cs=c.extract a.off (a.off+n):=by
 unfold loadH at hl
 rw [ht,hn] at hl
 simp only at hl
 split at hl
 ·rename_i n' c el f hn' hb
  cases hn'
  split at hl
  ·rename_i hc
   cases hl
   simp only [Bool.and_eq_true,decide_eq_true_eq,Option.isNone_iff_eq_none] at hc
   exact ⟨c,el,f,hb,hc.1,hc.2,rfl⟩
  ·cases hl
 ·cases hl
theorem loadH_cellOf {P:Program} {t:TypeId} {n:Nat} (ht:isAggT P t=some true) (hn:sizeT P t=some n) {h:Hp} {a:Addr} {cs:Array Value} (hl:loadH P t h a=some (.agg cs)) {k:Nat} {v:Value} (hk:cs[k]? = some v):h.cell? (a.add k)=some v:=by
 obtain ⟨c,el,f,hb,hs,hle,rfl⟩:=loadH_part ht hn hl
 obtain ⟨blk,off,spot⟩:=a
 simp only at hs;subst hs
 rw [addr_add]
 unfold Hp.cell?
 simp only [hb]
 simp only at hle hk
 rw [Array.getElem?_extract] at hk
 split at hk
 ·exact hk
 ·cases hk
theorem loadH_sub {P:Program} {t t2:TypeId} {n n2:Nat} (ht:isAggT P t=some true) (hn:sizeT P t=some n) (ht2:isAggT P t2=some true) (hn2:sizeT P t2=some n2) {h:Hp} {a:Addr} {cs:Array Value} (hl:loadH P t h a=some (.agg cs)) {k:Nat} (hk:k+n2≤n):loadH P t2 h (a.add k)=some (.agg (cs.extract k (k+n2))):=by
 obtain ⟨c,el,f,hb,hs,hle,rfl⟩:=loadH_part ht hn hl
 obtain ⟨blk,off,spot⟩:=a
 simp only at hs;subst hs
 rw [addr_add]
 unfold loadH
 rw [ht2,hn2]
 simp only at hb hle ⊢
 rw [hb]
 simp only [Option.isNone_none,Bool.true_and]
 rw [if_pos (by simp only [decide_eq_true_eq];omega)]
 congr 2
 rw [Array.extract_extract,Nat.min_eq_left (by omega),Nat.add_assoc]
theorem loadA0 {P:Program} {t el:TypeId} {n:Nat} (ht:isAggT P t=some true) (hn:sizeT P t=some n) {h:Hp} {b:Nat} {x:List Value} (hb:h b=some (rowO el x)) (hx:x.length=n):loadH P t h ⟨b,0,none⟩=some (.agg x.toArray):=by
 have:=loadH_at (i:=0) (A:=[]) (B:=[]) ht hn (by rw [List.nil_append,List.append_nil];exact hb) (by simp) hx
 rw [Nat.zero_mul,addr_add] at this
 exact this
theorem storeA0 {P:Program} {t el:TypeId} {n:Nat} (hn:sizeT P t=some n) {h:Hp} {b:Nat} {x:List Value} {z:Value} (hb:h b=some (rowO el x)) (hx:x.length=n) (hz:z.cells.toList.length=n) (h1:z.cells.toList.all Value.oneCell'=true):storeH P t h ⟨b,0,none⟩ z=some (b,rowO el z.cells.toList):=by
 have:=storeH_at (i:=0) (A:=[]) (B:=[]) hn (by rw [List.nil_append,List.append_nil];exact hb) (by simp) hx hz h1
 rw [Nat.zero_mul,addr_add,List.nil_append,List.append_nil] at this
 exact this
theorem clrH_at {P:Program} {t el e:TypeId} {z:Value} (ht:P.underlying t=some (.slice e)) (hz:zeroT P e=some z) (h1:z.cells.toList.all Value.oneCell'=true) {h:Hp} {b off n c:Nat} {A x B:List Value} (hb:h b=some (rowO el (A++(x++B)))) (hA:A.length=off) (hx:x.length=n*z.cells.size) (hn:n≠0) :
  ∃ Z:List Value,Z.length=x.length∧clrH P t h (.slice (some ⟨b,off,none⟩) n c)=some (.tuple #[],some (b,rowO el (A++(Z++B)))):=by
 have hl:(Builtin.zeroCells z.cells n).toList.length=n*z.cells.size:=by rw [Array.length_toList,size_zeroCells]
 refine ⟨(Builtin.zeroCells z.cells n).toList,by rw [hl,hx],?_⟩
 unfold clrH
 rw [ht]
 simp only [hz,hb,if_neg hn]
 have h2:(Builtin.zeroCells z.cells n).toList.all Value.oneCell'=true:=by
  rw [List.all_eq_true] at h1 ⊢
  intro v hv
  refine h1 v ?_
  simp only [Builtin.zeroCells,Array.toList_map,List.mem_map,Array.toList_range,List.mem_range] at hv
  obtain ⟨i,hi,rfl⟩:=hv
  have hpos:0<z.cells.size:=by
   rcases Nat.eq_zero_or_pos z.cells.size with h0 | h0
   ·rw [h0] at hi;omega
   ·exact h0
  have hlt:=Nat.mod_lt i hpos
  rw [getElem!_pos z.cells _ hlt]
  exact Array.mem_toList_iff.2 (Array.getElem_mem hlt)
 rw [if_pos (by
  simp only [Option.isNone_none,Bool.true_and,Bool.and_eq_true,decide_eq_true_eq,List.size_toArray,List.length_append,h2,and_true]
  refine ⟨by omega,Nat.le_refl _⟩)]
 rw [← hA,setL_at (by rw [hl,hx])]
theorem Gr.shape {h:Hp} {el size:Nat} {s:Value} {n:Nat} {cs:List Value} {ob:Option Nat} (g:Gr h el size s n cs ob):∃ a c,s=.slice a n c:=by
 obtain ⟨_,⟨_,e,rfl⟩ | ⟨b,cap,_,_,e,_⟩⟩:=g
 ·exact ⟨none,0,e⟩
 ·exact ⟨_,cap,e⟩
theorem Gr.agree {h h':Hp} {el size:Nat} {s:Value} {n:Nat} {cs:List Value} {ob:Option Nat} (g:Gr h el size s n cs ob) (hh:∀ x,ob=some x→h' x=h x):Gr h' el size s n cs ob:=by
 obtain ⟨h1,h2 | ⟨b,cap,rest,e1,e2,h3,h4,h5⟩⟩:=g
 ·exact ⟨h1,.inl h2⟩
 ·exact ⟨h1,.inr ⟨b,cap,rest,e1,e2,h3,h4,(hh _ e1).trans h5⟩⟩
theorem Gr.off {h:Hp} {el size:Nat} {s:Value} {n:Nat} {cs:List Value} {ob:Option Nat} {m:Nat} {om:Obj} (g:Gr h el size s n cs ob) (hm:h m=some om) (hmo:∀ (el:TypeId) l,om≠rowO el l):∀ x,ob=some x→x≠m:=fun x hx hh=>by
 subst hh
 obtain ⟨_,⟨e,_⟩ | ⟨y,_,_,e,_,_,_,e2⟩⟩:=g
 ·rw [hx] at e;cases e
 ·rw [hx] at e;cases e;rw [hm] at e2;exact hmo _ _ (Option.some.inj e2)
theorem Gr.offR {h:Hp} {el size:Nat} {s:Value} {n:Nat} {cs:List Value} {ob:Option Nat} {m:Nat} {el':TypeId} {l:List Value} (g:Gr h el size s n cs ob) (hm:h m=some (rowO el' l)) (hne:el≠el'):∀ x,ob=some x→x≠m:=fun x hx hh=>by
 subst hh
 obtain ⟨_,⟨e,_⟩ | ⟨y,_,_,e,_,_,_,e2⟩⟩:=g
 ·rw [hx] at e;cases e
 ·rw [hx] at e;cases e;rw [hm] at e2;cases e2;exact hne rfl
theorem appOne {P:Program} {t e:TypeId} {i:TypeInfo} {z:Value} {size bytes:Nat} (ht:P.underlying t=some (.slice e)) (hi:P.info? e=some i) (hz:i.zero=some z) (hsize:i.size=size) (hby:i.bytes=bytes) (hzs:z.cells.size=size) (hb2:bytes≤4096)
  {ρ:Operand→Value} {o:Oper} {a b:Operand} {s:Value} {news:List Value} {h:Hp} {n x c:Nat} {cs:List Value} {ob:Option Nat} {K:Next→Hp→Prop}
  (ho:o.op=.call { callee:=.builtin .append,args:=#[a,b],argTypes:=#[t,t] }) (ha:ρ a=s) (hb:ρ b=.slice (some ⟨x,0,none⟩) 1 c) (hs:Gr h e size s n cs ob) (hx:h x=some (rowO e news)) (hl:news.length=size) (h1:news.all Value.oneCell'=true) (hn:n≤2 ^ 30)
  (hk:∀ s' h' ob',Gr h' e size s' (n+1) (cs++news) ob'→Turn h h' ob ob'→K (.value s') h'):semK P (execOp ρ o) h K:=by
 refine ⟨?_⟩
 have e:execOp ρ o=(Builtin.append_ #[t,t] o.type #[s,.slice (some ⟨x,0,none⟩) 1 c] >>= fun v=>Pure.pure (Next.value v)):=by
  subst ha
  unfold execOp
  simp only [ho]
  simp [resolve,invoke,builtin,hb]
 rw [e]
 refine mid_bind2 ?_
 refine mid_append ht hi hz hsize hby hzs hs (m:=1) (news:=news) (by rw [hl,Nat.one_mul]) (fun j u hj=>⟨_,rfl,?_⟩) (fun hh=>by cases hh) h1 (by simp only [maxLen];omega) ?_ (fun s' h' ob' hg ht=>mid_pure (hk s' h' ob' hg ht))
 ·rw [addr_add,Nat.zero_add]
  exact cell_row hx hj
 ·have:(n+1)*bytes≤(2 ^ 30+1)*4096:=Nat.mul_le_mul (by omega) hb2
  omega
theorem appMany {P:Program} {t e:TypeId} {i:TypeInfo} {z:Value} {size bytes:Nat} (ht:P.underlying t=some (.slice e)) (hi:P.info? e=some i) (hz:i.zero=some z) (hsize:i.size=size) (hby:i.bytes=bytes) (hzs:z.cells.size=size) (hb2:bytes≤4096)
  {ρ:Operand→Value} {o:Oper} {a b:Operand} {s:Value} {news:List Value} {h:Hp} {n m c:Nat} {cs:List Value} {ob:Option Nat} {base:Option Addr} {K:Next→Hp→Prop}
  (ho:o.op=.call { callee:=.builtin .append,args:=#[a,b],argTypes:=#[t,t] }) (ha:ρ a=s) (hb:ρ b=.slice base m c) (hs:Gr h e size s n cs ob) (hl:news.length=m*size) (hx:∀ j v,news[j]? = some v→∃ a,base=some a∧h.cell? (a.add j)=some v) (hnil:base=none→m=0) (h1:news.all Value.oneCell'=true) (hn:n+m≤2 ^ 31)
  (hk:∀ s' h' ob',Gr h' e size s' (n+m) (cs++news) ob'→Turn h h' ob ob'→K (.value s') h'):semK P (execOp ρ o) h K:=by
 refine ⟨?_⟩
 have e:execOp ρ o=(Builtin.append_ #[t,t] o.type #[s,.slice base m c] >>= fun v=>Pure.pure (Next.value v)):=by
  subst ha
  unfold execOp
  simp only [ho]
  simp [resolve,invoke,builtin,hb]
 rw [e]
 refine mid_bind2 ?_
 refine mid_append ht hi hz hsize hby hzs hs (m:=m) (news:=news) hl hx hnil h1 (by simp only [maxLen];omega) ?_ (fun s' h' ob' hg ht=>mid_pure (hk s' h' ob' hg ht))
 have:(n+m)*bytes≤2 ^ 31*4096:=Nat.mul_le_mul hn hb2
 omega
end Go.Mid
