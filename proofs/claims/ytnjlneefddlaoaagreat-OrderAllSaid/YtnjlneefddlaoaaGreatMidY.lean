/-
  THE MIDDLE LAYER: arguments as data, part by part.
-/
import Derived.Test.YtnjlneefddlaoaaGreatMidW
set_option linter.unusedSimpArgs false
set_option linter.unusedVariables false
set_option maxHeartbeats 8000000
set_option maxRecDepth 10000
set_option linter.unusedSimpArgs false
set_option linter.unusedVariables false
namespace Go.Mid
open Go Go.RowKit
def Owns (k h:Hp) (el size:Nat) (s:Value) (n:Nat) (cs:List Value):Prop:=∃ ob,Gr h el size s n cs ob∧k.le h∧∀ c,ob=some c→k c=none
theorem Owns.nil {k h:Hp} {el size:Nat} (hle:k.le h):Owns k h el size (.slice none 0 0) 0 []:=⟨none,Gr.nil,hle,fun c e=>by cases e⟩
theorem Owns.new {k h h':Hp} {el size n:Nat} {s:Value} {cs:List Value} {b:Nat} {o:Obj} (w:Owns k h el size s n cs) (hb:h b=none) (hle:h.le h') (hat:h' b=some o):Owns (k.set b o) h' el size s n cs:=by
 obtain ⟨ob,g,hk,ho⟩:=w
 refine ⟨ob,g.le hle,fun c x e=>?_,fun c hc=>?_⟩
 ·by_cases hcb:c=b
  ·subst hcb;rw [Hp.set_same] at e;cases e;exact hat
  ·rw [Hp.set_other _ _ hcb] at e;exact hle _ _ (hk _ _ e)
 ·have:c≠b:=fun e=>by
   subst e
   obtain ⟨_,⟨e,_⟩ | ⟨y,_,_,e,_,_,_,hy⟩⟩:=g
   ·rw [e] at hc;cases hc
   ·rw [e] at hc;cases hc;rw [hy] at hb;cases hb
  rw [Hp.set_other _ _ this];exact ho c hc
theorem Owns.weak {k k2 h:Hp} {el size n:Nat} {s:Value} {cs:List Value} (w:Owns k h el size s n cs) (hle:k2.le k):Owns k2 h el size s n cs:=by
 obtain ⟨ob,g,hk,ho⟩:=w
 exact ⟨ob,g,Hp.le_trans hle hk,fun c hc=>Hp.none_le hle (ho c hc)⟩
theorem Owns.up {k h h':Hp} {el size n:Nat} {s:Value} {cs:List Value} (w:Owns k h el size s n cs) (hle:h.le h'):Owns k h' el size s n cs:=by
 obtain ⟨ob,g,hk,ho⟩:=w
 exact ⟨ob,g.le hle,Hp.le_trans hk hle,ho⟩
theorem Owns.le {k h:Hp} {el size n:Nat} {s:Value} {cs:List Value} (w:Owns k h el size s n cs):k.le h:=by
 obtain ⟨ob,g,hk,ho⟩:=w
 exact hk
theorem Owns.rd {P:Program} {t el:TypeId} {k h:Hp} {s:Value} {n:Nat} {cs:List Value} (ht:isAggT P t=some false) (w:Owns k h el 1 s n cs):Rd P t 1 h s cs:=by
 obtain ⟨ob,g,hk,ho⟩:=w
 exact g.rd ht
theorem Owns.len {k h:Hp} {el size n:Nat} {s:Value} {cs:List Value} (w:Owns k h el size s n cs):cs.length=n*size:=by
 obtain ⟨ob,g,hk,ho⟩:=w
 exact g.1
theorem Owns.val {k h:Hp} {el size n:Nat} {s:Value} {cs:List Value} (w:Owns k h el size s n cs):s.cells.toList=[s]∧s.oneCell'=true:=by
 obtain ⟨_,⟨_,⟨_,rfl,_⟩ | ⟨b,cap,rest,_,rfl,_⟩⟩,_,_⟩:=w <;> exact ⟨rfl,rfl⟩
theorem Owns.shape {k h:Hp} {el size n:Nat} {s:Value} {cs:List Value} (w:Owns k h el size s n cs):∃ a c,s=.slice a n c:=by
 obtain ⟨ob,g,_⟩:=w
 exact g.shape
theorem Owns.row {k h:Hp} {el size n:Nat} {s:Value} {cs:List Value} (w:Owns k h el size s n cs) (hn:0<n):∃ b cap rest,s=.slice (some ⟨b,0,none⟩) n cap∧n≤cap∧h b=some (rowO el (cs++rest))∧k b=none:=by
 obtain ⟨ob,⟨_,⟨_,_,e⟩ | ⟨b,cap,rest,e1,e2,h1,_,h3⟩⟩,_,ho⟩:=w
 ·omega
 ·exact ⟨b,cap,rest,e2,h1,h3,ho b e1⟩
theorem Owns.app1 {P:Program} {t e:TypeId} {i:TypeInfo} {z:Value} {size bytes:Nat} (ht:P.underlying t=some (.slice e)) (hi:P.info? e=some i) (hz:i.zero=some z) (hsize:i.size=size) (hby:i.bytes=bytes) (hzs:z.cells.size=size) (hb2:bytes≤4096)
  {ρ:Operand→Value} {o:Oper} {a b:Operand} {s:Value} {news:List Value} {k h:Hp} {n x c:Nat} {cs:List Value} {K:Next→Hp→Prop}
  (ho:o.op=.call { callee:=.builtin .append,args:=#[a,b],argTypes:=#[t,t] }) (ha:ρ a=s) (hb:ρ b=.slice (some ⟨x,0,none⟩) 1 c) (hs:Owns k h e size s n cs) (hx:h x=some (rowO e news)) (hl:news.length=size) (h1:news.all Value.oneCell'=true) (hn:n≤2 ^ 30)
  (hk:∀ s' h',Owns k h' e size s' (n+1) (cs++news)→K (.value s') h'):semK P (execOp ρ o) h K:=by
 obtain ⟨ob,g,hle,hno⟩:=hs
 refine appOne ht hi hz hsize hby hzs hb2 ho ha hb g hx hl h1 hn fun s' h' ob' hg ht=>?_
 have:=ht.le hle hno
 exact hk s' h' ⟨ob',hg,this.1,this.2⟩
theorem Owns.appN {P:Program} {t e:TypeId} {i:TypeInfo} {z:Value} {size bytes:Nat} (ht:P.underlying t=some (.slice e)) (hi:P.info? e=some i) (hz:i.zero=some z) (hsize:i.size=size) (hby:i.bytes=bytes) (hzs:z.cells.size=size) (hb2:bytes≤4096)
  {ρ:Operand→Value} {o:Oper} {a b:Operand} {s:Value} {news:List Value} {k h:Hp} {n m c:Nat} {cs:List Value} {base:Option Addr} {K:Next→Hp→Prop}
  (ho:o.op=.call { callee:=.builtin .append,args:=#[a,b],argTypes:=#[t,t] }) (ha:ρ a=s) (hb:ρ b=.slice base m c) (hs:Owns k h e size s n cs) (hl:news.length=m*size) (hx:∀ j v,news[j]? = some v→∃ a,base=some a∧h.cell? (a.add j)=some v) (hnil:base=none→m=0) (h1:news.all Value.oneCell'=true) (hn:n+m≤2 ^ 31)
  (hk:∀ s' h',Owns k h' e size s' (n+m) (cs++news)→K (.value s') h'):semK P (execOp ρ o) h K:=by
 obtain ⟨ob,g,hle,hno⟩:=hs
 refine appMany ht hi hz hsize hby hzs hb2 ho ha hb g hl hx hnil h1 hn fun s' h' ob' hg ht=>?_
 have:=ht.le hle hno
 exact hk s' h' ⟨ob',hg,this.1,this.2⟩
theorem Hp.le_set' {k:Hp} {b:Nat} {o:Obj} (hb:k b=none):k.le (k.set b o):=Hp.le_set hb
theorem loadP {P:Program} {t el:TypeId} {n k:Nat} (ht:isAggT P t=some true) (hn:sizeT P t=some n) {h:Hp} {b:Nat} {l x:List Value} (hb:h b=some (rowO el l)) (hx:(l.drop k).take n=x) (hl:x.length=n) (hpos:0<n:=by decide):loadH P t h ((⟨b,0,none⟩:Addr).add k)=some (.agg x.toArray):=by
 rw [addr_add,Nat.zero_add]
 unfold loadH
 rw [ht,hn]
 simp only [hb]
 have:k+n≤l.length:=by
  rw [← hx,List.length_take,List.length_drop] at hl
  omega
 rw [if_pos (by
  simp only [Option.isNone_none,Bool.true_and,decide_eq_true_eq,List.size_toArray]
  omega)]
 congr 2
 apply Array.ext'
 simp only [Array.toList_extract,List.extract_eq_take_drop]
 rw [show k+n - k=n by omega,hx]
theorem loadPA {P:Program} {t el:TypeId} {n k:Nat} {a:Addr} {b:Nat} (ha:a=⟨b,k,none⟩) (ht:isAggT P t=some true) (hn:sizeT P t=some n) {h:Hp} {l x:List Value} (hb:h b=some (rowO el l)) (hx:(l.drop k).take n=x) (hl:x.length=n) (hpos:0<n:=by decide):loadH P t h a=some (.agg x.toArray):=by
 have:=loadP (k:=k) ht hn hb hx hl hpos
 rw [addr_add,Nat.zero_add] at this
 rw [ha];exact this
theorem loadCA {P:Program} {t el:TypeId} {k:Nat} {a:Addr} {b:Nat} (ha:a=⟨b,k,none⟩) (ht:isAggT P t=some false) {h:Hp} {l:List Value} {v:Value} (hb:h b=some (rowO el l)) (hv:l[k]? = some v):loadH P t h a=some v:=by
 rw [ha,loadH_cell ht]
 exact cell_row hb hv
theorem part_agg {P:Program} {t:TypeId} {cs x:List Value} {off k n:Nat} {K:Value→Prop} (ht:isAggT P t=some true) (hn:sizeT P t=some n) (hk:off=k) (hx:(cs.drop k).take n=x) (hl:x.length=n) (hpos:0<n) (hK:K (.agg x.toArray)):partK P t cs.toArray off K:=by
 subst hk
 have hle:off+n≤cs.length:=by
  rw [← hx,List.length_take,List.length_drop] at hl
  omega
 have e:cs.toArray.extract off (off+n)=x.toArray:=by
  apply Array.ext'
  simp only [Array.toList_extract,List.extract_eq_take_drop]
  rw [show off+n - off=n by omega,hx]
 unfold partK
 rw [ht]
 show viaV (partV P t cs.toArray off) K
 have ep:partV P t cs.toArray off=some (.agg x.toArray):=by
  unfold partV
  rw [ht,hn]
  simp only []
  rw [e]
 rw [ep]
 exact hK
theorem must_via {c:Prop} {r:Option Bool} {b:Bool} {K:Bool→Prop} (hc:c) (h:r=some b) (hk:K b):must c (viaB r K):=must.mk hc (by rw [h];exact hk)
theorem loadI {P:Program} {t el:TypeId} (ht:isAggT P t=some false) {h:Hp} {b j:Nat} {i:Int} {l:List Value} {v:Value} (hb:h b=some (rowO el l)) (e:i=j) (hv:l[j]? = some v):loadH P t h ((⟨b,0,none⟩:Addr).add (i.toNat*1))=some v:=by
 subst e
 rw [Int.toNat_natCast]
 exact loadC1 ht hb hv
theorem storeI {P:Program} {t el:TypeId} (ht:sizeT P t=some 1) {h:Hp} {b j:Nat} {i:Int} {l:List Value} {z:Value} (hb:h b=some (rowO el l)) (e:i=j) (hj:j<l.length) (hz:z.cells.toList=[z]) (h1:z.oneCell'=true):storeH P t h ((⟨b,0,none⟩:Addr).add (i.toNat*1)) z=some (b,rowO el (l.set j z)):=by
 subst e
 rw [Int.toNat_natCast]
 exact storeC1 ht hb hj hz h1
end Go.Mid
namespace Go.Mid
open Go Go.RowKit
variable {h:Hp}
theorem wfS {fs:List Sh} {cs:List Value} (w:Wf h (.struct fs) cs):Wfs h fs cs:=by unfold Wf at w;exact w
theorem wfC {s:Sh} {r:List Sh} {cs:List Value} (w:Wfs h (s :: r) cs):∃ a b,cs=a++b∧Wf h s a∧Wfs h r b:=by
 unfold Wfs at w
 obtain ⟨a,b,e,_,h1,h2⟩:=w
 exact ⟨a,b,e,h1,h2⟩
theorem wfN {cs:List Value} (w:Wfs h [] cs):cs=[]:=by unfold Wfs at w;exact w
theorem wfI {cs:List Value} (w:Wf h (.int .i64) cs):∃ n:Int,cs=[.int .i64 n] ∧ -9223372036854775808≤n∧n≤9223372036854775807:=by
 unfold Wf at w
 obtain ⟨n,e,hn⟩:=w
 exact ⟨n,e,wf_i64 hn⟩
theorem wfU {cs:List Value} (w:Wf h (.int .u64) cs):∃ n:Nat,cs=[.int .u64 n]∧n<18446744073709551616:=by
 unfold Wf at w
 obtain ⟨n,e,hn⟩:=w
 have:=wf_u64 hn
 refine ⟨n.toNat,by rw [e,Int.toNat_of_nonneg this.1],by omega⟩
theorem wfB {cs:List Value} (w:Wf h .bool cs):∃ b:Bool,cs=[.bool b]:=by
 unfold Wf at w
 exact w
theorem arr_of {α:Type} {ok:α→Prop} {f:α→List Value} {k:Nat}:∀ (n:Nat) (cs:List Value),cs.length=n*k→(∀ i,i<n→∃ x,ok x∧(cs.drop (i*k)).take k=f x)→∃ l:List α,l.length=n∧(∀ x ∈ l,ok x)∧cs=l.flatMap f
 | 0,cs,hl,_=>⟨[],rfl,fun x hx=>(by cases hx),by
  have:cs.length=0:=by omega
  simpa using this⟩
 | n+1,cs,hl,hp=>by
  obtain ⟨x,hx,e⟩:=hp 0 (by omega)
  rw [Nat.zero_mul,List.drop_zero] at e
  obtain ⟨l,h1,h2,h3⟩:=arr_of (ok:=ok) (f:=f) (k:=k) n (cs.drop k) (by rw [List.length_drop,hl,Nat.succ_mul];omega) (fun i hi=>by
   obtain ⟨y,hy,e⟩:=hp (i+1) (by omega)
   refine ⟨y,hy,?_⟩
   rw [List.drop_drop,← e,Nat.succ_mul,Nat.add_comm])
  refine ⟨x :: l,by simp [h1],fun y hy=>?_,?_⟩
  ·rcases List.mem_cons.1 hy with rfl | hy
   ·exact hx
   ·exact h2 y hy
  ·rw [List.flatMap_cons,← h3,← e,List.take_append_drop]
theorem wfA {α:Type} {ok:α→Prop} {f:α→List Value} {n:Nat} {e:Sh} {cs:List Value} (hf:∀ cs,Wf h e cs→∃ x,ok x∧cs=f x) (w:Wf h (.array n e) cs):∃ l:List α,l.length=n∧(∀ x ∈ l,ok x)∧cs=l.flatMap f:=by
 unfold Wf at w
 exact arr_of n cs w.1 fun i hi=>hf _ (w.2 i hi)
end Go.Mid
