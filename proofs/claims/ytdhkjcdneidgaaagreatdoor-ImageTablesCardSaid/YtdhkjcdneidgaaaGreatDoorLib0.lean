/-
  What every text over a seat's program begins with.
-/
import Derived.Test.YtdhkjcdneidgaaaGreatDoorMidQ
import Derived.ChangeArms
import Derived.Below
import Derived.WideShapes
import Derived.Laws.Strings
import Derived.Lib.UnsafeStr
import Derived.Sort.Grow
import Derived.Deep.Draws
import Derived.Test.YtdhkjcdneidgaaaGreatDoorProg
import Derived.KernelRfl
namespace Go.Mid
set_option linter.unusedSimpArgs false
set_option linter.unusedVariables false
set_option linter.unusedSimpArgs false
set_option linter.unusedVariables false
open Go Go.RowKit
inductive Sh where
 | int (k:IntKind)
 | bool
 | str
 | struct (fs:List Sh)
 | slice (e:Sh)
 | array (n:Nat) (e:Sh)
mutual
def Sh.n:Sh→Nat
 | .struct fs=>Sh.ns fs
 | .array n e=>n*e.n
 | _=>1
def Sh.ns:List Sh→Nat
 | []=>0
 | s :: r=>s.n+Sh.ns r
end
mutual
def Sh.b:Sh→Nat
 | .int k=>k.bits / 8
 | .bool=>1
 | .str=>16
 | .struct fs=>Sh.bs fs
 | .slice _=>24
 | .array n e=>n*e.b
def Sh.bs:List Sh→Nat
 | []=>0
 | s :: r=>s.b+Sh.bs r
end
mutual
def Sh.ok (P:Program):Sh→TypeId→Bool
 | .int k,t=>match P.underlying t with
  | some (.int k')=>decide (k'=k)
  | _=>false
 | .bool,t=>match P.underlying t with
  | some .bool=>true
  | _=>false
 | .str,t=>match P.underlying t with
  | some .string=>true
  | _=>false
 | .struct fs,t=>match P.underlying t with
  | some (.struct fields)=>Sh.oks P fs fields.toList 0 && (P.cellsOf t==Sh.ns fs)
  | _=>false
 | .slice e,t=>match P.underlying t with
  | some (.slice te)=>Sh.ok P e te && ((P.cellsOf te==e.n) && decide (e.b≤P.bytesOf te))
  | _=>false
 | .array m e,t=>match P.underlying t with
  | some (.array n te)=>(n==m) && (Sh.ok P e te && ((P.cellsOf te==e.n) && (P.cellsOf t==m*e.n)))
  | _=>false
def Sh.oks (P:Program):List Sh→List Field→Nat→Bool
 | [],[],_=>true
 | s :: r,f :: fs,off=>(f.offset==off) && ((P.cellsOf f.type==s.n) && (Sh.ok P s f.type && Sh.oks P r fs (off+s.n)))
 | _,_,_=>false
end
mutual
def Wf (h:Hp):Sh→List Value→Prop
 | .int k,cs=>∃ n,cs=[.int k n]∧(Lit.int k n).wf=true
 | .bool,cs=>∃ b,cs=[.bool b]
 | .str,cs=>∃ s:ByteArray,cs=[.string s]∧s.size≤maxLen
 | .struct fs,cs=>Wfs h fs cs
 | .array n e,cs=>cs.length=n*e.n∧∀ i,i<n→Wf h e ((cs.drop (i*e.n)).take e.n)
 | .slice e,cs=>cs=[.slice none 0 0]∨∃ a len cap,cs=[.slice (some a) len cap]∧len≤cap∧(cap≤maxLen∧len*e.b≤reachBytes)∧∀ i,i<len→∃ es:List Value,es.length=e.n∧(∀ k v,es[k]? = some v→h.cell? (a.add (i*e.n+k))=some v)∧Wf h e es
def Wfs (h:Hp):List Sh→List Value→Prop
 | [],cs=>cs=[]
 | s :: r,cs=>∃ a b,cs=a++b∧a.length=s.n∧Wf h s a∧Wfs h r b
end
theorem mapM_get {α β:Type} {f:α→Option β}:∀ (l:List α) (ys:List β),l.mapM f=some ys→ys.length=l.length∧∀ (k:Nat) (x:α),l[k]? = some x→∃ y,ys[k]? = some y∧f x=some y
 | [],ys,h=>by
  simp at h;subst h
  exact ⟨rfl,fun k x hk=>by simp at hk⟩
 | a :: l,ys,h=>by
  simp only [List.mapM_cons,Option.pure_def,Option.bind_eq_bind,Option.bind_eq_some_iff,Option.some.injEq] at h
  obtain ⟨y,hy,zs,hz,rfl⟩:=h
  obtain ⟨h1,h2⟩:=mapM_get l zs hz
  refine ⟨by simp [h1],fun k x hk=>?_⟩
  cases k with
  | zero=>simp at hk;subst hk;exact ⟨y,rfl,hy⟩
  | succ k=>simpa using h2 k x (by simpa using hk)
theorem whole_cell (w:World) (a:Addr):(whole w).cell? a=w.cell? a:=rfl
theorem add_add' (a:Addr) (m k:Nat):(a.add m).add k=a.add (m+k):=by
 unfold Addr.add
 by_cases hm:m=0
 ·subst hm;simp
 ·by_cases hk:k=0
  ·subst hk;simp [hm]
  ·simp [hm,hk,Nat.add_assoc]
section
variable {H:Type} {enc:TypeId×Value→H} {P:Program} {w:World} {base:Nat} {spare:Nat→Bool} {held:Bool}
omit enc w base spare held in
theorem weights_mem {e:TypeId} {d:DataW H}:∀ {l:List (DataW H)} {n:Nat},d ∈ l→n ∈ d.weights P e→n ∈ DataW.weightsAll P e l
 | [],_,h,_=>by cases h
 | a :: l,n,h,hn=>by
  unfold DataW.weightsAll
  rcases List.mem_cons.1 h with rfl | h
  ·exact List.mem_append_left _ hn
  ·exact List.mem_append_right _ (weights_mem h hn)
omit enc w base spare held in
theorem weights_cons {t:TypeId} {ts:List TypeId} {d:DataW H} {r:List (DataW H)} (h:(DataW.weightsEach P (t :: ts) (d :: r)).all (·≤reachBytes)=true):(∀ n ∈ d.weights P t,n≤reachBytes)∧(DataW.weightsEach P ts r).all (·≤reachBytes)=true:=by
 unfold DataW.weightsEach at h
 rw [List.all_append,Bool.and_eq_true] at h
 exact ⟨fun n hn=>by simpa using List.all_eq_true.1 h.1 n hn,h.2⟩
mutual
theorem wf_of:∀ (s:Sh) (t:TypeId) (fuel:Nat) (cs:List Value) (x:DataW H×List MemPlace),s.ok P t=true→DataW.trod enc P w base spare held fuel t cs=some x→(∀ n ∈ x.1.weights P t,n≤reachBytes)→Wf (whole w) s cs∧cs.length=s.n
 | .int k,t,0,cs,x,_,h,_=>by simp [DataW.trod] at h
 | .int k,t,fuel+1,cs,x,hs,h,_=>by
  unfold Sh.ok at hs
  split at hs
  ·rename_i k' hu
   have hs:=of_decide_eq_true hs
   subst hs
   unfold DataW.trod at h
   rw [hu] at h
   split at h <;> simp_all
   unfold Wf
   exact ⟨⟨_,rfl,h.1.2⟩,rfl⟩
  ·cases hs
 | .bool,t,0,cs,x,_,h,_=>by simp [DataW.trod] at h
 | .bool,t,fuel+1,cs,x,hs,h,_=>by
  unfold Sh.ok at hs
  split at hs
  ·rename_i hu
   unfold DataW.trod at h
   rw [hu] at h
   split at h <;> simp_all
   unfold Wf
   exact ⟨⟨_,rfl⟩,rfl⟩
  ·cases hs
 | .str,t,0,cs,x,_,h,_=>by simp [DataW.trod] at h
 | .str,t,fuel+1,cs,x,hs,h,_=>by
  unfold Sh.ok at hs
  split at hs
  ·rename_i hu
   unfold DataW.trod at h
   rw [hu] at h
   split at h <;> simp_all
   unfold Wf
   exact ⟨⟨_,rfl,h.1⟩,rfl⟩
  ·cases hs
 | .struct fs,t,0,cs,x,_,h,_=>by simp [DataW.trod] at h
 | .struct fs,t,fuel+1,cs,x,hs,h,hz=>by
  unfold Sh.ok at hs
  split at hs
  ·rename_i fields hu
   simp only [Bool.and_eq_true,beq_iff_eq] at hs
   have:cs.length=P.cellsOf t∧∃ xs,(fields.toList.mapM fun f=>DataW.trod enc P w base spare held fuel f.type ((cs.drop f.offset).take (P.cellsOf f.type)))=some xs∧x.1=.agg (xs.map (·.1)):=by
    unfold DataW.trod at h
    rw [hu] at h
    split at h <;> simp_all
    obtain ⟨h1,h2⟩:=h
    obtain ⟨xs,h2,h3⟩:=h2
    exact ⟨xs,h2,by rw [← h3]⟩
   obtain ⟨hl,xs,hx,hx1⟩:=this
   have:=wfs_of fs fields.toList 0 fuel cs xs hs.1 (by rw [hl,hs.2];omega) hx (by
    intro n hn
    refine hz n ?_
    rw [hx1]
    simp only [DataW.weights,hu]
    exact hn)
   rw [List.drop_zero] at this
   exact ⟨by unfold Wf;exact this,by rw [hl,hs.2];simp [Sh.n]⟩
  ·cases hs
 | .array m e,t,0,cs,x,_,h,_=>by simp [DataW.trod] at h
 | .array m e,t,fuel+1,cs,x,hs,h,hz=>by
  unfold Sh.ok at hs
  split at hs
  ·rename_i n te hu
   simp only [Bool.and_eq_true,beq_iff_eq] at hs
   obtain ⟨rfl,h1,h2,h3⟩:=hs
   have:cs.length=P.cellsOf t∧∃ xs,((List.range n).mapM fun i=>DataW.trod enc P w base spare held fuel te ((cs.drop (i*P.cellsOf te)).take (P.cellsOf te)))=some xs∧x.1=.agg (xs.map (·.1)):=by
    unfold DataW.trod at h
    rw [hu] at h
    simp only at h
    split at h
    ·rename_i hl
     obtain ⟨xs,hx,hx2⟩:=Option.map_eq_some_iff.1 h
     exact ⟨hl,xs,hx,by rw [← hx2]⟩
    ·cases h
   obtain ⟨hl,xs,hx,hx1⟩:=this
   refine ⟨?_,by rw [hl,h3];simp [Sh.n]⟩
   unfold Wf
   refine ⟨by rw [hl,h3],fun i hi=>?_⟩
   obtain ⟨g1,g2⟩:=mapM_get _ _ hx
   obtain ⟨y,g3,g4⟩:=g2 i i (by rw [List.getElem?_range hi])
   have:=(wf_of e te fuel _ y h1 g4 (fun n hn=>by
    refine hz n ?_
    rw [hx1]
    simp only [DataW.weights,hu]
    exact weights_mem (List.mem_map.2 ⟨y,List.mem_of_getElem? g3,rfl⟩) hn)).1
   rw [h2] at this
   exact this
  ·cases hs
 | .slice e,t,fuel,cs,x,hs,h,hz=>by
  unfold Sh.ok at hs
  split at hs
  ·rename_i te hu
   simp only [Bool.and_eq_true,beq_iff_eq,decide_eq_true_eq] at hs
   rcases DataW.trod_slice hu h with ⟨rfl,_⟩ | ⟨a,len,cap,elems,rest,n,_,rfl,hx1,_,h1,h2,h3,h4,_⟩
   ·exact ⟨by unfold Wf;exact .inl rfl,by simp [Sh.n]⟩
   ·refine ⟨?_,by simp [Sh.n]⟩
    unfold Wf
    have hz1:x.1.weights P t=(elems.length+rest.length)*P.bytesOf te :: (DataW.weightsAll P te (elems.map (·.1))++DataW.weightsAll P te (rest.map (·.1))):=by
     rw [hx1]
     simp only [DataW.weights,hu,List.length_map]
    rw [hz1] at hz
    have hzb:len*e.b≤reachBytes:=by
     have h5:=hz _ (List.mem_cons_self ..)
     have h6:len*e.b≤(elems.length+rest.length)*P.bytesOf te:=Nat.mul_le_mul (by omega) hs.2.2
     omega
    refine .inr ⟨a,len,cap,rfl,h1,⟨h2,hzb⟩,fun i hi=>?_⟩
    have h5:=h4 i hi
    have hei:elems[i]? = some elems[i]:=List.getElem?_eq_getElem (by omega)
    rw [hei] at h5
    obtain ⟨es,h6,h7⟩:=Option.bind_eq_some_iff.1 h5
    obtain ⟨h8,h9⟩:=wf_of e te n es _ hs.1 h7 (fun m hm=>hz m (List.mem_cons_of_mem _ (List.mem_append_left _ (weights_mem (List.mem_map.2 ⟨_,List.mem_of_getElem? hei,rfl⟩) hm))))
    refine ⟨es,h9,fun k v hk=>?_,h8⟩
    unfold World.cells? at h6
    split at h6
    ·obtain ⟨g1,g2⟩:=mapM_get _ _ h6
     have hlt:=(List.getElem?_eq_some_iff.1 hk).1
     obtain ⟨y,g3,g4⟩:=g2 k k (by rw [List.getElem?_range (by rw [g1,List.length_range] at hlt;exact hlt)])
     rw [hk] at g3;cases g3
     rw [whole_cell,← add_add',← hs.2.1]
     exact g4
    ·cases h6
  ·cases hs
theorem wfs_of:∀ (ss:List Sh) (fs:List Field) (off fuel:Nat) (cs:List Value) (xs:List (DataW H×List MemPlace)),Sh.oks P ss fs off=true→cs.length=off+Sh.ns ss →
  (fs.mapM fun f=>DataW.trod enc P w base spare held fuel f.type ((cs.drop f.offset).take (P.cellsOf f.type)))=some xs→(∀ n ∈ DataW.weightsEach P (fs.map (·.type)) (xs.map (·.1)),n≤reachBytes)→Wfs (whole w) ss (cs.drop off)
 | [],[],off,fuel,cs,xs,_,hl,_,_=>by
  unfold Wfs
  rw [List.drop_eq_nil_iff]
  simp [Sh.ns] at hl;omega
 | [],_ :: _,_,_,_,_,h,_,_,_=>by simp [Sh.oks] at h
 | _ :: _,[],_,_,_,_,h,_,_,_=>by simp [Sh.oks] at h
 | s :: r,f :: fs,off,fuel,cs,xs,h,hl,hx,hz=>by
  unfold Sh.oks at h
  simp only [Bool.and_eq_true,beq_iff_eq] at h
  obtain ⟨h1,h2,h3,h4⟩:=h
  simp only [List.mapM_cons,Option.pure_def,Option.bind_eq_bind,Option.bind_eq_some_iff,Option.some.injEq] at hx
  obtain ⟨y,hy,ys,hys,rfl⟩:=hx
  simp only [List.map_cons,DataW.weightsEach] at hz
  obtain ⟨g1,g2⟩:=wf_of s f.type fuel _ y h3 hy fun n hn=>hz n (List.mem_append_left _ hn)
  have hl2:cs.length=off+(s.n+Sh.ns r):=by rw [hl];simp [Sh.ns]
  have g3:=wfs_of r fs (off+s.n) fuel cs ys h4 (by omega) hys fun n hn=>hz n (List.mem_append_right _ hn)
  unfold Wfs
  rw [h1,h2] at g1 g2
  refine ⟨(cs.drop off).take s.n,cs.drop (off+s.n),?_,g2,g1,g3⟩
  rw [← List.drop_drop,List.take_append_drop]
end
end
def Sh.v:Sh→List Value→Value
 | .struct _,cs=>.agg cs.toArray
 | .array _ _,cs=>.agg cs.toArray
 | _,cs=>cs.headD undef
theorem okWide_array {P:Program} {w:World} {r:Reach} {base:Nat} {t:TypeId} {v:Value} {n:Nat} {e:TypeId} (ht:P.underlying t=some (.array n e)) (h:Value.okWide P w r base t v):∃ cs,v=.agg cs:=by
 unfold Value.okWide at h
 rw [ht] at h
 obtain ⟨cs,e,_⟩:=h
 exact ⟨cs,e⟩
theorem arg_of {H:Type} {enc:TypeId×Value→H} {P:Program} {w:World} {r:Reach} {b0 base:Nat} {spare:Nat→Bool} {held:Bool} {t:TypeId} {v:Value} {d:DataW H} {ps:List MemPlace} (s:Sh) (hs:s.ok P t=true) (hv:Value.okWide P w r b0 t v) (hd:DataW.Trod enc P w base spare held t v d ps) (hz:∀ n ∈ d.weights P t,n≤reachBytes) :
  ∃ cs,v=s.v cs∧Wf (whole w) s cs∧cs.length=s.n:=by
 obtain ⟨fuel,hf⟩:=hd
 obtain ⟨h1,h2⟩:=wf_of s t fuel _ _ hs hf hz
 refine ⟨v.cells.toList,?_,h1,h2⟩
 cases s with
 | int k =>
  unfold Sh.ok at hs;split at hs
  ·rename_i k' hu;obtain ⟨n,rfl⟩:=WideShapes.okWide_int hu hv;rfl
  ·cases hs
 | bool =>
  unfold Sh.ok at hs;split at hs
  ·rename_i hu;obtain ⟨n,rfl⟩:=WideShapes.okWide_bool hu hv;rfl
  ·cases hs
 | str =>
  unfold Sh.ok at hs;split at hs
  ·rename_i hu;obtain ⟨n,rfl⟩:=WideShapes.okWide_string hu hv;rfl
  ·cases hs
 | struct fs =>
  unfold Sh.ok at hs;split at hs
  ·rename_i hu;obtain ⟨cs,rfl,_⟩:=WideShapes.okWide_struct hu hv;rfl
  ·cases hs
 | slice e =>
  unfold Sh.ok at hs;split at hs
  ·rename_i hu;obtain ⟨a,l,c,rfl⟩:=WideShapes.okWide_slice hu hv;rfl
  ·cases hs
 | array n e =>
  unfold Sh.ok at hs;split at hs
  ·rename_i hu;obtain ⟨cs,rfl⟩:=okWide_array hu hv;rfl
  ·cases hs
theorem loadH_cells {P:Program} {t:TypeId} {n:Nat} (ht:isAggT P t=some true) (hn:sizeT P t=some n) (hpos:0<n) {h:Hp} {a:Addr} {cs:List Value} (hl:cs.length=n) (hc:∀ k v,cs[k]? = some v→h.cell? (a.add k)=some v):loadH P t h a=some (.agg cs.toArray):=by
 have h0:=hc 0 _ (List.getElem?_eq_getElem (by omega))
 have ha:a.add 0=a:=by simp [Addr.add]
 rw [ha] at h0
 obtain ⟨c,el,f,hb⟩:=cell_block h0
 have hsp:a.spot=none:=by
  unfold Hp.cell? at h0
  simp only [hb] at h0
  split at h0
  ·cases h0
  ·rename_i hh;simpa using hh
 obtain ⟨blk,off,spot⟩:=a
 simp only at hsp;subst hsp
 have hcell:∀ k,(hk:k<n)→c[off+k]? = cs[k]? := fun k hk=>by
  have:=hc k _ (List.getElem?_eq_getElem (by omega))
  rw [addr_add] at this
  unfold Hp.cell? at this
  simp only [hb] at this
  rw [List.getElem?_eq_getElem (by omega)]
  simpa using this
 have hsz:off+n≤c.size:=by
  have:=hcell (n - 1) (by omega)
  rw [List.getElem?_eq_getElem (by omega)] at this
  have:=(Array.getElem?_eq_some_iff.1 this).1
  omega
 unfold loadH
 rw [ht,hn]
 simp only [hb]
 rw [if_pos (by simp only [Option.isNone_none,Bool.true_and,decide_eq_true_eq];exact hsz)]
 congr 2
 apply Array.ext_getElem?
 intro k
 rw [Array.getElem?_extract]
 simp only [List.getElem?_toArray]
 split
 ·exact hcell k (by omega)
 ·rw [List.getElem?_eq_none (by omega)]
theorem wf_u64 {n:Int} (h:(Lit.int .u64 n).wf=true):0≤n∧n<2 ^ 64:=by
 simp only [Lit.wf,Bool.and_eq_true,decide_eq_true_eq] at h
 rw [show IntKind.u64.min=0 from rfl,show IntKind.u64.max=18446744073709551615 from rfl] at h
 omega
theorem wf_i64 {n:Int} (h:(Lit.int .i64 n).wf=true) : -9223372036854775808≤n∧n≤9223372036854775807:=by
 simp only [Lit.wf,Bool.and_eq_true,decide_eq_true_eq] at h
 rw [show IntKind.i64.min = -9223372036854775808 from rfl,show IntKind.i64.max=9223372036854775807 from rfl] at h
 omega
theorem list_of {α:Type} {p:Nat→α→Prop}:∀ n:Nat,(∀ i,i<n→∃ x,p i x)→∃ L:List α,L.length=n∧∀ i x,L[i]? = some x→p i x
 | 0,_=>⟨[],rfl,fun i x h=>by simp at h⟩
 | n+1,h=>by
  obtain ⟨L,hl,hp⟩:=list_of n fun i hi=>h i (by omega)
  obtain ⟨x,hx⟩:=h n (by omega)
  refine ⟨L++[x],by simp [hl],fun i y hy=>?_⟩
  rw [List.getElem?_append] at hy
  split at hy
  ·exact hp i y hy
  ·have:i=n:=by
    rcases Nat.lt_or_ge (i - L.length) 1 with h1 | h1
    ·omega
    ·rw [List.getElem?_eq_none (by simpa using h1)] at hy;cases hy
   subst this
   rw [hl,Nat.sub_self] at hy
   cases hy;exact hx
theorem slice_of {α:Type} {ok:α→Prop} {cells:α→List Value} {P:Program} {t:TypeId} {n:Nat} {e:Sh} {h:Hp} {cs:List Value} (ht:isAggT P t=some true) (hn:sizeT P t=some n) (hpos:0<n) (he:e.n=n)
  (hc:∀ es,Wf h e es→∃ x,ok x∧es=cells x) (w:Wf h (.slice e) cs) :
  ∃ (a:Option Addr) (cap:Nat) (L:List α),cs=[.slice a L.length cap]∧(L.length≤maxLen∧L.length*e.b≤reachBytes)∧(∀ x ∈ L,ok x)∧∀ (i:Nat) (x:α),L[i]? = some x→∃ b,a=some b∧loadH P t h (b.add (i*n))=some (.agg (cells x).toArray):=by
 unfold Wf at w
 rcases w with rfl | ⟨a,len,cap,rfl,h1,h2,h3⟩
 ·exact ⟨none,0,[],rfl,⟨Nat.zero_le _,by simp⟩,fun x hx=>(by cases hx),fun i x hx=>by simp at hx⟩
 ·obtain ⟨L,hl,hL⟩:=list_of (p:=fun i x=>ok x∧loadH P t h (a.add (i*n))=some (.agg (cells x).toArray)) len fun i hi=>by
   obtain ⟨es,g1,g2,g3⟩:=h3 i hi
   obtain ⟨x,hx,rfl⟩:=hc es g3
   refine ⟨x,hx,loadH_cells ht hn hpos (by rw [g1,he]) fun k v hk=>?_⟩
   rw [add_add',← he]
   exact g2 k v hk
  subst hl
  refine ⟨some a,cap,L,rfl,⟨by omega,h2.2⟩,fun x hx=>?_,fun i x hx=>⟨a,rfl,(hL i x hx).2⟩⟩
  obtain ⟨i,hi⟩:=List.mem_iff_getElem?.1 hx
  exact (hL i x hi).1
end Go.Mid

namespace Go.Mid
set_option linter.unusedSimpArgs false
set_option linter.unusedVariables false
set_option linter.unusedSimpArgs false
set_option linter.unusedVariables false
open Go Go.RowKit
abbrev byV (b:UInt8):Value:=.int .u8 b.toNat
theorem mid_shape {P:Program} {r:Nat} {c:Array Value} {e:TypeId} {f:Nat×Nat} {h:Hp} {K:Option (TypeId×Nat)→Hp→Prop} (hb:h r=some (.cells c e f)) (hk:K (some (e,c.size)) h):mid P (shape r) h K:=by
 unfold shape
 simp only [mid,hb]
 exact hk
theorem mid_freeze {P:Program} {a:Addr} {n:Nat} {c:Array Value} {e:TypeId} {f:Nat×Nat} {h:Hp} {K:Unit→Hp→Prop} (hn:n≠0) (hb:h a.block=some (.cells c e f)) (hk:K () (h.freeze a n)):mid P (freeze a n) h K:=by
 unfold freeze
 simp only [mid,hb,if_neg hn]
 exact hk
theorem mid_choose {P:Program} {α:Type} {q:Question} {k:Nat→Sem α} {h:Hp} {K:α→Hp→Prop} (hf:q.forced=false) (hk:∀ t,mid P (k (q.cut t)) h K):mid P (.choose q k) h K:=by
 unfold mid
 rw [hf]
 exact hk
theorem mid_choose2 {P:Program} {q:Question} {h:Hp} {K:Nat→Hp→Prop} (hf:q.forced=false) (hk:∀ t,K (q.cut t) h):mid P (choose q) h K:=mid_choose hf hk
theorem toBytes {P:Program} {src dst el:TypeId} {x:Operand} {ρ:Operand→Value} {o:Oper} {l:List UInt8} {h:Hp} {K:Next→Hp→Prop}
  (ho:o.op=.convert src dst x) (hs:P.underlying src=some .string) (hd:P.underlying dst=some (.slice el)) (he:P.underlying el=some (.int .u8)) (hx:ρ x=.string (bs l))
  (hk:∀ b cap h',h b=none→h.le h'→(∀ c,c≠b→h' c=h c)→(∀ i y,l[i]? = some y→h'.cell? ⟨b,i,none⟩=some (byV y))→K (.value (.slice (some ⟨b,0,none⟩) l.length cap)) h'):semK P (execOp ρ o) h K:=by
 refine ⟨?_⟩
 have e:execOp ρ o=(convert src dst (.string (bs l)) >>= fun v=>Pure.pure (Next.value v)):=by
  unfold execOp
  simp only [ho,hx]
 rw [e]
 refine mid_bind2 ?_
 unfold convert
 refine mid_bind2 (mid_underlying hs ?_)
 refine mid_bind2 (mid_underlying hd ?_)
 show mid P (underlying el >>= fun u=>_) h _
 refine mid_bind2 (mid_underlying he ?_)
 show mid P (Conv.stringToBytes el (bs l)) h _
 unfold Conv.stringToBytes
 refine mid_bind2 ?_
 refine mid_choose2 rfl fun t=>?_
 generalize hcap:(Question.appendCap (bs l).size 0 el).cut t=cap
 refine mid_bind2 ?_
 refine mid_bind2 ?_
 intro b hb
 generalize hcs:((bs l).data.map fun b=>Value.int .u8 b.toNat)++Array.replicate (cap - (bs l).size) (Value.int .u8 0)=cs
 refine mid_pure ?_
 refine mid_bind2 ?_
 unfold markStringish
 refine mid_bind2 ?_
 have hat:(h.set b (.cells cs el)) b=some (.cells cs el (0,0)):=Hp.set_same _ _ _
 refine mid_shape hat ?_
 refine mid_freeze (by decide) hat ?_
 refine mid_pure ?_
 have hfz:(h.set b (.cells cs el)).freeze ⟨b,cs.size,none⟩ 1=h.set b (.cells cs el (cs.size,cs.size+1)):=by
  unfold Hp.freeze
  simp only [hat]
  rw [if_pos (by rfl),Hp.set_set]
 show K _ ((h.set b (.cells cs el)).freeze ⟨b,cs.size,none⟩ 1)
 rw [hfz,bs_size]
 refine (hk b cap _ hb (Hp.le_set hb) (fun c hc=>Hp.set_other _ _ hc) fun i y hy=>?_)
 unfold Hp.cell?
 rw [Hp.set_same]
 have hlt:=(List.getElem?_eq_some_iff.1 hy).1
 have:cs[i]? = some (byV y):=by
  subst hcs
  rw [Array.getElem?_append_left (by simpa [bs] using hlt)]
  simp [bs,hy]
 simpa using this
def dig (b:UInt8):Bool:=decide (48≤b.toNat∧b.toNat≤57)
def trimR (l:List UInt8):List UInt8:=(l.reverse.dropWhile dig).reverse
theorem dropW_nil {p:UInt8→Bool}:∀ l:List UInt8,l.dropWhile p=[]↔∀ b ∈ l,p b=true
 | []=>by simp
 | a :: l=>by
  rw [List.dropWhile_cons]
  by_cases h:p a=true
  ·rw [if_pos h,dropW_nil l];simp [h]
  ·rw [if_neg h];simp [h]
theorem trim_nil (l:List UInt8):(trimR l).dropWhile dig=[]↔∀ b ∈ l,dig b=true:=by
 rw [dropW_nil]
 unfold trimR
 constructor
 ·intro h b hb
  rw [← List.reverse_reverse l] at hb
  rw [List.mem_reverse,← List.takeWhile_append_dropWhile (p:=dig) (l:=l.reverse),List.mem_append] at hb
  rcases hb with hb | hb
  ·exact List.all_eq_true.1 (List.all_takeWhile (p:=dig) (l:=l.reverse)) b hb
  ·exact h b (List.mem_reverse.2 hb)
 ·intro h b hb
  exact h b (List.mem_reverse.1 ((List.dropWhile_sublist dig).subset (List.mem_reverse.1 hb)))
def valL (l:List UInt8):Int:=l.foldl (fun n b=>n*10+((b.toNat:Int) - 48)) 0
theorem valL_snoc (l:List UInt8) (b:UInt8):valL (l++[b])=valL l*10+((b.toNat:Int) - 48):=by
 unfold valL;rw [List.foldl_append];rfl
theorem valL_le:∀ (l:List UInt8),(∀ b ∈ l,dig b=true)→0≤valL l∧valL l<10 ^ l.length:=by
 intro l
 induction h:l.length generalizing l with
 | zero=>intro _;obtain rfl:=List.eq_nil_of_length_eq_zero h;exact ⟨by decide,by decide⟩
 | succ n ih =>
  intro hd
  have hne:l≠[]:=fun e=>by subst e;cases h
  obtain ⟨r,b,rfl⟩:∃ r b,l=r++[b]:=⟨l.dropLast,l.getLast hne,(List.dropLast_concat_getLast hne).symm⟩
  have hr:=ih r (by simpa using h) fun x hx=>hd x (by simp [hx])
  have hb:=hd b (by simp)
  unfold dig at hb
  simp only [decide_eq_true_eq] at hb
  rw [valL_snoc,Int.pow_succ]
  omega
end Go.Mid

namespace Go.Mid
set_option linter.unusedSimpArgs false
set_option linter.unusedVariables false
set_option linter.unusedSimpArgs false
set_option linter.unusedVariables false
open Go Go.RowKit
theorem kq {K:Value→Hp→Prop} {v v':Value} {h:Hp} (hk:K v h) (e:v'=v):K v' h:=e ▸ hk
theorem bI {a b:Bool} (h:a=b):Value.bool a=Value.bool b:=by rw [h]
theorem iI {k:IntKind} {a b:Int} (h:a=b):Value.int k a=Value.int k b:=by rw [h]
theorem sI {a b:List UInt8} (h:a=b):Value.string (bs a)=Value.string (bs b):=by rw [h]
theorem aRunK_call {P:Program} {ρ:Operand→Value} {o:Oper} {g:FuncId} {args:List Value} {h:Hp} {K:Value→Hp→Prop} (hA:actOf P ρ o=if callable P g=true then .call g args else .sem (execOp ρ o)) (hc:callable P g=true) (hx:X P g args.toArray h K):aRunK P (actOf P ρ o) h K:=by
 rw [hA,if_pos hc];exact hx
theorem loadC {P:Program} {t el:TypeId} (ht:isAggT P t=some false) {h:Hp} {b i:Nat} {l:List Value} {v:Value} (hb:h b=some (rowO el l)) (hi:l[i]? = some v):loadH P t h ((⟨b,0,none⟩:Addr).add i)=some v:=by
 rw [addr_add,Nat.zero_add,loadH_cell ht]
 exact cell_row hb hi
theorem loadC0 {P:Program} {t el:TypeId} (ht:isAggT P t=some false) {h:Hp} {b:Nat} {l:List Value} {v:Value} (hb:h b=some (rowO el l)) (hi:l[0]? = some v):loadH P t h ⟨b,0,none⟩=some v:=by
 rw [loadH_cell ht]
 exact cell_row hb hi
theorem storeC {P:Program} {t el:TypeId} (ht:sizeT P t=some 1) {h:Hp} {b i:Nat} {l:List Value} {z:Value} (hb:h b=some (rowO el l)) (hi:i<l.length) (hz:z.cells.toList=[z]) (h1:z.oneCell'=true):storeH P t h ((⟨b,0,none⟩:Addr).add i) z=some (b,rowO el (l.set i z)):=by
 rw [addr_add,Nat.zero_add]
 exact storeH_row ht hb hi hz h1
theorem storeC0 {P:Program} {t el:TypeId} (ht:sizeT P t=some 1) {h:Hp} {b:Nat} {l:List Value} {z:Value} (hb:h b=some (rowO el l)) (hi:0<l.length) (hz:z.cells.toList=[z]) (h1:z.oneCell'=true):storeH P t h ⟨b,0,none⟩ z=some (b,rowO el (l.set 0 z)):=storeH_row ht hb hi hz h1
theorem loadC1 {P:Program} {t el:TypeId} (ht:isAggT P t=some false) {h:Hp} {b i:Nat} {l:List Value} {v:Value} (hb:h b=some (rowO el l)) (hi:l[i]? = some v):loadH P t h ((⟨b,0,none⟩:Addr).add (i*1))=some v:=by
 rw [Nat.mul_one];exact loadC ht hb hi
theorem storeC1 {P:Program} {t el:TypeId} (ht:sizeT P t=some 1) {h:Hp} {b i:Nat} {l:List Value} {z:Value} (hb:h b=some (rowO el l)) (hi:i<l.length) (hz:z.cells.toList=[z]) (h1:z.oneCell'=true):storeH P t h ((⟨b,0,none⟩:Addr).add (i*1)) z=some (b,rowO el (l.set i z)):=by
 rw [Nat.mul_one];exact storeC ht hb hi hz h1
def Hp.one (b:Nat) (o:Obj):Hp:=fun x=>if x=b then some o else none
theorem Hp.le_st {h h1 H:Hp} {b:Nat} (hn:h b=none) (hle:h.le h1) (ho:∀ c,c≠b→H c=h1 c):h.le H:=fun x o e=>by
 rw [ho x (Hp.ne hn e)];exact hle x o e
theorem setL_all {a b:List Value} (h:a.length=b.length):setL a 0 b=b:=by
 have:=setL_append b [] a (by omega)
 simpa [List.drop_of_length_le (Nat.le_of_eq h)] using this
theorem ov_eq {x y:Int} {K:Int→Prop} (e:x=y) (h : -9223372036854775808≤y∧y≤9223372036854775807) (hk:K y):ovK .i64 x K:=by
 subst e
 exact ov_i64 h hk
end Go.Mid

namespace Go.Mid
set_option linter.unusedSimpArgs false
set_option linter.unusedVariables false
set_option linter.unusedSimpArgs false
set_option linter.unusedVariables false
open Go Go.RowKit
theorem Ext.ofBelow {w0 w w':World} {h:Hp} (s:Sat w0 h w) (b:Below w.heap.size w w'):Ext w0 h w h w' :=
 ⟨⟨b.os.trans s.os,b.tape.trans s.tape,b.output.trans s.output,Nat.le_trans s.size b.size,fun c o e=>(b.block c (s.lt e)).trans (s.known c o e)⟩,b.size,fun c hc e=>⟨b.block c hc,e⟩⟩
theorem Ext.ofGrow {w0 w:World} {h:Hp} (s:Sat w0 h w) (k:Nat) (os:Array Obj):Ext w0 h w h (Sort.grow (w.drewN k) os):=by
 have hs:(Sort.grow (w.drewN k) os).heap=w.heap++os:=rfl
 have ho:∀ c,c<w.heap.size→(Sort.grow (w.drewN k) os).heap[c]? = w.heap[c]? := fun c hc=>by
  rw [hs,Array.getElem?_append_left hc]
 have hsz:w.heap.size≤(Sort.grow (w.drewN k) os).heap.size:=by rw [hs];simp
 exact ⟨⟨s.os,s.tape,s.output,Nat.le_trans s.size hsz,fun c o e=>(ho c (s.lt e)).trans (s.known c o e)⟩,hsz,fun c hc e=>⟨ho c hc,e⟩⟩
theorem X.ofBelow {P:Program} {f:FuncId} {args:Array Value} {v:Value} {h:Hp} {K:Value→Hp→Prop} (hc:∀ w0 w,Sat w0 h w→Calls P f args w fun e w'=>e=.returned v∧Below w.heap.size w w') (hk:K v h):X P f args h K :=
 ⟨fun w0 w s=>(hc w0 w s).mono fun _ _ ⟨he,hb⟩=>⟨v,h,he,Ext.ofBelow s hb,hk⟩⟩
theorem X.ofGrow {P:Program} {f:FuncId} {args:Array Value} {v:Value} {h:Hp} {K:Value→Hp→Prop} (hc:∀ w0 w,Sat w0 h w→Calls P f args w fun e w'=>e=.returned v∧∃ k os,w'=Sort.grow (w.drewN k) os) (hk:K v h):X P f args h K :=
 ⟨fun w0 w s=>(hc w0 w s).mono fun _ _ ⟨he,k,os,hb⟩=>⟨v,h,he,by rw [hb];exact Ext.ofGrow s k os,hk⟩⟩
theorem YV.mono {P:Program} {y:Value} {args:List Value} {h:Hp} {K K':Value→Hp→Prop} (x:YV P y args h K) (hk:∀ v h',K v h'→K' v h'):YV P y args h K' :=
 ⟨fun ρ o z xs tys h1 h2 h3=>aRun_mono (fun v h' hh=>hk v h' hh) (x.go ρ o z xs tys h1 h2 h3)⟩
end Go.Mid

namespace Go.Proofs.YtdhkjcdneidgaaaGreatDoor
set_option linter.unusedSimpArgs false
set_option linter.unusedVariables false
set_option linter.unusedSimpArgs false
set_option linter.unusedVariables false
open Go Go.Mid Go.RowKit
theorem mixed:Tryz.prog.follows .mixedOrders=true:=by kernel_rfl
abbrev Str:=List UInt8
theorem aggU:isAggT Tryz.prog 25=some false:=by kernel_rfl
theorem sizU:sizeT Tryz.prog 25=some 1:=by kernel_rfl
theorem aggBo:isAggT Tryz.prog 4=some false:=by kernel_rfl
theorem sizBo:sizeT Tryz.prog 4=some 1:=by kernel_rfl
theorem aggIn:isAggT Tryz.prog 3=some false:=by kernel_rfl
theorem sizIn:sizeT Tryz.prog 3=some 1:=by kernel_rfl
theorem aggU8:isAggT Tryz.prog 5=some false:=by kernel_rfl
theorem sizU8:sizeT Tryz.prog 5=some 1:=by kernel_rfl
end Go.Proofs.YtdhkjcdneidgaaaGreatDoor
