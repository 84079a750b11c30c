/-
  THE MIDDLE LAYER: arguments that can be read as data: what they hold.
-/
import Derived.Test.YtnjlneefddlaoaaGreatMidQ
import Derived.ChangeArms
import Derived.Below
import Derived.WideShapes
set_option linter.unusedSimpArgs false
set_option linter.unusedVariables false
set_option maxHeartbeats 8000000
set_option maxRecDepth 10000
set_option linter.unusedSimpArgs false
set_option linter.unusedVariables false
namespace Go.Mid
open Go Go.RowKit
inductive Sh where
 | int (k:IntKind)
 | bool
 | str
 | struct (fs:List Sh)
 | slice (e:Sh)
 | array (n:Nat) (e:Sh)
mutual
def Sh.n:Sh→Nat
 | .struct fs=>Sh.ns fs
 | .array n e=>n*e.n
 | _=>1
def Sh.ns:List Sh→Nat
 | []=>0
 | s :: r=>s.n+Sh.ns r
end
mutual
def Sh.b:Sh→Nat
 | .int k=>k.bits / 8
 | .bool=>1
 | .str=>16
 | .struct fs=>Sh.bs fs
 | .slice _=>24
 | .array n e=>n*e.b
def Sh.bs:List Sh→Nat
 | []=>0
 | s :: r=>s.b+Sh.bs r
end
mutual
def Sh.ok (P:Program):Sh→TypeId→Bool
 | .int k,t=>match P.underlying t with
  | some (.int k')=>decide (k'=k)
  | _=>false
 | .bool,t=>match P.underlying t with
  | some .bool=>true
  | _=>false
 | .str,t=>match P.underlying t with
  | some .string=>true
  | _=>false
 | .struct fs,t=>match P.underlying t with
  | some (.struct fields)=>Sh.oks P fs fields.toList 0 && (P.cellsOf t==Sh.ns fs)
  | _=>false
 | .slice e,t=>match P.underlying t with
  | some (.slice te)=>Sh.ok P e te && ((P.cellsOf te==e.n) && decide (e.b≤P.bytesOf te))
  | _=>false
 | .array m e,t=>match P.underlying t with
  | some (.array n te)=>(n==m) && (Sh.ok P e te && ((P.cellsOf te==e.n) && (P.cellsOf t==m*e.n)))
  | _=>false
def Sh.oks (P:Program):List Sh→List Field→Nat→Bool
 | [],[],_=>true
 | s :: r,f :: fs,off=>(f.offset==off) && ((P.cellsOf f.type==s.n) && (Sh.ok P s f.type && Sh.oks P r fs (off+s.n)))
 | _,_,_=>false
end
mutual
def Wf (h:Hp):Sh→List Value→Prop
 | .int k,cs=>∃ n,cs=[.int k n]∧(Lit.int k n).wf=true
 | .bool,cs=>∃ b,cs=[.bool b]
 | .str,cs=>∃ s:ByteArray,cs=[.string s]∧s.size≤maxLen
 | .struct fs,cs=>Wfs h fs cs
 | .array n e,cs=>cs.length=n*e.n∧∀ i,i<n→Wf h e ((cs.drop (i*e.n)).take e.n)
 | .slice e,cs=>cs=[.slice none 0 0]∨∃ a len cap,cs=[.slice (some a) len cap]∧len≤cap∧(cap≤maxLen∧len*e.b≤reachBytes)∧∀ i,i<len→∃ es:List Value,es.length=e.n∧(∀ k v,es[k]? = some v→h.cell? (a.add (i*e.n+k))=some v)∧Wf h e es
def Wfs (h:Hp):List Sh→List Value→Prop
 | [],cs=>cs=[]
 | s :: r,cs=>∃ a b,cs=a++b∧a.length=s.n∧Wf h s a∧Wfs h r b
end
theorem mapM_get {α β:Type} {f:α→Option β}:∀ (l:List α) (ys:List β),l.mapM f=some ys→ys.length=l.length∧∀ (k:Nat) (x:α),l[k]? = some x→∃ y,ys[k]? = some y∧f x=some y
 | [],ys,h=>by
  simp at h;subst h
  exact ⟨rfl,fun k x hk=>by simp at hk⟩
 | a :: l,ys,h=>by
  simp only [List.mapM_cons,Option.pure_def,Option.bind_eq_bind,Option.bind_eq_some_iff,Option.some.injEq] at h
  obtain ⟨y,hy,zs,hz,rfl⟩:=h
  obtain ⟨h1,h2⟩:=mapM_get l zs hz
  refine ⟨by simp [h1],fun k x hk=>?_⟩
  cases k with
  | zero=>simp at hk;subst hk;exact ⟨y,rfl,hy⟩
  | succ k=>simpa using h2 k x (by simpa using hk)
theorem whole_cell (w:World) (a:Addr):(whole w).cell? a=w.cell? a:=rfl
theorem add_add' (a:Addr) (m k:Nat):(a.add m).add k=a.add (m+k):=by
 unfold Addr.add
 by_cases hm:m=0
 ·subst hm;simp
 ·by_cases hk:k=0
  ·subst hk;simp [hm]
  ·simp [hm,hk,Nat.add_assoc]
section
variable {H:Type} {enc:TypeId×Value→H} {P:Program} {w:World} {base:Nat} {spare:Nat→Bool} {held:Bool}
omit enc w base spare held in
theorem weights_mem {e:TypeId} {d:DataW H}:∀ {l:List (DataW H)} {n:Nat},d ∈ l→n ∈ d.weights P e→n ∈ DataW.weightsAll P e l
 | [],_,h,_=>by cases h
 | a :: l,n,h,hn=>by
  unfold DataW.weightsAll
  rcases List.mem_cons.1 h with rfl | h
  ·exact List.mem_append_left _ hn
  ·exact List.mem_append_right _ (weights_mem h hn)
omit enc w base spare held in
theorem weights_cons {t:TypeId} {ts:List TypeId} {d:DataW H} {r:List (DataW H)} (h:(DataW.weightsEach P (t :: ts) (d :: r)).all (·≤reachBytes)=true):(∀ n ∈ d.weights P t,n≤reachBytes)∧(DataW.weightsEach P ts r).all (·≤reachBytes)=true:=by
 unfold DataW.weightsEach at h
 rw [List.all_append,Bool.and_eq_true] at h
 exact ⟨fun n hn=>by simpa using List.all_eq_true.1 h.1 n hn,h.2⟩
mutual
theorem wf_of:∀ (s:Sh) (t:TypeId) (fuel:Nat) (cs:List Value) (x:DataW H×List MemPlace),s.ok P t=true→DataW.trod enc P w base spare held fuel t cs=some x→(∀ n ∈ x.1.weights P t,n≤reachBytes)→Wf (whole w) s cs∧cs.length=s.n
 | .int k,t,0,cs,x,_,h,_=>by simp [DataW.trod] at h
 | .int k,t,fuel+1,cs,x,hs,h,_=>by
  unfold Sh.ok at hs
  split at hs
  ·rename_i k' hu
   have hs:=of_decide_eq_true hs
   subst hs
   unfold DataW.trod at h
   rw [hu] at h
   split at h <;> simp_all
   unfold Wf
   exact ⟨⟨_,rfl,h.1.2⟩,rfl⟩
  ·cases hs
 | .bool,t,0,cs,x,_,h,_=>by simp [DataW.trod] at h
 | .bool,t,fuel+1,cs,x,hs,h,_=>by
  unfold Sh.ok at hs
  split at hs
  ·rename_i hu
   unfold DataW.trod at h
   rw [hu] at h
   split at h <;> simp_all
   unfold Wf
   exact ⟨⟨_,rfl⟩,rfl⟩
  ·cases hs
 | .str,t,0,cs,x,_,h,_=>by simp [DataW.trod] at h
 | .str,t,fuel+1,cs,x,hs,h,_=>by
  unfold Sh.ok at hs
  split at hs
  ·rename_i hu
   unfold DataW.trod at h
   rw [hu] at h
   split at h <;> simp_all
   unfold Wf
   exact ⟨⟨_,rfl,h.1⟩,rfl⟩
  ·cases hs
 | .struct fs,t,0,cs,x,_,h,_=>by simp [DataW.trod] at h
 | .struct fs,t,fuel+1,cs,x,hs,h,hz=>by
  unfold Sh.ok at hs
  split at hs
  ·rename_i fields hu
   simp only [Bool.and_eq_true,beq_iff_eq] at hs
   have:cs.length=P.cellsOf t∧∃ xs,(fields.toList.mapM fun f=>DataW.trod enc P w base spare held fuel f.type ((cs.drop f.offset).take (P.cellsOf f.type)))=some xs∧x.1=.agg (xs.map (·.1)):=by
    unfold DataW.trod at h
    rw [hu] at h
    split at h <;> simp_all
    obtain ⟨h1,h2⟩:=h
    obtain ⟨xs,h2,h3⟩:=h2
    exact ⟨xs,h2,by rw [← h3]⟩
   obtain ⟨hl,xs,hx,hx1⟩:=this
   have:=wfs_of fs fields.toList 0 fuel cs xs hs.1 (by rw [hl,hs.2];omega) hx (by
    intro n hn
    refine hz n ?_
    rw [hx1]
    simp only [DataW.weights,hu]
    exact hn)
   rw [List.drop_zero] at this
   exact ⟨by unfold Wf;exact this,by rw [hl,hs.2];simp [Sh.n]⟩
  ·cases hs
 | .array m e,t,0,cs,x,_,h,_=>by simp [DataW.trod] at h
 | .array m e,t,fuel+1,cs,x,hs,h,hz=>by
  unfold Sh.ok at hs
  split at hs
  ·rename_i n te hu
   simp only [Bool.and_eq_true,beq_iff_eq] at hs
   obtain ⟨rfl,h1,h2,h3⟩:=hs
   have:cs.length=P.cellsOf t∧∃ xs,((List.range n).mapM fun i=>DataW.trod enc P w base spare held fuel te ((cs.drop (i*P.cellsOf te)).take (P.cellsOf te)))=some xs∧x.1=.agg (xs.map (·.1)):=by
    unfold DataW.trod at h
    rw [hu] at h
    simp only at h
    split at h
    ·rename_i hl
     obtain ⟨xs,hx,hx2⟩:=Option.map_eq_some_iff.1 h
     exact ⟨hl,xs,hx,by rw [← hx2]⟩
    ·cases h
   obtain ⟨hl,xs,hx,hx1⟩:=this
   refine ⟨?_,by rw [hl,h3];simp [Sh.n]⟩
   unfold Wf
   refine ⟨by rw [hl,h3],fun i hi=>?_⟩
   obtain ⟨g1,g2⟩:=mapM_get _ _ hx
   obtain ⟨y,g3,g4⟩:=g2 i i (by rw [List.getElem?_range hi])
   have:=(wf_of e te fuel _ y h1 g4 (fun n hn=>by
    refine hz n ?_
    rw [hx1]
    simp only [DataW.weights,hu]
    exact weights_mem (List.mem_map.2 ⟨y,List.mem_of_getElem? g3,rfl⟩) hn)).1
   rw [h2] at this
   exact this
  ·cases hs
 | .slice e,t,fuel,cs,x,hs,h,hz=>by
  unfold Sh.ok at hs
  split at hs
  ·rename_i te hu
   simp only [Bool.and_eq_true,beq_iff_eq,decide_eq_true_eq] at hs
   rcases DataW.trod_slice hu h with ⟨rfl,_⟩ | ⟨a,len,cap,elems,rest,n,_,rfl,hx1,_,h1,h2,h3,h4,_⟩
   ·exact ⟨by unfold Wf;exact .inl rfl,by simp [Sh.n]⟩
   ·refine ⟨?_,by simp [Sh.n]⟩
    unfold Wf
    have hz1:x.1.weights P t=(elems.length+rest.length)*P.bytesOf te :: (DataW.weightsAll P te (elems.map (·.1))++DataW.weightsAll P te (rest.map (·.1))):=by
     rw [hx1]
     simp only [DataW.weights,hu,List.length_map]
    rw [hz1] at hz
    have hzb:len*e.b≤reachBytes:=by
     have h5:=hz _ (List.mem_cons_self ..)
     have h6:len*e.b≤(elems.length+rest.length)*P.bytesOf te:=Nat.mul_le_mul (by omega) hs.2.2
     omega
    refine .inr ⟨a,len,cap,rfl,h1,⟨h2,hzb⟩,fun i hi=>?_⟩
    have h5:=h4 i hi
    have hei:elems[i]? = some elems[i]:=List.getElem?_eq_getElem (by omega)
    rw [hei] at h5
    obtain ⟨es,h6,h7⟩:=Option.bind_eq_some_iff.1 h5
    obtain ⟨h8,h9⟩:=wf_of e te n es _ hs.1 h7 (fun m hm=>hz m (List.mem_cons_of_mem _ (List.mem_append_left _ (weights_mem (List.mem_map.2 ⟨_,List.mem_of_getElem? hei,rfl⟩) hm))))
    refine ⟨es,h9,fun k v hk=>?_,h8⟩
    unfold World.cells? at h6
    split at h6
    ·obtain ⟨g1,g2⟩:=mapM_get _ _ h6
     have hlt:=(List.getElem?_eq_some_iff.1 hk).1
     obtain ⟨y,g3,g4⟩:=g2 k k (by rw [List.getElem?_range (by rw [g1,List.length_range] at hlt;exact hlt)])
     rw [hk] at g3;cases g3
     rw [whole_cell,← add_add',← hs.2.1]
     exact g4
    ·cases h6
  ·cases hs
theorem wfs_of:∀ (ss:List Sh) (fs:List Field) (off fuel:Nat) (cs:List Value) (xs:List (DataW H×List MemPlace)),Sh.oks P ss fs off=true→cs.length=off+Sh.ns ss →
  (fs.mapM fun f=>DataW.trod enc P w base spare held fuel f.type ((cs.drop f.offset).take (P.cellsOf f.type)))=some xs→(∀ n ∈ DataW.weightsEach P (fs.map (·.type)) (xs.map (·.1)),n≤reachBytes)→Wfs (whole w) ss (cs.drop off)
 | [],[],off,fuel,cs,xs,_,hl,_,_=>by
  unfold Wfs
  rw [List.drop_eq_nil_iff]
  simp [Sh.ns] at hl;omega
 | [],_ :: _,_,_,_,_,h,_,_,_=>by simp [Sh.oks] at h
 | _ :: _,[],_,_,_,_,h,_,_,_=>by simp [Sh.oks] at h
 | s :: r,f :: fs,off,fuel,cs,xs,h,hl,hx,hz=>by
  unfold Sh.oks at h
  simp only [Bool.and_eq_true,beq_iff_eq] at h
  obtain ⟨h1,h2,h3,h4⟩:=h
  simp only [List.mapM_cons,Option.pure_def,Option.bind_eq_bind,Option.bind_eq_some_iff,Option.some.injEq] at hx
  obtain ⟨y,hy,ys,hys,rfl⟩:=hx
  simp only [List.map_cons,DataW.weightsEach] at hz
  obtain ⟨g1,g2⟩:=wf_of s f.type fuel _ y h3 hy fun n hn=>hz n (List.mem_append_left _ hn)
  have hl2:cs.length=off+(s.n+Sh.ns r):=by rw [hl];simp [Sh.ns]
  have g3:=wfs_of r fs (off+s.n) fuel cs ys h4 (by omega) hys fun n hn=>hz n (List.mem_append_right _ hn)
  unfold Wfs
  rw [h1,h2] at g1 g2
  refine ⟨(cs.drop off).take s.n,cs.drop (off+s.n),?_,g2,g1,g3⟩
  rw [← List.drop_drop,List.take_append_drop]
end
end
def Sh.v:Sh→List Value→Value
 | .struct _,cs=>.agg cs.toArray
 | .array _ _,cs=>.agg cs.toArray
 | _,cs=>cs.headD undef
theorem okWide_array {P:Program} {w:World} {r:Reach} {base:Nat} {t:TypeId} {v:Value} {n:Nat} {e:TypeId} (ht:P.underlying t=some (.array n e)) (h:Value.okWide P w r base t v):∃ cs,v=.agg cs:=by
 unfold Value.okWide at h
 rw [ht] at h
 obtain ⟨cs,e,_⟩:=h
 exact ⟨cs,e⟩
theorem arg_of {H:Type} {enc:TypeId×Value→H} {P:Program} {w:World} {r:Reach} {b0 base:Nat} {spare:Nat→Bool} {held:Bool} {t:TypeId} {v:Value} {d:DataW H} {ps:List MemPlace} (s:Sh) (hs:s.ok P t=true) (hv:Value.okWide P w r b0 t v) (hd:DataW.Trod enc P w base spare held t v d ps) (hz:∀ n ∈ d.weights P t,n≤reachBytes) :
  ∃ cs,v=s.v cs∧Wf (whole w) s cs∧cs.length=s.n:=by
 obtain ⟨fuel,hf⟩:=hd
 obtain ⟨h1,h2⟩:=wf_of s t fuel _ _ hs hf hz
 refine ⟨v.cells.toList,?_,h1,h2⟩
 cases s with
 | int k =>
  unfold Sh.ok at hs;split at hs
  ·rename_i k' hu;obtain ⟨n,rfl⟩:=WideShapes.okWide_int hu hv;rfl
  ·cases hs
 | bool =>
  unfold Sh.ok at hs;split at hs
  ·rename_i hu;obtain ⟨n,rfl⟩:=WideShapes.okWide_bool hu hv;rfl
  ·cases hs
 | str =>
  unfold Sh.ok at hs;split at hs
  ·rename_i hu;obtain ⟨n,rfl⟩:=WideShapes.okWide_string hu hv;rfl
  ·cases hs
 | struct fs =>
  unfold Sh.ok at hs;split at hs
  ·rename_i hu;obtain ⟨cs,rfl,_⟩:=WideShapes.okWide_struct hu hv;rfl
  ·cases hs
 | slice e =>
  unfold Sh.ok at hs;split at hs
  ·rename_i hu;obtain ⟨a,l,c,rfl⟩:=WideShapes.okWide_slice hu hv;rfl
  ·cases hs
 | array n e =>
  unfold Sh.ok at hs;split at hs
  ·rename_i hu;obtain ⟨cs,rfl⟩:=okWide_array hu hv;rfl
  ·cases hs
theorem loadH_cells {P:Program} {t:TypeId} {n:Nat} (ht:isAggT P t=some true) (hn:sizeT P t=some n) (hpos:0<n) {h:Hp} {a:Addr} {cs:List Value} (hl:cs.length=n) (hc:∀ k v,cs[k]? = some v→h.cell? (a.add k)=some v):loadH P t h a=some (.agg cs.toArray):=by
 have h0:=hc 0 _ (List.getElem?_eq_getElem (by omega))
 have ha:a.add 0=a:=by simp [Addr.add]
 rw [ha] at h0
 obtain ⟨c,el,f,hb⟩:=cell_block h0
 have hsp:a.spot=none:=by
  unfold Hp.cell? at h0
  simp only [hb] at h0
  split at h0
  ·cases h0
  ·rename_i hh;simpa using hh
 obtain ⟨blk,off,spot⟩:=a
 simp only at hsp;subst hsp
 have hcell:∀ k,(hk:k<n)→c[off+k]? = cs[k]? := fun k hk=>by
  have:=hc k _ (List.getElem?_eq_getElem (by omega))
  rw [addr_add] at this
  unfold Hp.cell? at this
  simp only [hb] at this
  rw [List.getElem?_eq_getElem (by omega)]
  simpa using this
 have hsz:off+n≤c.size:=by
  have:=hcell (n - 1) (by omega)
  rw [List.getElem?_eq_getElem (by omega)] at this
  have:=(Array.getElem?_eq_some_iff.1 this).1
  omega
 unfold loadH
 rw [ht,hn]
 simp only [hb]
 rw [if_pos (by simp only [Option.isNone_none,Bool.true_and,decide_eq_true_eq];exact hsz)]
 congr 2
 apply Array.ext_getElem?
 intro k
 rw [Array.getElem?_extract]
 simp only [List.getElem?_toArray]
 split
 ·exact hcell k (by omega)
 ·rw [List.getElem?_eq_none (by omega)]
theorem wf_u64 {n:Int} (h:(Lit.int .u64 n).wf=true):0≤n∧n<2 ^ 64:=by
 simp only [Lit.wf,Bool.and_eq_true,decide_eq_true_eq] at h
 rw [show IntKind.u64.min=0 from rfl,show IntKind.u64.max=18446744073709551615 from rfl] at h
 omega
theorem wf_i64 {n:Int} (h:(Lit.int .i64 n).wf=true) : -9223372036854775808≤n∧n≤9223372036854775807:=by
 simp only [Lit.wf,Bool.and_eq_true,decide_eq_true_eq] at h
 rw [show IntKind.i64.min = -9223372036854775808 from rfl,show IntKind.i64.max=9223372036854775807 from rfl] at h
 omega
theorem list_of {α:Type} {p:Nat→α→Prop}:∀ n:Nat,(∀ i,i<n→∃ x,p i x)→∃ L:List α,L.length=n∧∀ i x,L[i]? = some x→p i x
 | 0,_=>⟨[],rfl,fun i x h=>by simp at h⟩
 | n+1,h=>by
  obtain ⟨L,hl,hp⟩:=list_of n fun i hi=>h i (by omega)
  obtain ⟨x,hx⟩:=h n (by omega)
  refine ⟨L++[x],by simp [hl],fun i y hy=>?_⟩
  rw [List.getElem?_append] at hy
  split at hy
  ·exact hp i y hy
  ·have:i=n:=by
    rcases Nat.lt_or_ge (i - L.length) 1 with h1 | h1
    ·omega
    ·rw [List.getElem?_eq_none (by simpa using h1)] at hy;cases hy
   subst this
   rw [hl,Nat.sub_self] at hy
   cases hy;exact hx
theorem slice_of {α:Type} {ok:α→Prop} {cells:α→List Value} {P:Program} {t:TypeId} {n:Nat} {e:Sh} {h:Hp} {cs:List Value} (ht:isAggT P t=some true) (hn:sizeT P t=some n) (hpos:0<n) (he:e.n=n)
  (hc:∀ es,Wf h e es→∃ x,ok x∧es=cells x) (w:Wf h (.slice e) cs) :
  ∃ (a:Option Addr) (cap:Nat) (L:List α),cs=[.slice a L.length cap]∧(L.length≤maxLen∧L.length*e.b≤reachBytes)∧(∀ x ∈ L,ok x)∧∀ (i:Nat) (x:α),L[i]? = some x→∃ b,a=some b∧loadH P t h (b.add (i*n))=some (.agg (cells x).toArray):=by
 unfold Wf at w
 rcases w with rfl | ⟨a,len,cap,rfl,h1,h2,h3⟩
 ·exact ⟨none,0,[],rfl,⟨Nat.zero_le _,by simp⟩,fun x hx=>(by cases hx),fun i x hx=>by simp at hx⟩
 ·obtain ⟨L,hl,hL⟩:=list_of (p:=fun i x=>ok x∧loadH P t h (a.add (i*n))=some (.agg (cells x).toArray)) len fun i hi=>by
   obtain ⟨es,g1,g2,g3⟩:=h3 i hi
   obtain ⟨x,hx,rfl⟩:=hc es g3
   refine ⟨x,hx,loadH_cells ht hn hpos (by rw [g1,he]) fun k v hk=>?_⟩
   rw [add_add',← he]
   exact g2 k v hk
  subst hl
  refine ⟨some a,cap,L,rfl,⟨by omega,h2.2⟩,fun x hx=>?_,fun i x hx=>⟨a,rfl,(hL i x hx).2⟩⟩
  obtain ⟨i,hi⟩:=List.mem_iff_getElem?.1 hx
  exact (hL i x hi).1
end Go.Mid
