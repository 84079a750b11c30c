/-
  Words.
-/
import Derived.Test.YtdhkjcdneidgaaaGreatDoorMidQ
import Derived.ChangeArms
import Derived.Below
import Derived.WideShapes
import Derived.Laws.Strings
import Derived.Lib.UnsafeStr
import Derived.Sort.Grow
import Derived.Deep.Draws
import Derived.Test.YtdhkjcdneidgaaaGreatDoorProg
import Derived.KernelRfl
import Derived.Test.YtdhkjcdneidgaaaGreatDoorShelf
import Derived.Lib.ItoaMem
import Derived.Lib.Join
set_option linter.unusedSimpArgs false
set_option linter.unusedVariables false
set_option maxHeartbeats 8000000
set_option maxRecDepth 10000
set_option linter.unusedSimpArgs false
set_option linter.unusedVariables false
namespace Go.Mid
open Go Go.RowKit
inductive Sh where
 | int (k:IntKind)
 | bool
 | str
 | struct (fs:List Sh)
 | slice (e:Sh)
 | array (n:Nat) (e:Sh)
mutual
def Sh.n:Sh→Nat
 | .struct fs=>Sh.ns fs
 | .array n e=>n*e.n
 | _=>1
def Sh.ns:List Sh→Nat
 | []=>0
 | s :: r=>s.n+Sh.ns r
end
mutual
def Sh.b:Sh→Nat
 | .int k=>k.bits / 8
 | .bool=>1
 | .str=>16
 | .struct fs=>Sh.bs fs
 | .slice _=>24
 | .array n e=>n*e.b
def Sh.bs:List Sh→Nat
 | []=>0
 | s :: r=>s.b+Sh.bs r
end
mutual
def Sh.ok (P:Program):Sh→TypeId→Bool
 | .int k,t=>match P.underlying t with
  | some (.int k')=>decide (k'=k)
  | _=>false
 | .bool,t=>match P.underlying t with
  | some .bool=>true
  | _=>false
 | .str,t=>match P.underlying t with
  | some .string=>true
  | _=>false
 | .struct fs,t=>match P.underlying t with
  | some (.struct fields)=>Sh.oks P fs fields.toList 0 && (P.cellsOf t==Sh.ns fs)
  | _=>false
 | .slice e,t=>match P.underlying t with
  | some (.slice te)=>Sh.ok P e te && ((P.cellsOf te==e.n) && decide (e.b≤P.bytesOf te))
  | _=>false
 | .array m e,t=>match P.underlying t with
  | some (.array n te)=>(n==m) && (Sh.ok P e te && ((P.cellsOf te==e.n) && (P.cellsOf t==m*e.n)))
  | _=>false
def Sh.oks (P:Program):List Sh→List Field→Nat→Bool
 | [],[],_=>true
 | s :: r,f :: fs,off=>(f.offset==off) && ((P.cellsOf f.type==s.n) && (Sh.ok P s f.type && Sh.oks P r fs (off+s.n)))
 | _,_,_=>false
end
mutual
def Wf (h:Hp):Sh→List Value→Prop
 | .int k,cs=>∃ n,cs=[.int k n]∧(Lit.int k n).wf=true
 | .bool,cs=>∃ b,cs=[.bool b]
 | .str,cs=>∃ s:ByteArray,cs=[.string s]∧s.size≤maxLen
 | .struct fs,cs=>Wfs h fs cs
 | .array n e,cs=>cs.length=n*e.n∧∀ i,i<n→Wf h e ((cs.drop (i*e.n)).take e.n)
 | .slice e,cs=>cs=[.slice none 0 0]∨∃ a len cap,cs=[.slice (some a) len cap]∧len≤cap∧(cap≤maxLen∧len*e.b≤reachBytes)∧∀ i,i<len→∃ es:List Value,es.length=e.n∧(∀ k v,es[k]? = some v→h.cell? (a.add (i*e.n+k))=some v)∧Wf h e es
def Wfs (h:Hp):List Sh→List Value→Prop
 | [],cs=>cs=[]
 | s :: r,cs=>∃ a b,cs=a++b∧a.length=s.n∧Wf h s a∧Wfs h r b
end
theorem mapM_get {α β:Type} {f:α→Option β}:∀ (l:List α) (ys:List β),l.mapM f=some ys→ys.length=l.length∧∀ (k:Nat) (x:α),l[k]? = some x→∃ y,ys[k]? = some y∧f x=some y
 | [],ys,h=>by
  simp at h;subst h
  exact ⟨rfl,fun k x hk=>by simp at hk⟩
 | a :: l,ys,h=>by
  simp only [List.mapM_cons,Option.pure_def,Option.bind_eq_bind,Option.bind_eq_some_iff,Option.some.injEq] at h
  obtain ⟨y,hy,zs,hz,rfl⟩:=h
  obtain ⟨h1,h2⟩:=mapM_get l zs hz
  refine ⟨by simp [h1],fun k x hk=>?_⟩
  cases k with
  | zero=>simp at hk;subst hk;exact ⟨y,rfl,hy⟩
  | succ k=>simpa using h2 k x (by simpa using hk)
theorem whole_cell (w:World) (a:Addr):(whole w).cell? a=w.cell? a:=rfl
theorem add_add' (a:Addr) (m k:Nat):(a.add m).add k=a.add (m+k):=by
 unfold Addr.add
 by_cases hm:m=0
 ·subst hm;simp
 ·by_cases hk:k=0
  ·subst hk;simp [hm]
  ·simp [hm,hk,Nat.add_assoc]
section
variable {H:Type} {enc:TypeId×Value→H} {P:Program} {w:World} {base:Nat} {spare:Nat→Bool} {held:Bool}
omit enc w base spare held in
theorem weights_mem {e:TypeId} {d:DataW H}:∀ {l:List (DataW H)} {n:Nat},d ∈ l→n ∈ d.weights P e→n ∈ DataW.weightsAll P e l
 | [],_,h,_=>by cases h
 | a :: l,n,h,hn=>by
  unfold DataW.weightsAll
  rcases List.mem_cons.1 h with rfl | h
  ·exact List.mem_append_left _ hn
  ·exact List.mem_append_right _ (weights_mem h hn)
omit enc w base spare held in
theorem weights_cons {t:TypeId} {ts:List TypeId} {d:DataW H} {r:List (DataW H)} (h:(DataW.weightsEach P (t :: ts) (d :: r)).all (·≤reachBytes)=true):(∀ n ∈ d.weights P t,n≤reachBytes)∧(DataW.weightsEach P ts r).all (·≤reachBytes)=true:=by
 unfold DataW.weightsEach at h
 rw [List.all_append,Bool.and_eq_true] at h
 exact ⟨fun n hn=>by simpa using List.all_eq_true.1 h.1 n hn,h.2⟩
mutual
theorem wf_of:∀ (s:Sh) (t:TypeId) (fuel:Nat) (cs:List Value) (x:DataW H×List MemPlace),s.ok P t=true→DataW.trod enc P w base spare held fuel t cs=some x→(∀ n ∈ x.1.weights P t,n≤reachBytes)→Wf (whole w) s cs∧cs.length=s.n
 | .int k,t,0,cs,x,_,h,_=>by simp [DataW.trod] at h
 | .int k,t,fuel+1,cs,x,hs,h,_=>by
  unfold Sh.ok at hs
  split at hs
  ·rename_i k' hu
   have hs:=of_decide_eq_true hs
   subst hs
   unfold DataW.trod at h
   rw [hu] at h
   split at h <;> simp_all
   unfold Wf
   exact ⟨⟨_,rfl,h.1.2⟩,rfl⟩
  ·cases hs
 | .bool,t,0,cs,x,_,h,_=>by simp [DataW.trod] at h
 | .bool,t,fuel+1,cs,x,hs,h,_=>by
  unfold Sh.ok at hs
  split at hs
  ·rename_i hu
   unfold DataW.trod at h
   rw [hu] at h
   split at h <;> simp_all
   unfold Wf
   exact ⟨⟨_,rfl⟩,rfl⟩
  ·cases hs
 | .str,t,0,cs,x,_,h,_=>by simp [DataW.trod] at h
 | .str,t,fuel+1,cs,x,hs,h,_=>by
  unfold Sh.ok at hs
  split at hs
  ·rename_i hu
   unfold DataW.trod at h
   rw [hu] at h
   split at h <;> simp_all
   unfold Wf
   exact ⟨⟨_,rfl,h.1⟩,rfl⟩
  ·cases hs
 | .struct fs,t,0,cs,x,_,h,_=>by simp [DataW.trod] at h
 | .struct fs,t,fuel+1,cs,x,hs,h,hz=>by
  unfold Sh.ok at hs
  split at hs
  ·rename_i fields hu
   simp only [Bool.and_eq_true,beq_iff_eq] at hs
   have:cs.length=P.cellsOf t∧∃ xs,(fields.toList.mapM fun f=>DataW.trod enc P w base spare held fuel f.type ((cs.drop f.offset).take (P.cellsOf f.type)))=some xs∧x.1=.agg (xs.map (·.1)):=by
    unfold DataW.trod at h
    rw [hu] at h
    split at h <;> simp_all
    obtain ⟨h1,h2⟩:=h
    obtain ⟨xs,h2,h3⟩:=h2
    exact ⟨xs,h2,by rw [← h3]⟩
   obtain ⟨hl,xs,hx,hx1⟩:=this
   have:=wfs_of fs fields.toList 0 fuel cs xs hs.1 (by rw [hl,hs.2];omega) hx (by
    intro n hn
    refine hz n ?_
    rw [hx1]
    simp only [DataW.weights,hu]
    exact hn)
   rw [List.drop_zero] at this
   exact ⟨by unfold Wf;exact this,by rw [hl,hs.2];simp [Sh.n]⟩
  ·cases hs
 | .array m e,t,0,cs,x,_,h,_=>by simp [DataW.trod] at h
 | .array m e,t,fuel+1,cs,x,hs,h,hz=>by
  unfold Sh.ok at hs
  split at hs
  ·rename_i n te hu
   simp only [Bool.and_eq_true,beq_iff_eq] at hs
   obtain ⟨rfl,h1,h2,h3⟩:=hs
   have:cs.length=P.cellsOf t∧∃ xs,((List.range n).mapM fun i=>DataW.trod enc P w base spare held fuel te ((cs.drop (i*P.cellsOf te)).take (P.cellsOf te)))=some xs∧x.1=.agg (xs.map (·.1)):=by
    unfold DataW.trod at h
    rw [hu] at h
    simp only at h
    split at h
    ·rename_i hl
     obtain ⟨xs,hx,hx2⟩:=Option.map_eq_some_iff.1 h
     exact ⟨hl,xs,hx,by rw [← hx2]⟩
    ·cases h
   obtain ⟨hl,xs,hx,hx1⟩:=this
   refine ⟨?_,by rw [hl,h3];simp [Sh.n]⟩
   unfold Wf
   refine ⟨by rw [hl,h3],fun i hi=>?_⟩
   obtain ⟨g1,g2⟩:=mapM_get _ _ hx
   obtain ⟨y,g3,g4⟩:=g2 i i (by rw [List.getElem?_range hi])
   have:=(wf_of e te fuel _ y h1 g4 (fun n hn=>by
    refine hz n ?_
    rw [hx1]
    simp only [DataW.weights,hu]
    exact weights_mem (List.mem_map.2 ⟨y,List.mem_of_getElem? g3,rfl⟩) hn)).1
   rw [h2] at this
   exact this
  ·cases hs
 | .slice e,t,fuel,cs,x,hs,h,hz=>by
  unfold Sh.ok at hs
  split at hs
  ·rename_i te hu
   simp only [Bool.and_eq_true,beq_iff_eq,decide_eq_true_eq] at hs
   rcases DataW.trod_slice hu h with ⟨rfl,_⟩ | ⟨a,len,cap,elems,rest,n,_,rfl,hx1,_,h1,h2,h3,h4,_⟩
   ·exact ⟨by unfold Wf;exact .inl rfl,by simp [Sh.n]⟩
   ·refine ⟨?_,by simp [Sh.n]⟩
    unfold Wf
    have hz1:x.1.weights P t=(elems.length+rest.length)*P.bytesOf te :: (DataW.weightsAll P te (elems.map (·.1))++DataW.weightsAll P te (rest.map (·.1))):=by
     rw [hx1]
     simp only [DataW.weights,hu,List.length_map]
    rw [hz1] at hz
    have hzb:len*e.b≤reachBytes:=by
     have h5:=hz _ (List.mem_cons_self ..)
     have h6:len*e.b≤(elems.length+rest.length)*P.bytesOf te:=Nat.mul_le_mul (by omega) hs.2.2
     omega
    refine .inr ⟨a,len,cap,rfl,h1,⟨h2,hzb⟩,fun i hi=>?_⟩
    have h5:=h4 i hi
    have hei:elems[i]? = some elems[i]:=List.getElem?_eq_getElem (by omega)
    rw [hei] at h5
    obtain ⟨es,h6,h7⟩:=Option.bind_eq_some_iff.1 h5
    obtain ⟨h8,h9⟩:=wf_of e te n es _ hs.1 h7 (fun m hm=>hz m (List.mem_cons_of_mem _ (List.mem_append_left _ (weights_mem (List.mem_map.2 ⟨_,List.mem_of_getElem? hei,rfl⟩) hm))))
    refine ⟨es,h9,fun k v hk=>?_,h8⟩
    unfold World.cells? at h6
    split at h6
    ·obtain ⟨g1,g2⟩:=mapM_get _ _ h6
     have hlt:=(List.getElem?_eq_some_iff.1 hk).1
     obtain ⟨y,g3,g4⟩:=g2 k k (by rw [List.getElem?_range (by rw [g1,List.length_range] at hlt;exact hlt)])
     rw [hk] at g3;cases g3
     rw [whole_cell,← add_add',← hs.2.1]
     exact g4
    ·cases h6
  ·cases hs
theorem wfs_of:∀ (ss:List Sh) (fs:List Field) (off fuel:Nat) (cs:List Value) (xs:List (DataW H×List MemPlace)),Sh.oks P ss fs off=true→cs.length=off+Sh.ns ss →
  (fs.mapM fun f=>DataW.trod enc P w base spare held fuel f.type ((cs.drop f.offset).take (P.cellsOf f.type)))=some xs→(∀ n ∈ DataW.weightsEach P (fs.map (·.type)) (xs.map (·.1)),n≤reachBytes)→Wfs (whole w) ss (cs.drop off)
 | [],[],off,fuel,cs,xs,_,hl,_,_=>by
  unfold Wfs
  rw [List.drop_eq_nil_iff]
  simp [Sh.ns] at hl;omega
 | [],_ :: _,_,_,_,_,h,_,_,_=>by simp [Sh.oks] at h
 | _ :: _,[],_,_,_,_,h,_,_,_=>by simp [Sh.oks] at h
 | s :: r,f :: fs,off,fuel,cs,xs,h,hl,hx,hz=>by
  unfold Sh.oks at h
  simp only [Bool.and_eq_true,beq_iff_eq] at h
  obtain ⟨h1,h2,h3,h4⟩:=h
  simp only [List.mapM_cons,Option.pure_def,Option.bind_eq_bind,Option.bind_eq_some_iff,Option.some.injEq] at hx
  obtain ⟨y,hy,ys,hys,rfl⟩:=hx
  simp only [List.map_cons,DataW.weightsEach] at hz
  obtain ⟨g1,g2⟩:=wf_of s f.type fuel _ y h3 hy fun n hn=>hz n (List.mem_append_left _ hn)
  have hl2:cs.length=off+(s.n+Sh.ns r):=by rw [hl];simp [Sh.ns]
  have g3:=wfs_of r fs (off+s.n) fuel cs ys h4 (by omega) hys fun n hn=>hz n (List.mem_append_right _ hn)
  unfold Wfs
  rw [h1,h2] at g1 g2
  refine ⟨(cs.drop off).take s.n,cs.drop (off+s.n),?_,g2,g1,g3⟩
  rw [← List.drop_drop,List.take_append_drop]
end
end
def Sh.v:Sh→List Value→Value
 | .struct _,cs=>.agg cs.toArray
 | .array _ _,cs=>.agg cs.toArray
 | _,cs=>cs.headD undef
theorem okWide_array {P:Program} {w:World} {r:Reach} {base:Nat} {t:TypeId} {v:Value} {n:Nat} {e:TypeId} (ht:P.underlying t=some (.array n e)) (h:Value.okWide P w r base t v):∃ cs,v=.agg cs:=by
 unfold Value.okWide at h
 rw [ht] at h
 obtain ⟨cs,e,_⟩:=h
 exact ⟨cs,e⟩
theorem arg_of {H:Type} {enc:TypeId×Value→H} {P:Program} {w:World} {r:Reach} {b0 base:Nat} {spare:Nat→Bool} {held:Bool} {t:TypeId} {v:Value} {d:DataW H} {ps:List MemPlace} (s:Sh) (hs:s.ok P t=true) (hv:Value.okWide P w r b0 t v) (hd:DataW.Trod enc P w base spare held t v d ps) (hz:∀ n ∈ d.weights P t,n≤reachBytes) :
  ∃ cs,v=s.v cs∧Wf (whole w) s cs∧cs.length=s.n:=by
 obtain ⟨fuel,hf⟩:=hd
 obtain ⟨h1,h2⟩:=wf_of s t fuel _ _ hs hf hz
 refine ⟨v.cells.toList,?_,h1,h2⟩
 cases s with
 | int k =>
  unfold Sh.ok at hs;split at hs
  ·rename_i k' hu;obtain ⟨n,rfl⟩:=WideShapes.okWide_int hu hv;rfl
  ·cases hs
 | bool =>
  unfold Sh.ok at hs;split at hs
  ·rename_i hu;obtain ⟨n,rfl⟩:=WideShapes.okWide_bool hu hv;rfl
  ·cases hs
 | str =>
  unfold Sh.ok at hs;split at hs
  ·rename_i hu;obtain ⟨n,rfl⟩:=WideShapes.okWide_string hu hv;rfl
  ·cases hs
 | struct fs =>
  unfold Sh.ok at hs;split at hs
  ·rename_i hu;obtain ⟨cs,rfl,_⟩:=WideShapes.okWide_struct hu hv;rfl
  ·cases hs
 | slice e =>
  unfold Sh.ok at hs;split at hs
  ·rename_i hu;obtain ⟨a,l,c,rfl⟩:=WideShapes.okWide_slice hu hv;rfl
  ·cases hs
 | array n e =>
  unfold Sh.ok at hs;split at hs
  ·rename_i hu;obtain ⟨cs,rfl⟩:=okWide_array hu hv;rfl
  ·cases hs
end Go.Mid
namespace Go.Mid
open Go Go.RowKit
abbrev byV (b:UInt8):Value:=.int .u8 b.toNat
theorem mid_shape {P:Program} {r:Nat} {c:Array Value} {e:TypeId} {f:Nat×Nat} {h:Hp} {K:Option (TypeId×Nat)→Hp→Prop} (hb:h r=some (.cells c e f)) (hk:K (some (e,c.size)) h):mid P (shape r) h K:=by
 unfold shape
 simp only [mid,hb]
 exact hk
theorem mid_freeze {P:Program} {a:Addr} {n:Nat} {c:Array Value} {e:TypeId} {f:Nat×Nat} {h:Hp} {K:Unit→Hp→Prop} (hn:n≠0) (hb:h a.block=some (.cells c e f)) (hk:K () (h.freeze a n)):mid P (freeze a n) h K:=by
 unfold freeze
 simp only [mid,hb,if_neg hn]
 exact hk
theorem mid_choose {P:Program} {α:Type} {q:Question} {k:Nat→Sem α} {h:Hp} {K:α→Hp→Prop} (hf:q.forced=false) (hk:∀ t,mid P (k (q.cut t)) h K):mid P (.choose q k) h K:=by
 unfold mid
 rw [hf]
 exact hk
theorem mid_choose2 {P:Program} {q:Question} {h:Hp} {K:Nat→Hp→Prop} (hf:q.forced=false) (hk:∀ t,K (q.cut t) h):mid P (choose q) h K:=mid_choose hf hk
theorem toBytes {P:Program} {src dst el:TypeId} {x:Operand} {ρ:Operand→Value} {o:Oper} {l:List UInt8} {h:Hp} {K:Next→Hp→Prop}
  (ho:o.op=.convert src dst x) (hs:P.underlying src=some .string) (hd:P.underlying dst=some (.slice el)) (he:P.underlying el=some (.int .u8)) (hx:ρ x=.string (bs l))
  (hk:∀ b cap h',h b=none→h.le h'→(∀ c,c≠b→h' c=h c)→(∀ i y,l[i]? = some y→h'.cell? ⟨b,i,none⟩=some (byV y))→K (.value (.slice (some ⟨b,0,none⟩) l.length cap)) h'):semK P (execOp ρ o) h K:=by
 refine ⟨?_⟩
 have e:execOp ρ o=(convert src dst (.string (bs l)) >>= fun v=>Pure.pure (Next.value v)):=by
  unfold execOp
  simp only [ho,hx]
 rw [e]
 refine mid_bind2 ?_
 unfold convert
 refine mid_bind2 (mid_underlying hs ?_)
 refine mid_bind2 (mid_underlying hd ?_)
 show mid P (underlying el >>= fun u=>_) h _
 refine mid_bind2 (mid_underlying he ?_)
 show mid P (Conv.stringToBytes el (bs l)) h _
 unfold Conv.stringToBytes
 refine mid_bind2 ?_
 refine mid_choose2 rfl fun t=>?_
 generalize hcap:(Question.appendCap (bs l).size 0 el).cut t=cap
 refine mid_bind2 ?_
 refine mid_bind2 ?_
 intro b hb
 generalize hcs:((bs l).data.map fun b=>Value.int .u8 b.toNat)++Array.replicate (cap - (bs l).size) (Value.int .u8 0)=cs
 refine mid_pure ?_
 refine mid_bind2 ?_
 unfold markStringish
 refine mid_bind2 ?_
 have hat:(h.set b (.cells cs el)) b=some (.cells cs el (0,0)):=Hp.set_same _ _ _
 refine mid_shape hat ?_
 refine mid_freeze (by decide) hat ?_
 refine mid_pure ?_
 have hfz:(h.set b (.cells cs el)).freeze ⟨b,cs.size,none⟩ 1=h.set b (.cells cs el (cs.size,cs.size+1)):=by
  unfold Hp.freeze
  simp only [hat]
  rw [if_pos (by rfl),Hp.set_set]
 show K _ ((h.set b (.cells cs el)).freeze ⟨b,cs.size,none⟩ 1)
 rw [hfz,bs_size]
 refine (hk b cap _ hb (Hp.le_set hb) (fun c hc=>Hp.set_other _ _ hc) fun i y hy=>?_)
 unfold Hp.cell?
 rw [Hp.set_same]
 have hlt:=(List.getElem?_eq_some_iff.1 hy).1
 have:cs[i]? = some (byV y):=by
  subst hcs
  rw [Array.getElem?_append_left (by simpa [bs] using hlt)]
  simp [bs,hy]
 simpa using this
def dig (b:UInt8):Bool:=decide (48≤b.toNat∧b.toNat≤57)
def trimR (l:List UInt8):List UInt8:=(l.reverse.dropWhile dig).reverse
theorem dropW_nil {p:UInt8→Bool}:∀ l:List UInt8,l.dropWhile p=[]↔∀ b ∈ l,p b=true
 | []=>by simp
 | a :: l=>by
  rw [List.dropWhile_cons]
  by_cases h:p a=true
  ·rw [if_pos h,dropW_nil l];simp [h]
  ·rw [if_neg h];simp [h]
theorem trim_nil (l:List UInt8):(trimR l).dropWhile dig=[]↔∀ b ∈ l,dig b=true:=by
 rw [dropW_nil]
 unfold trimR
 constructor
 ·intro h b hb
  rw [← List.reverse_reverse l] at hb
  rw [List.mem_reverse,← List.takeWhile_append_dropWhile (p:=dig) (l:=l.reverse),List.mem_append] at hb
  rcases hb with hb | hb
  ·exact List.all_eq_true.1 (List.all_takeWhile (p:=dig) (l:=l.reverse)) b hb
  ·exact h b (List.mem_reverse.2 hb)
 ·intro h b hb
  exact h b (List.mem_reverse.1 ((List.dropWhile_sublist dig).subset (List.mem_reverse.1 hb)))
def valL (l:List UInt8):Int:=l.foldl (fun n b=>n*10+((b.toNat:Int) - 48)) 0
theorem valL_snoc (l:List UInt8) (b:UInt8):valL (l++[b])=valL l*10+((b.toNat:Int) - 48):=by
 unfold valL;rw [List.foldl_append];rfl
theorem valL_le:∀ (l:List UInt8),(∀ b ∈ l,dig b=true)→0≤valL l∧valL l<10 ^ l.length:=by
 intro l
 induction h:l.length generalizing l with
 | zero=>intro _;obtain rfl:=List.eq_nil_of_length_eq_zero h;exact ⟨by decide,by decide⟩
 | succ n ih =>
  intro hd
  have hne:l≠[]:=fun e=>by subst e;cases h
  obtain ⟨r,b,rfl⟩:∃ r b,l=r++[b]:=⟨l.dropLast,l.getLast hne,(List.dropLast_concat_getLast hne).symm⟩
  have hr:=ih r (by simpa using h) fun x hx=>hd x (by simp [hx])
  have hb:=hd b (by simp)
  unfold dig at hb
  simp only [decide_eq_true_eq] at hb
  rw [valL_snoc,Int.pow_succ]
  omega
end Go.Mid
namespace Go.Mid
open Go Go.RowKit
theorem kq {K:Value→Hp→Prop} {v v':Value} {h:Hp} (hk:K v h) (e:v'=v):K v' h:=e ▸ hk
theorem bI {a b:Bool} (h:a=b):Value.bool a=Value.bool b:=by rw [h]
theorem iI {k:IntKind} {a b:Int} (h:a=b):Value.int k a=Value.int k b:=by rw [h]
theorem sI {a b:List UInt8} (h:a=b):Value.string (bs a)=Value.string (bs b):=by rw [h]
theorem aRunK_call {P:Program} {ρ:Operand→Value} {o:Oper} {g:FuncId} {args:List Value} {h:Hp} {K:Value→Hp→Prop} (hA:actOf P ρ o=if callable P g=true then .call g args else .sem (execOp ρ o)) (hc:callable P g=true) (hx:X P g args.toArray h K):aRunK P (actOf P ρ o) h K:=by
 rw [hA,if_pos hc];exact hx
theorem loadC {P:Program} {t el:TypeId} (ht:isAggT P t=some false) {h:Hp} {b i:Nat} {l:List Value} {v:Value} (hb:h b=some (rowO el l)) (hi:l[i]? = some v):loadH P t h ((⟨b,0,none⟩:Addr).add i)=some v:=by
 rw [addr_add,Nat.zero_add,loadH_cell ht]
 exact cell_row hb hi
theorem loadC0 {P:Program} {t el:TypeId} (ht:isAggT P t=some false) {h:Hp} {b:Nat} {l:List Value} {v:Value} (hb:h b=some (rowO el l)) (hi:l[0]? = some v):loadH P t h ⟨b,0,none⟩=some v:=by
 rw [loadH_cell ht]
 exact cell_row hb hi
theorem storeC {P:Program} {t el:TypeId} (ht:sizeT P t=some 1) {h:Hp} {b i:Nat} {l:List Value} {z:Value} (hb:h b=some (rowO el l)) (hi:i<l.length) (hz:z.cells.toList=[z]) (h1:z.oneCell'=true):storeH P t h ((⟨b,0,none⟩:Addr).add i) z=some (b,rowO el (l.set i z)):=by
 rw [addr_add,Nat.zero_add]
 exact storeH_row ht hb hi hz h1
theorem storeC0 {P:Program} {t el:TypeId} (ht:sizeT P t=some 1) {h:Hp} {b:Nat} {l:List Value} {z:Value} (hb:h b=some (rowO el l)) (hi:0<l.length) (hz:z.cells.toList=[z]) (h1:z.oneCell'=true):storeH P t h ⟨b,0,none⟩ z=some (b,rowO el (l.set 0 z)):=storeH_row ht hb hi hz h1
theorem loadC1 {P:Program} {t el:TypeId} (ht:isAggT P t=some false) {h:Hp} {b i:Nat} {l:List Value} {v:Value} (hb:h b=some (rowO el l)) (hi:l[i]? = some v):loadH P t h ((⟨b,0,none⟩:Addr).add (i*1))=some v:=by
 rw [Nat.mul_one];exact loadC ht hb hi
theorem storeC1 {P:Program} {t el:TypeId} (ht:sizeT P t=some 1) {h:Hp} {b i:Nat} {l:List Value} {z:Value} (hb:h b=some (rowO el l)) (hi:i<l.length) (hz:z.cells.toList=[z]) (h1:z.oneCell'=true):storeH P t h ((⟨b,0,none⟩:Addr).add (i*1)) z=some (b,rowO el (l.set i z)):=by
 rw [Nat.mul_one];exact storeC ht hb hi hz h1
def Hp.one (b:Nat) (o:Obj):Hp:=fun x=>if x=b then some o else none
theorem Hp.le_st {h h1 H:Hp} {b:Nat} (hn:h b=none) (hle:h.le h1) (ho:∀ c,c≠b→H c=h1 c):h.le H:=fun x o e=>by
 rw [ho x (Hp.ne hn e)];exact hle x o e
theorem setL_all {a b:List Value} (h:a.length=b.length):setL a 0 b=b:=by
 have:=setL_append b [] a (by omega)
 simpa [List.drop_of_length_le (Nat.le_of_eq h)] using this
theorem ov_eq {x y:Int} {K:Int→Prop} (e:x=y) (h : -9223372036854775808≤y∧y≤9223372036854775807) (hk:K y):ovK .i64 x K:=by
 subst e
 exact ov_i64 h hk
end Go.Mid
namespace Go.Mid
open Go Go.RowKit
theorem Ext.ofBelow {w0 w w':World} {h:Hp} (s:Sat w0 h w) (b:Below w.heap.size w w'):Ext w0 h w h w' :=
 ⟨⟨b.os.trans s.os,b.tape.trans s.tape,b.output.trans s.output,Nat.le_trans s.size b.size,fun c o e=>(b.block c (s.lt e)).trans (s.known c o e)⟩,b.size,fun c hc e=>⟨b.block c hc,e⟩⟩
theorem Ext.ofGrow {w0 w:World} {h:Hp} (s:Sat w0 h w) (k:Nat) (os:Array Obj):Ext w0 h w h (Sort.grow (w.drewN k) os):=by
 have hs:(Sort.grow (w.drewN k) os).heap=w.heap++os:=rfl
 have ho:∀ c,c<w.heap.size→(Sort.grow (w.drewN k) os).heap[c]? = w.heap[c]? := fun c hc=>by
  rw [hs,Array.getElem?_append_left hc]
 have hsz:w.heap.size≤(Sort.grow (w.drewN k) os).heap.size:=by rw [hs];simp
 exact ⟨⟨s.os,s.tape,s.output,Nat.le_trans s.size hsz,fun c o e=>(ho c (s.lt e)).trans (s.known c o e)⟩,hsz,fun c hc e=>⟨ho c hc,e⟩⟩
theorem X.ofBelow {P:Program} {f:FuncId} {args:Array Value} {v:Value} {h:Hp} {K:Value→Hp→Prop} (hc:∀ w0 w,Sat w0 h w→Calls P f args w fun e w'=>e=.returned v∧Below w.heap.size w w') (hk:K v h):X P f args h K :=
 ⟨fun w0 w s=>(hc w0 w s).mono fun _ _ ⟨he,hb⟩=>⟨v,h,he,Ext.ofBelow s hb,hk⟩⟩
theorem X.ofGrow {P:Program} {f:FuncId} {args:Array Value} {v:Value} {h:Hp} {K:Value→Hp→Prop} (hc:∀ w0 w,Sat w0 h w→Calls P f args w fun e w'=>e=.returned v∧∃ k os,w'=Sort.grow (w.drewN k) os) (hk:K v h):X P f args h K :=
 ⟨fun w0 w s=>(hc w0 w s).mono fun _ _ ⟨he,k,os,hb⟩=>⟨v,h,he,by rw [hb];exact Ext.ofGrow s k os,hk⟩⟩
theorem YV.mono {P:Program} {y:Value} {args:List Value} {h:Hp} {K K':Value→Hp→Prop} (x:YV P y args h K) (hk:∀ v h',K v h'→K' v h'):YV P y args h K' :=
 ⟨fun ρ o z xs tys h1 h2 h3=>aRun_mono (fun v h' hh=>hk v h' hh) (x.go ρ o z xs tys h1 h2 h3)⟩
end Go.Mid
namespace Go.Proofs.YtdhkjcdneidgaaaGreatDoor
open Go Go.Mid Go.RowKit
theorem mixed:Tryz.prog.follows .mixedOrders=true:=by kernel_rfl
abbrev Str:=List UInt8
theorem aggU:isAggT Tryz.prog 25=some false:=by kernel_rfl
theorem sizU:sizeT Tryz.prog 25=some 1:=by kernel_rfl
theorem aggBo:isAggT Tryz.prog 4=some false:=by kernel_rfl
theorem sizBo:sizeT Tryz.prog 4=some 1:=by kernel_rfl
theorem aggIn:isAggT Tryz.prog 3=some false:=by kernel_rfl
theorem sizIn:sizeT Tryz.prog 3=some 1:=by kernel_rfl
theorem aggU8:isAggT Tryz.prog 5=some false:=by kernel_rfl
theorem sizU8:sizeT Tryz.prog 5=some 1:=by kernel_rfl
end Go.Proofs.YtdhkjcdneidgaaaGreatDoor
namespace Go.Mid
open Go Go.RowKit
def Owns (k h:Hp) (el size:Nat) (s:Value) (n:Nat) (cs:List Value):Prop:=∃ ob,Gr h el size s n cs ob∧k.le h∧∀ c,ob=some c→k c=none
theorem Owns.nil {k h:Hp} {el size:Nat} (hle:k.le h):Owns k h el size (.slice none 0 0) 0 []:=⟨none,Gr.nil,hle,fun c e=>by cases e⟩
theorem Owns.new {k h h':Hp} {el size n:Nat} {s:Value} {cs:List Value} {b:Nat} {o:Obj} (w:Owns k h el size s n cs) (hb:h b=none) (hle:h.le h') (hat:h' b=some o):Owns (k.set b o) h' el size s n cs:=by
 obtain ⟨ob,g,hk,ho⟩:=w
 refine ⟨ob,g.le hle,fun c x e=>?_,fun c hc=>?_⟩
 ·by_cases hcb:c=b
  ·subst hcb;rw [Hp.set_same] at e;cases e;exact hat
  ·rw [Hp.set_other _ _ hcb] at e;exact hle _ _ (hk _ _ e)
 ·have:c≠b:=fun e=>by
   subst e
   obtain ⟨_,⟨e,_⟩ | ⟨y,_,_,e,_,_,_,hy⟩⟩:=g
   ·rw [e] at hc;cases hc
   ·rw [e] at hc;cases hc;rw [hy] at hb;cases hb
  rw [Hp.set_other _ _ this];exact ho c hc
theorem Owns.weak {k k2 h:Hp} {el size n:Nat} {s:Value} {cs:List Value} (w:Owns k h el size s n cs) (hle:k2.le k):Owns k2 h el size s n cs:=by
 obtain ⟨ob,g,hk,ho⟩:=w
 exact ⟨ob,g,Hp.le_trans hle hk,fun c hc=>Hp.none_le hle (ho c hc)⟩
theorem Owns.up {k h h':Hp} {el size n:Nat} {s:Value} {cs:List Value} (w:Owns k h el size s n cs) (hle:h.le h'):Owns k h' el size s n cs:=by
 obtain ⟨ob,g,hk,ho⟩:=w
 exact ⟨ob,g.le hle,Hp.le_trans hk hle,ho⟩
theorem Owns.le {k h:Hp} {el size n:Nat} {s:Value} {cs:List Value} (w:Owns k h el size s n cs):k.le h:=by
 obtain ⟨ob,g,hk,ho⟩:=w
 exact hk
theorem Owns.rd {P:Program} {t el:TypeId} {k h:Hp} {s:Value} {n:Nat} {cs:List Value} (ht:isAggT P t=some false) (w:Owns k h el 1 s n cs):Rd P t 1 h s cs:=by
 obtain ⟨ob,g,hk,ho⟩:=w
 exact g.rd ht
theorem Owns.len {k h:Hp} {el size n:Nat} {s:Value} {cs:List Value} (w:Owns k h el size s n cs):cs.length=n*size:=by
 obtain ⟨ob,g,hk,ho⟩:=w
 exact g.1
theorem Owns.val {k h:Hp} {el size n:Nat} {s:Value} {cs:List Value} (w:Owns k h el size s n cs):s.cells.toList=[s]∧s.oneCell'=true:=by
 obtain ⟨_,⟨_,⟨_,rfl,_⟩ | ⟨b,cap,rest,_,rfl,_⟩⟩,_,_⟩:=w <;> exact ⟨rfl,rfl⟩
theorem Owns.shape {k h:Hp} {el size n:Nat} {s:Value} {cs:List Value} (w:Owns k h el size s n cs):∃ a c,s=.slice a n c:=by
 obtain ⟨ob,g,_⟩:=w
 exact g.shape
theorem Owns.row {k h:Hp} {el size n:Nat} {s:Value} {cs:List Value} (w:Owns k h el size s n cs) (hn:0<n):∃ b cap rest,s=.slice (some ⟨b,0,none⟩) n cap∧n≤cap∧h b=some (rowO el (cs++rest))∧k b=none:=by
 obtain ⟨ob,⟨_,⟨_,_,e⟩ | ⟨b,cap,rest,e1,e2,h1,_,h3⟩⟩,_,ho⟩:=w
 ·omega
 ·exact ⟨b,cap,rest,e2,h1,h3,ho b e1⟩
theorem Owns.app1 {P:Program} {t e:TypeId} {i:TypeInfo} {z:Value} {size bytes:Nat} (ht:P.underlying t=some (.slice e)) (hi:P.info? e=some i) (hz:i.zero=some z) (hsize:i.size=size) (hby:i.bytes=bytes) (hzs:z.cells.size=size) (hb2:bytes≤4096)
  {ρ:Operand→Value} {o:Oper} {a b:Operand} {s:Value} {news:List Value} {k h:Hp} {n x c:Nat} {cs:List Value} {K:Next→Hp→Prop}
  (ho:o.op=.call { callee:=.builtin .append,args:=#[a,b],argTypes:=#[t,t] }) (ha:ρ a=s) (hb:ρ b=.slice (some ⟨x,0,none⟩) 1 c) (hs:Owns k h e size s n cs) (hx:h x=some (rowO e news)) (hl:news.length=size) (h1:news.all Value.oneCell'=true) (hn:n≤2 ^ 30)
  (hk:∀ s' h',Owns k h' e size s' (n+1) (cs++news)→K (.value s') h'):semK P (execOp ρ o) h K:=by
 obtain ⟨ob,g,hle,hno⟩:=hs
 refine appOne ht hi hz hsize hby hzs hb2 ho ha hb g hx hl h1 hn fun s' h' ob' hg ht=>?_
 have:=ht.le hle hno
 exact hk s' h' ⟨ob',hg,this.1,this.2⟩
theorem Owns.appN {P:Program} {t e:TypeId} {i:TypeInfo} {z:Value} {size bytes:Nat} (ht:P.underlying t=some (.slice e)) (hi:P.info? e=some i) (hz:i.zero=some z) (hsize:i.size=size) (hby:i.bytes=bytes) (hzs:z.cells.size=size) (hb2:bytes≤4096)
  {ρ:Operand→Value} {o:Oper} {a b:Operand} {s:Value} {news:List Value} {k h:Hp} {n m c:Nat} {cs:List Value} {base:Option Addr} {K:Next→Hp→Prop}
  (ho:o.op=.call { callee:=.builtin .append,args:=#[a,b],argTypes:=#[t,t] }) (ha:ρ a=s) (hb:ρ b=.slice base m c) (hs:Owns k h e size s n cs) (hl:news.length=m*size) (hx:∀ j v,news[j]? = some v→∃ a,base=some a∧h.cell? (a.add j)=some v) (hnil:base=none→m=0) (h1:news.all Value.oneCell'=true) (hn:n+m≤2 ^ 31)
  (hk:∀ s' h',Owns k h' e size s' (n+m) (cs++news)→K (.value s') h'):semK P (execOp ρ o) h K:=by
 obtain ⟨ob,g,hle,hno⟩:=hs
 refine appMany ht hi hz hsize hby hzs hb2 ho ha hb g hl hx hnil h1 hn fun s' h' ob' hg ht=>?_
 have:=ht.le hle hno
 exact hk s' h' ⟨ob',hg,this.1,this.2⟩
theorem Hp.set_le {k h:Hp} {b:Nat} {o:Obj} (hle:k.le h) (hb:h b=some o):(k.set b o).le h:=fun c x e=>by
 by_cases hcb:c=b
 ·subst hcb;rw [Hp.set_same] at e;cases e;exact hb
 ·rw [Hp.set_other _ _ hcb] at e;exact hle _ _ e
theorem Hp.le_set' {k:Hp} {b:Nat} {o:Obj} (hb:k b=none):k.le (k.set b o):=Hp.le_set hb
theorem Hp.eq_set {h h':Hp} {b:Nat} {o:Obj} (hb:h' b=some o) (ho:∀ c,c≠b→h' c=h c):h'=h.set b o:=by
 funext c
 by_cases hc:c=b
 ·subst hc;rw [hb,Hp.set_same]
 ·rw [ho c hc,Hp.set_other _ _ hc]
theorem loadCA {P:Program} {t el:TypeId} {k:Nat} {a:Addr} {b:Nat} (ha:a=⟨b,k,none⟩) (ht:isAggT P t=some false) {h:Hp} {l:List Value} {v:Value} (hb:h b=some (rowO el l)) (hv:l[k]? = some v):loadH P t h a=some v:=by
 rw [ha,loadH_cell ht]
 exact cell_row hb hv
theorem cat_by {a b m:List UInt8} {K:ByteArray→Prop} (h:a.length+b.length≤9223372036854775807) (e:a++b=m) (hk:K (bs m)):catK (bs a) (bs b) K:=by
 subst e
 exact cat_intro h hk
theorem loadI {P:Program} {t el:TypeId} (ht:isAggT P t=some false) {h:Hp} {b j:Nat} {i:Int} {l:List Value} {v:Value} (hb:h b=some (rowO el l)) (e:i=j) (hv:l[j]? = some v):loadH P t h ((⟨b,0,none⟩:Addr).add (i.toNat*1))=some v:=by
 subst e
 rw [Int.toNat_natCast]
 exact loadC1 ht hb hv
theorem storeI {P:Program} {t el:TypeId} (ht:sizeT P t=some 1) {h:Hp} {b j:Nat} {i:Int} {l:List Value} {z:Value} (hb:h b=some (rowO el l)) (e:i=j) (hj:j<l.length) (hz:z.cells.toList=[z]) (h1:z.oneCell'=true):storeH P t h ((⟨b,0,none⟩:Addr).add (i.toNat*1)) z=some (b,rowO el (l.set j z)):=by
 subst e
 rw [Int.toNat_natCast]
 exact storeC1 ht hb hj hz h1
end Go.Mid
namespace Go.Proofs.YtdhkjcdneidgaaaGreatDoor
open Go Go.Mid Go.RowKit
attribute [local irreducible] mid
section
variable {h:Hp} {K:Value→Hp→Prop}
def Pow (h:Hp):Prop:=∃ el fz,h 5=some (.cells (Lib.pow10Tab.map fun z=>Value.int .u64 z).toArray el fz)
theorem Pow.le {h h':Hp} (p:Pow h) (hle:h.le h'):Pow h':=by
 obtain ⟨el,fz,e⟩:=p
 exact ⟨el,fz,hle _ _ e⟩
theorem Pow.keep {h h':Hp} (p:Pow h) (hle:h' 5=h 5):Pow h':=by
 obtain ⟨el,fz,e⟩:=p
 exact ⟨el,fz,hle.trans e⟩
theorem powG : Tryz.prog.globalNamed "internal/strconv.uint64pow10" = some 5 := by kernel_rfl
theorem Pow.tab {w0 w : World} (p : Pow h) (s : Sat w0 h w) : Lib.TabIs Tryz.prog w "internal/strconv.uint64pow10" .u64 Lib.pow10Tab := by
 obtain ⟨el,fz,e⟩:=p
 unfold Lib.TabIs World.var?
 rw [powG,Option.bind_some,s.known _ _ e]
theorem Pow.of {w : World} (t : Lib.TabIs Tryz.prog w "internal/strconv.uint64pow10" .u64 Lib.pow10Tab) : Pow (whole w) := by
 unfold Lib.TabIs World.var? at t
 rw [powG,Option.bind_some] at t
 unfold Pow
 show ∃ el fz,w.heap[_]? = _
 generalize w.heap[5]? = x at t
 match x,t with
 | some (.cells cs el fz),t=>cases t;exact ⟨el,fz,rfl⟩
theorem nDig_le:∀ (k u:Nat),u<10 ^ (k+1)→Lib.nDigits u≤k+1
 | 0,u,h=>by rw [Lib.nDigits_small (by omega)];omega
 | k+1,u,h=>by
  by_cases hu:u<10
  ·rw [Lib.nDigits_small hu];omega
  ·rw [Lib.nDigits_big hu]
   have:=nDig_le k (u / 10) (by rw [Nat.pow_succ] at h;omega)
   omega
theorem nDig20 {u:Nat} (h:u<18446744073709551616):Lib.nDigits u≤20:=nDig_le 19 u (by omega)
theorem dec_len {u:Nat} (h:u<18446744073709551616):(Lib.decDigits u).length≤20:=by rw [Lib.decDigits_length];exact nDig20 h
end
end Go.Proofs.YtdhkjcdneidgaaaGreatDoor
namespace Go.Proofs.YtdhkjcdneidgaaaGreatDoor
open Go Go.Mid Go.RowKit
attribute [local irreducible] mid
section
variable {h:Hp} {K:Value→Hp→Prop}
abbrev sv (x:Str):Value:=.string (bs x)
theorem aggStr:isAggT Tryz.prog 9=some false:=by kernel_rfl
theorem infS:Tryz.prog.info? 9=some Tryz.prog.types[9]:=by kernel_rfl
theorem app_len {xs ys:List Str} {n m:Nat} (a:xs.length≤n) (b:ys.length≤m):(xs++ys).length≤n+m:=by rw [List.length_append];omega
def tl (xs:List Str):Str:=xs.flatMap fun x=>32 :: x
theorem join_tl (x:Str) (xs:List Str):Lib.join (x :: xs) [32]=x++tl xs:=by
 rw [Lib.join_cons]
 rfl
theorem tl_len {xs:List Str} {n:Nat} (h:∀ x ∈ xs,x.length≤n):(tl xs).length≤(n+1)*xs.length:=by
 induction xs with
 | nil=>simp [tl]
 | cons x xs ih =>
  have h1:=h x (by simp)
  have h2:=ih fun y hy=>h y (by simp [hy])
  unfold tl at h2 ⊢
  rw [List.flatMap_cons,List.length_append,List.length_cons,List.length_cons,Nat.mul_succ]
  omega
def Sm (xs:List Str):Prop:=∀ x ∈ xs,x.length≤64
theorem Sm.app {xs ys:List Str} (a:Sm xs) (b:Sm ys):Sm (xs++ys):=fun x hx=>(List.mem_append.1 hx).elim (a x) (b x)
theorem Sm.nil:Sm []:=fun x hx=>by cases hx
theorem Sm.cons {x:Str} {ys:List Str} (a:x.length≤64) (b:Sm ys):Sm (x :: ys):=fun z hz=>by
 rcases List.mem_cons.1 hz with rfl | hz
 ·exact a
 ·exact b z hz
abbrev J (ws:List Str):Str:=Lib.join ws [32]
theorem J_len {ws:List Str} (h:Sm ws) (hn:ws.length≤200):(J ws).length≤13064:=by
 cases ws with
 | nil=>simp [J,Lib.join_nil]
 | cons x xs =>
  rw [J,join_tl,List.length_append]
  have h1:=h x (by simp)
  have h2:=tl_len (n:=64) (xs:=xs) fun y hy=>h y (by simp [hy])
  rw [List.length_cons] at hn
  have:(64+1)*xs.length≤65*200:=Nat.mul_le_mul_left 65 (by omega)
  omega
theorem ne_app {xs ys:List Str} (h:xs≠[]):xs++ys≠[]:=fun e=>h (List.append_eq_nil_iff.1 e).1
structure Wk (ws:List Str) (n:Nat):Prop where
 ne:ws≠[]
 sm:Sm ws
 len:ws.length≤n
theorem Wk.app {xs ys:List Str} {n m:Nat} (a:Wk xs n) (b:Sm ys) (c:ys.length≤m):Wk (xs++ys) (n+m):=⟨ne_app a.ne,a.sm.app b,app_len a.len c⟩
theorem Wk.J {xs:List Str} {n:Nat} (a:Wk xs n) (h:n≤200):(J xs).length≤13064:=J_len a.sm (Nat.le_trans a.len h)
end
end Go.Proofs.YtdhkjcdneidgaaaGreatDoor
