/-
  THE MIDDLE LAYER, PART TEN: the form in which 'whnf' goes through code: what is asked stands at the head ('need'), and so does a test that is not known ('bcase').
-/
import Derived.Test.YtdhlpighdlnohaaGreatMidI
import Derived.IntWalk
import Derived.Laws.Strings
set_option linter.unusedSimpArgs false
set_option linter.unusedVariables false
set_option maxHeartbeats 8000000
set_option maxRecDepth 10000
set_option linter.unusedSimpArgs false
set_option linter.unusedVariables false
namespace Go.Mid
open Go Go.RowKit
def need (c:Prop) [Decidable c] (K:Prop):Prop:=match decide c with
 | true=>K
 | false=>False
theorem need_intro {c:Prop} [Decidable c] {K:Prop} (hc:c) (hk:K):need c K:=by unfold need;rw [decide_eq_true hc];exact hk
theorem need_elim {c:Prop} [Decidable c] {K:Prop} (h:need c K):c∧K:=by
 unfold need at h
 split at h
 ·rename_i hc;exact ⟨of_decide_eq_true hc,h⟩
 ·exact h.elim
def bsel (b:Bool) (A B:Prop):Prop:=match b with
 | true=>A
 | false=>B
theorem bsel_intro {b:Bool} {A B:Prop} (ht:b=true→A) (hf:b=false→B):bsel b A B:=by cases b;exact hf rfl;exact ht rfl
theorem bsel_true {b:Bool} {A B:Prop} (hb:b=true) (h:A):bsel b A B:=by subst hb;exact h
theorem bsel_false {b:Bool} {A B:Prop} (hb:b=false) (h:B):bsel b A B:=by subst hb;exact h
def bcase (b:Bool) (F:Bool→Prop):Prop:=bsel b (F true) (F false)
theorem bcase_elim {b:Bool} {F:Bool→Prop} (h:bcase b F):F b:=by cases b <;> exact h
abbrev bs (l:List UInt8):ByteArray:=⟨l.toArray⟩
theorem bs_size (l:List UInt8):(bs l).size=l.length:=by show l.toArray.size=_;simp
theorem bsL:(∀ (p:Prop) [Decidable p],(decide p=true)=p)∧(∀ (p:Prop) [Decidable p],(decide p=false)=¬ p)∧(∀ (α:Type) [BEq α] [LawfulBEq α] (a b:α),((a==b)=true)=(a=b))∧(∀ (α:Type) [BEq α] [LawfulBEq α] (a b:α),((a==b)=false)=¬ (a=b)) ∧
  (∀ (α:Type) (a b:α),(a≠b)=¬ (a=b))∧(∀ b:Bool,((!b)=true)=(b=false))∧(∀ b:Bool,((!b)=false)=(b=true))∧(∀ (α:Type) [BEq α] [LawfulBEq α] (a b:α),((a != b)=true)=¬ (a=b))∧(∀ (α:Type) [BEq α] [LawfulBEq α] (a b:α),((a != b)=false)=(a=b)) ∧
  (∀ b:Bool,(¬ (b=true))=(b=false))∧(∀ b:Bool,(¬ (b=false))=(b=true))∧(∀ a b:Bool,((a && b)=true)=(a=true∧b=true))∧(∀ a b:Bool,((a || b)=true)=(a=true∨b=true))∧(∀ l:List UInt8,(bs l).size=l.length):=by
 refine ⟨?_,?_,?_,?_,?_,?_,?_,?_,?_,?_,?_,?_,?_,?_⟩ <;> intros <;> first | exact bs_size _ | simp
theorem bs_extract (l:List UInt8) (i j:Nat):(bs l).extract i j=bs ((l.take j).drop i):=by
 apply ByteArray.ext
 rw [ByteArray.data_extract]
 apply Array.ext'
 simp [bs,List.extract_eq_take_drop,List.drop_take]
theorem bs_get (l:List UInt8) (i:Nat):(bs l).data.getD i 0=l.getD i 0:=by
 show l.toArray.getD i 0=_
 simp [Array.getD_eq_getD_getElem?,List.getD_eq_getElem?_getD]
theorem bs_toList (l:List UInt8):(bs l).toList=l:=by
 rw [ByteArray.toList_eq]
theorem bs_eq {a b:List UInt8}:((bs a).toList==(bs b).toList)=decide (a=b):=by rw [bs_toList,bs_toList,Bool.eq_iff_iff];simp
structure catK (a b:ByteArray) (K:ByteArray→Prop):Prop where
 len:a.size+b.size≤9223372036854775807
 go:K (a++b)
structure seqK (a b:ByteArray) (K:Bool→Prop):Prop where
 go:K (a.toList==b.toList)
theorem seq_intro {a b:List UInt8} {K:Bool→Prop} (hk:K (decide (a=b))):seqK (bs a) (bs b) K:=⟨by rw [bs_eq];exact hk⟩
theorem seq_true {a b:List UInt8} {K:Bool→Prop} (h:a=b) (hk:K true):seqK (bs a) (bs b) K:=seq_intro (by rw [decide_eq_true h];exact hk)
theorem seq_false {a b:List UInt8} {K:Bool→Prop} (h:a≠b) (hk:K false):seqK (bs a) (bs b) K:=seq_intro (by rw [decide_eq_false h];exact hk)
structure subK (s:ByteArray) (i j:Nat) (K:ByteArray→Prop):Prop where
 go:K (s.extract i j)
theorem sub_by {l m:List UInt8} {i j:Nat} {K:ByteArray→Prop} (e:(l.take j).drop i=m) (hk:K (bs m)):subK (bs l) i j K:=⟨by rw [bs_extract,e];exact hk⟩
theorem sub_from {l m:List UInt8} {i:Nat} {K:ByteArray→Prop} (e:l.drop i=m) (hk:K (bs m)):subK (bs l) i (bs l).size K:=⟨by rw [bs_extract,bs_size,List.take_length,e];exact hk⟩
structure chK (s:ByteArray) (i:Int) (K:Int→Prop):Prop where
 lt:0≤i∧i<s.size
 go:K ((s.data.getD i.toNat 0).toNat)
theorem ch_intro {l:List UInt8} {i:Int} {K:Int→Prop} (b:UInt8) (h0:0≤i) (h:l[i.toNat]? = some b) (hk:K b.toNat):chK (bs l) i K:=by
 have hlt:=(List.getElem?_eq_some_iff.1 h).1
 refine ⟨⟨h0,by rw [bs_size];omega⟩,?_⟩
 rw [bs_get,List.getD_eq_getElem?_getD,h]
 exact hk
def viaV (r:Option Value) (K:Value→Prop):Prop:=match r with
 | some v=>K v
 | none=>False
theorem viaV_elim {r:Option Value} {K:Value→Prop} (h:viaV r K):∃ v,r=some v∧K v:=by
 unfold viaV at h;split at h
 ·exact ⟨_,rfl,h⟩
 ·exact h.elim
def getK (cs:List Value) (off:Nat) (K:Value→Prop):Prop:=match cs.drop off with
 | v :: _=>K v
 | []=>False
theorem getK_elim {cs:List Value} {off:Nat} {K:Value→Prop} (h:getK cs off K):∃ v,cs[off]? = some v∧K v:=by
 unfold getK at h
 split at h
 ·rename_i v r hd
  refine ⟨v,?_,h⟩
  have:=congrArg (fun l=>l[0]?) hd
  simpa [List.getElem?_drop] using this
 ·exact h.elim
theorem getK_intro {cs:List Value} {off:Nat} {K:Value→Prop} {v:Value} (hv:cs[off]? = some v) (hk:K v):getK cs off K:=by
 unfold getK
 rw [List.drop_eq_getElem_cons (List.getElem?_eq_some_iff.1 hv).1,(List.getElem?_eq_some_iff.1 hv).2]
 exact hk
def partK (P:Program) (t:TypeId) (cs:Array Value) (off:Nat) (K:Value→Prop):Prop :=
 match isAggT P t with
 | some true=>viaV (partV P t cs off) K
 | some false=>getK cs.toList off K
 | none=>False
theorem partK_elim {P:Program} {t:TypeId} {cs:Array Value} {off:Nat} {K:Value→Prop} (h:partK P t cs off K):∃ v,partV P t cs off=some v∧K v:=by
 unfold partK at h
 split at h
 ·exact viaV_elim h
 ·rename_i ha
  obtain ⟨v,hv,hk⟩:=getK_elim h
  exact ⟨v,by unfold partV;rw [ha];simpa using hv,hk⟩
 ·exact h.elim
structure ovK (k:IntKind) (x:Int) (K:Int→Prop):Prop where
 go:K (k.wrap x)
theorem ov_of {k:IntKind} {x:Int} {K:Int→Prop} (e:k.wrap x=x) (hk:K x):ovK k x K:=⟨by rw [e];exact hk⟩
theorem ovK_elim {k:IntKind} {x:Int} {K:Int→Prop} (h:ovK k x K):K (k.wrap x):=h.go
theorem ov_i64 {x:Int} {K:Int→Prop} (h : -9223372036854775808≤x∧x≤9223372036854775807) (hk:K x):ovK .i64 x K:=ov_of (IntWalk.i64_in x h) hk
theorem ov_u64 {x:Int} {K:Int→Prop} (h:0≤x∧x≤18446744073709551615) (hk:K x):ovK .u64 x K:=ov_of (IntWalk.u64_in x h) hk
theorem ov_u8 {x:Int} {K:Int→Prop} (h:0≤x∧x≤255) (hk:K x):ovK .u8 x K:=ov_of (IntWalk.u8_in x h) hk
theorem ov_u32 {x:Int} {K:Int→Prop} (h:0≤x∧x≤4294967295) (hk:K x):ovK .u32 x K:=ov_of (IntWalk.u32_in x h) hk
theorem ov_i32 {x:Int} {K:Int→Prop} (h : -2147483648≤x∧x≤2147483647) (hk:K x):ovK .i32 x K:=ov_of (IntWalk.i32_in x h) hk
def loK:IntKind→Int
 | .i64 => -9223372036854775808
 | .i32 => -2147483648
 | .u64 | .u32 | .u8=>0
 | _=>1
def hiK:IntKind→Int
 | .i64=>9223372036854775807
 | .i32=>2147483647
 | .u64=>18446744073709551615
 | .u32=>4294967295
 | .u8=>255
 | _=>0
theorem ov_c {k:IntKind} {x:Int} {K:Int→Prop} (h:loK k≤x∧x≤hiK k) (hk:K x):ovK k x K:=by
 cases k with
 | i64=>exact ov_i64 h hk
 | i32=>exact ov_i32 h hk
 | u64=>exact ov_u64 h hk
 | u32=>exact ov_u32 h hk
 | u8=>exact ov_u8 h hk
 | i8=>exact absurd (Int.le_trans h.1 h.2) (by decide)
 | i16=>exact absurd (Int.le_trans h.1 h.2) (by decide)
 | u16=>exact absurd (Int.le_trans h.1 h.2) (by decide)
theorem ov_wrap {k:IntKind} {x:Int} {K:Int→Prop} (hk:K (k.wrap x)):ovK k x K:=⟨hk⟩
structure valK (x:Int) (K:Int→Prop):Prop where
 go:K x
theorem val_by {x y:Int} {K:Int→Prop} (h:x=y) (hk:K y):valK x K:=⟨by rw [h];exact hk⟩
theorem ov_by {k:IntKind} {x y:Int} {K:Int→Prop} (h:k.wrap x=y) (hk:K y):ovK k x K:=⟨by rw [h];exact hk⟩
def eqWFs (P:Program) (eq:TypeId→Value→Value→Option Bool) (xs ys:Array Value):List Field→Option Bool
 | []=>some true
 | f :: fs => match f.name == "_" with
  | true=>eqWFs P eq xs ys fs
  | false=>match partV P f.type xs f.offset,partV P f.type ys f.offset with
   | some a,some b=>match eq f.type a b,eqWFs P eq xs ys fs with
    | some r,some s=>some (r && s)
    | _,_=>none
   | _,_=>none
def eqW (P:Program):Nat→TypeId→Value→Value→Option Bool
 | 0,_,_,_=>none
 | d+1,t,x,y=>match P.underlying t,x,y with
  | some .bool,.bool a,.bool b=>some (a==b)
  | some (.int _),.int .i64 a,.int .i64 b=>some (a==b)
  | some (.int _),.int .u64 a,.int .u64 b=>some (a==b)
  | some (.int _),.int .u8 a,.int .u8 b=>some (a==b)
  | some (.int _),.int .u32 a,.int .u32 b=>some (a==b)
  | some (.int _),.int .i32 a,.int .i32 b=>some (a==b)
  | some .string,.string a,.string b=>some (a.toList==b.toList)
  | some (.struct fields),.agg xs,.agg ys=>eqWFs P (eqW P d) xs ys fields.toList
  | some (.array len elem),.agg xs,.agg ys=>match sizeT P elem with
   | some n=>eqAs P (eqW P d) elem n xs ys len 0
   | none=>none
  | _,_,_=>none
def flatOk (P:Program):Nat→TypeId→Bool
 | 0,_=>true
 | d+1,t=>match P.underlying t with
  | some (.struct fields)=>!P.stoodInHeld t && fields.toList.all fun f=>flatOk P d f.type
  | some (.array _ elem)=>flatOk P d elem
  | _=>true
theorem eqWFs_eqFs {P:Program} {d:Nat} {xs ys:Array Value} (ih:∀ (t:TypeId) (x y:Value) (b:Bool),flatOk P d t=true→eqW P d t x y=some b→eqV P d t x y=some b):∀ (fs:List Field) (b:Bool),(∀ f ∈ fs,flatOk P d f.type=true)→eqWFs P (eqW P d) xs ys fs=some b→eqFs P (eqV P d) xs ys fs=some b
 | [],_,_,h=>h
 | f :: fs,b,hfs,h=>by
  unfold eqWFs at h
  unfold eqFs
  split at h
  ·rename_i hn
   rw [if_neg (by simpa using hn)]
   exact eqWFs_eqFs ih fs b (fun g hg=>hfs g (by simp [hg])) h
  ·rename_i hn
   rw [if_pos (by simpa using hn)]
   split at h
   ·rename_i a1 a2 h1 h2
    rw [h1,h2]
    simp only []
    split at h
    ·rename_i r s hr hs
     cases h
     rw [ih _ _ _ _ (hfs f (by simp)) hr,eqWFs_eqFs ih fs _ (fun g hg=>hfs g (by simp [hg])) hs]
    ·cases h
   ·cases h
theorem eqAs_eqAs {P:Program} {d:Nat} {elem:TypeId} {n:Nat} {xs ys:Array Value} (ih:∀ (t:TypeId) (x y:Value) (b:Bool),flatOk P d t=true→eqW P d t x y=some b→eqV P d t x y=some b) (hf:flatOk P d elem=true):∀ (m i:Nat) (b:Bool),eqAs P (eqW P d) elem n xs ys m i=some b→eqAs P (eqV P d) elem n xs ys m i=some b
 | 0,_,_,h=>h
 | m+1,i,b,h=>by
  unfold eqAs at h ⊢
  split at h
  ·rename_i a1 a2 h1 h2
   split at h
   ·rename_i r s hr hs
    cases h
    rw [ih _ _ _ _ hf hr,eqAs_eqAs ih hf m _ _ hs]
   ·cases h
  ·cases h
theorem eqW_eqV {P:Program}:∀ (d:Nat) (t:TypeId) (x y:Value) (b:Bool),flatOk P d t=true→eqW P d t x y=some b→eqV P d t x y=some b
 | 0,_,_,_,_,_,h=>by cases h
 | d+1,t,x,y,b,hf,h=>by
  have ih:=eqW_eqV (P:=P) d
  unfold eqW at h
  unfold flatOk at hf
  split at h
  ·rename_i hu;simp only [eqV,hu];exact h
  ·rename_i hu;simp only [eqV,hu,if_true];exact h
  ·rename_i hu;simp only [eqV,hu,if_true];exact h
  ·rename_i hu;simp only [eqV,hu,if_true];exact h
  ·rename_i hu;simp only [eqV,hu,if_true];exact h
  ·rename_i hu;simp only [eqV,hu,if_true];exact h
  ·rename_i hu;simp only [eqV,hu];exact h
  ·rename_i hu
   rw [hu] at hf
   simp only [Bool.and_eq_true,Bool.not_eq_true',List.all_eq_true] at hf
   simp only [eqV,hu]
   rw [if_pos hf.1]
   exact eqWFs_eqFs ih _ _ hf.2 h
  ·rename_i hu
   rw [hu] at hf
   simp only at hf
   simp only [eqV,hu]
   split at h
   ·rename_i n hn
    rw [hn]
    exact eqAs_eqAs ih hf _ _ _ h
   ·cases h
  ·cases h
structure must (c K:Prop):Prop where
 c:c
 k:K
def structOk (P:Program) (t:TypeId):Bool:=!P.eqGuardType P.depth t && flatOk P 10000 t
def eqOpK (op:BinOp) (b:Bool) (K:Value→Prop):Prop:=match op with
 | .eql=>K (.bool b)
 | .neq=>K (.bool (!b))
 | _=>False
def viaB (r:Option Bool) (K:Bool→Prop):Prop:=match r with
 | some b=>K b
 | none=>False
def binK (P:Program) (op:BinOp) (t:TypeId) (x y:Value) (K:Value→Prop):Prop :=
 match x,y with
 | .int k a,.int k' b=>match isShift op with
  | true=>need (0≤b) (match op with
   | .shl=>ovK k (a*2 ^ (min b.toNat k.bits)) fun r=>K (.int k r)
   | .shr=>valK (a.fdiv (2 ^ (min b.toNat k.bits))) fun r=>K (.int k r)
   | _=>False)
  | false=>need (k=k') (match op with
   | .add=>ovK k (a+b) fun r=>K (.int k r)
   | .sub=>ovK k (a - b) fun r=>K (.int k r)
   | .mul=>ovK k (a*b) fun r=>K (.int k r)
   | .quo=>need (b≠0) (ovK k (a.tdiv b) fun r=>K (.int k r))
   | .rem=>need (b≠0) (K (.int k (a.tmod b)))
   | .and=>valK (k.wrap (BitVec.ofInt k.bits a &&& BitVec.ofInt k.bits b).toNat) fun r=>K (.int k r)
   | .or=>valK (k.wrap (BitVec.ofInt k.bits a ||| BitVec.ofInt k.bits b).toNat) fun r=>K (.int k r)
   | .xor=>valK (k.wrap (BitVec.ofInt k.bits a ^^^ BitVec.ofInt k.bits b).toNat) fun r=>K (.int k r)
   | .andNot=>valK (k.wrap (BitVec.ofInt k.bits a &&& ~~~BitVec.ofInt k.bits b).toNat) fun r=>K (.int k r)
   | op=>viaV (intV op k a b) K)
 | .string a,.string b=>match op with
  | .add=>catK a b fun s=>K (.string s)
  | .eql=>seqK a b fun r=>K (.bool r)
  | .neq=>seqK a b fun r=>K (.bool (!r))
  | op=>viaV (strV op a b) K
 | .agg xs,.agg ys=>must (structOk P t=true) (viaB (eqW P 10000 t (.agg xs) (.agg ys)) fun b=>eqOpK op b K)
 | x,y=>viaV (binV P op t x y) K
theorem binK_elim {P:Program} {op:BinOp} {t:TypeId} {x y:Value} {K:Value→Prop} (h:binK P op t x y K):∃ v,binV P op t x y=some v∧K v:=by
 unfold binK at h
 split at h
 ·rename_i k a k' b
  simp only [binV]
  split at h
  ·rename_i hs
   obtain ⟨hb,h⟩:=need_elim h
   simp only [hs,if_true,shiftV,show ¬ b<0 by omega,if_false]
   split at h
   ·exact ⟨_,rfl,ovK_elim h⟩
   ·exact ⟨_,rfl,h.go⟩
   ·exact h.elim
  ·rename_i hs
   obtain ⟨hk,h2⟩:=need_elim h
   clear h
   simp only [hs,Bool.false_eq_true,if_false,hk,if_true]
   subst hk
   split at h2
   ·exact ⟨_,rfl,ovK_elim h2⟩
   ·exact ⟨_,rfl,ovK_elim h2⟩
   ·exact ⟨_,rfl,ovK_elim h2⟩
   ·obtain ⟨hb,h3⟩:=need_elim h2;exact ⟨.int k (k.wrap (a.tdiv b)),by simp [intV,hb],ovK_elim h3⟩
   ·obtain ⟨hb,h3⟩:=need_elim h2;exact ⟨.int k (a.tmod b),by simp [intV,hb],h3⟩
   ·exact ⟨_,rfl,h2.go⟩
   ·exact ⟨_,rfl,h2.go⟩
   ·exact ⟨_,rfl,h2.go⟩
   ·exact ⟨_,rfl,h2.go⟩
   ·exact viaV_elim h2
 ·simp only [binV]
  split at h
  ·obtain ⟨hb,h⟩:=h
   refine ⟨_,?_,h⟩
   simp only [strV]
   rw [if_neg]
   show ¬ _>(9223372036854775807:Int)
   omega
  ·exact ⟨_,rfl,h.go⟩
  ·exact ⟨_,rfl,h.go⟩
  ·exact viaV_elim h
 ·obtain ⟨h12,h3⟩:=h
  simp only [structOk,Bool.and_eq_true,Bool.not_eq_true'] at h12
  obtain ⟨h1,h2⟩:=h12
  simp only [binV,if_pos h1]
  unfold viaB at h3
  split at h3
  ·rename_i b hb
   rw [eqW_eqV _ _ _ _ _ h2 hb]
   unfold eqOpK at h3
   split at h3
   ·exact ⟨_,rfl,h3⟩
   ·exact ⟨_,rfl,h3⟩
   ·exact h3.elim
  ·exact h3.elim
 ·exact viaV_elim h
def binWK (P:Program) (op:BinOp) (t:TypeId) (ox oy:Operand) (x y:Value) (K:Value→Prop):Prop :=
 match x,y with
 | .nilIface,.nilIface=>viaV (binW P op t ox oy .nilIface .nilIface) K
 | x,y=>binK P op t x y K
theorem binWK_elim {P:Program} {op:BinOp} {t:TypeId} {ox oy:Operand} {x y:Value} {K:Value→Prop} (h:binWK P op t ox oy x y K):∃ v,binW P op t ox oy x y=some v∧K v:=by
 unfold binWK at h
 split at h
 ·exact viaV_elim h
 ·rename_i hn
  obtain ⟨v,hv,hk⟩:=binK_elim h
  refine ⟨v,?_,hk⟩
  unfold binW
  split
  ·exact (hn rfl rfl).elim
  ·exact hv
def natK (lo hi:Nat) (v:Option Value) (d:Nat) (K:Nat→Prop):Prop :=
 match v with
 | none=>K d
 | some (.int _ i)=>need ((lo:Int)≤i∧i≤hi) (K i.toNat)
 | some _=>False
theorem natK_elim {lo hi d:Nat} {v:Option Value} {K:Nat→Prop} (h:natK lo hi v d K):∃ n,natIn lo hi v d=some n∧K n:=by
 unfold natK at h
 split at h
 ·exact ⟨_,rfl,h⟩
 ·obtain ⟨hc,h⟩:=need_elim h
  exact ⟨_,by simp only [natIn];rw [if_pos hc],h⟩
 ·exact h.elim
def placeK (m l n:Nat) (a:Option Addr) (K:Option Addr→Prop):Prop:=bcase (decide (m=l)) fun b=>match b with
 | true=>K a
 | false=>K (a.map (·.add (l*n)))
theorem placeK_elim {m l n:Nat} {a:Option Addr} {K:Option Addr→Prop} (h:placeK m l n a K):K (if m=l then a else a.map (·.add (l*n))):=by
 have:=bcase_elim h
 by_cases hm:m=l <;> simp [hm] at this ⊢ <;> exact this
def sliceK (P:Program) (t:TypeId) (x:Value) (lo hi mx:Option Value) (K:Value→Prop):Prop :=
 match P.underlying t,x with
 | some .string,.string s=>match mx with
  | none=>natK 0 s.size hi s.size fun h=>natK 0 h lo 0 fun l=>subK s l h fun r=>K (.string r)
  | some _=>False
 | some (.slice elem),.slice a len cap=>match sizeT P elem with
  | some n=>natK 0 cap mx cap fun m=>match (mx.isSome && hi.isNone) with
   | true=>False
   | false=>natK 0 m hi len fun h=>natK 0 h lo 0 fun l=>placeK m l n a fun a'=>K (.slice a' (h - l) (m - l))
  | none=>False
 | some (.array c elem),.pointer (some a)=>match sizeT P elem with
  | some n=>natK 0 c mx c fun m=>match (mx.isSome && hi.isNone) with
   | true=>False
   | false=>natK 0 m hi c fun h=>natK 0 h lo 0 fun l=>placeK m l n (some a) fun a'=>K (.slice a' (h - l) (m - l))
  | none=>False
 | _,_=>False
theorem sliceK_elim {P:Program} {t:TypeId} {x:Value} {lo hi mx:Option Value} {K:Value→Prop} (h:sliceK P t x lo hi mx K):∃ v,sliceV P t x lo hi mx=some v∧K v:=by
 unfold sliceK at h
 split at h
 ·rename_i s hu
  split at h
  ·obtain ⟨h1,e1,h⟩:=natK_elim h
   obtain ⟨l,e2,h⟩:=natK_elim h
   exact ⟨_,by simp only [sliceV,hu,e1,e2],h.go⟩
  ·exact h.elim
 ·rename_i elem a len cap hu
  split at h
  ·rename_i n hn
   obtain ⟨m,e0,h⟩:=natK_elim h
   split at h
   ·exact h.elim
   ·rename_i hb
    obtain ⟨h1,e1,h⟩:=natK_elim h
    obtain ⟨l,e2,h⟩:=natK_elim h
    exact ⟨_,by simp only [sliceV,hu,e0,hb,Bool.false_eq_true,if_false,e1,e2,hn],placeK_elim h⟩
  ·exact h.elim
 ·rename_i c elem a hu
  split at h
  ·rename_i n hn
   obtain ⟨m,e0,h⟩:=natK_elim h
   split at h
   ·exact h.elim
   ·rename_i hb
    obtain ⟨h1,e1,h⟩:=natK_elim h
    obtain ⟨l,e2,h⟩:=natK_elim h
    refine ⟨.slice (some (if m=l then a else a.add (l*n))) (h1 - l) (m - l),by simp only [sliceV,hu,e0,hb,Bool.false_eq_true,if_false,e1,e2,hn],?_⟩
    have:=placeK_elim h
    by_cases hm:m=l <;> simp [hm] at this ⊢ <;> exact this
  ·exact h.elim
 ·exact h.elim
def indexK (P:Program) (t:TypeId) (x ix:Value) (K:Value→Prop):Prop :=
 match ix with
 | .int _ i=>match P.underlying t,x with
  | some (.array len elem),.agg cs=>match sizeT P elem with
   | some n=>need (0≤i∧i<len) (partK P elem cs (i.toNat*n) K)
   | none=>False
  | some .string,.string s=>chK s i fun b=>K (.int .u8 b)
  | _,_=>False
 | _=>False
theorem indexK_elim {P:Program} {t:TypeId} {x ix:Value} {K:Value→Prop} (h:indexK P t x ix K):∃ v,indexV P t x ix=some v∧K v:=by
 unfold indexK at h
 split at h
 ·rename_i k i
  split at h
  ·rename_i len elem cs hu
   split at h
   ·rename_i n hn
    obtain ⟨hc,h⟩:=need_elim h
    obtain ⟨v,hv,h⟩:=partK_elim h
    exact ⟨v,by simp only [indexV,hu];rw [if_pos hc];simp only [hn,hv],h⟩
   ·exact h.elim
  ·rename_i s hu
   obtain ⟨hc,h⟩:=h
   refine ⟨_,?_,h⟩
   simp only [indexV,hu,hc.1,if_true]
   have hlt:i.toNat<s.size:=by omega
   have hlt2:i.toNat<s.data.size:=hlt
   have e1:s[i.toNat]? = some s[i.toNat]:=by simp [hlt]
   rw [e1]
   simp only [Array.getD_eq_getD_getElem?]
   rw [Array.getElem?_eq_getElem hlt2]
   rfl
  ·exact h.elim
 ·exact h.elim
structure bigK (r:Option Value) (K:Value→Prop):Prop where
 go:viaV r K
theorem big_by {r:Option Value} {K:Value→Prop} {v:Value} (h:r=some v) (hk:K v):bigK r K:=⟨by rw [h];exact hk⟩
def isBig (P:Program) (t:TypeId):Bool:=match sizeT P t with
 | some n=>Nat.ble 17 n
 | none=>false
def calcK (P:Program) (ρ:Operand→Value) (op:Op) (K:Value→Prop):Prop :=
 match op with
 | .pick c a b=>match ρ c with
  | .bool t=>bcase t fun t=>match t with
   | true=>K (ρ a)
   | false=>K (ρ b)
  | _=>False
 | .binOp op t x y _=>binWK P op t x y (ρ x) (ρ y) K
 | .index t x ix=>indexK P t (ρ x) (ρ ix) K
 | .slice t x lo hi mx=>sliceK P t (ρ x) (lo.map ρ) (hi.map ρ) (mx.map ρ) K
 | .indexAddr t x ix=>match ρ ix with
  | .int _ i=>match P.underlying t,ρ x with
   | some (.slice elem),.slice (some a) len _=>match sizeT P elem with
    | some n=>need (0≤i∧i<len) (K (.pointer (some (a.add (i.toNat*n)))))
    | none=>False
   | some (.array len elem),.pointer (some a)=>match sizeT P elem with
    | some n=>need (0≤i∧i<len) (K (.pointer (some (a.add (i.toNat*n)))))
    | none=>False
   | _,_=>False
  | _=>False
 | .convert src dst x=>match P.underlying src,P.underlying dst,ρ x with
  | some _,some (.int k),.int _ n=>ovK k n fun r=>K (.int k r)
  | some .string,some .string,.string s=>K (.string s)
  | _,_,_=>False
 | .build t parts=>match isBig P t with
  | true=>bigK (buildV P t (parts.toList.map fun p=>(p.1,ρ p.2))) K
  | false=>viaV (buildV P t (parts.toList.map fun p=>(p.1,ρ p.2))) K
 | op=>viaV (calcV P ρ op) K
theorem calcK_elim {P:Program} {ρ:Operand→Value} {op:Op} {K:Value→Prop} (h:calcK P ρ op K):∃ v,calcV P ρ op=some v∧K v:=by
 unfold calcK at h
 split at h
 ·split at h
  ·rename_i t ht
   have:=bcase_elim h
   cases t with
   | true=>exact ⟨_,by simp only [calcV,ht];rfl,this⟩
   | false=>exact ⟨_,by simp only [calcV,ht];rfl,this⟩
  ·exact h.elim
 ·exact binWK_elim h
 ·exact indexK_elim h
 ·exact sliceK_elim h
 ·split at h
  ·rename_i k i hi
   split at h
   ·rename_i elem a len cap hu hx
    split at h
    ·rename_i n hn
     obtain ⟨hc,h⟩:=need_elim h
     exact ⟨_,by simp only [calcV,hi,hu,hx];rw [if_pos hc];simp only [hn],h⟩
    ·exact h.elim
   ·rename_i len elem a hu hx
    split at h
    ·rename_i n hn
     obtain ⟨hc,h⟩:=need_elim h
     exact ⟨_,by simp only [calcV,hi,hu,hx];rw [if_pos hc];simp only [hn],h⟩
    ·exact h.elim
   ·exact h.elim
  ·exact h.elim
 ·split at h
  ·rename_i d k n' n hu hu' hx
   exact ⟨_,by simp only [calcV,hu,hu',hx],ovK_elim h⟩
  ·rename_i s hu hu' hx
   exact ⟨_,by simp only [calcV,hu,hu',hx],h⟩
  ·exact h.elim
 ·split at h
  ·exact viaV_elim h.go
  ·exact viaV_elim h
 ·exact viaV_elim h
def isCalc:Op→Bool
 | .pick .. | .binOp .. | .unOp .. | .field .. | .extract .. | .build .. | .index .. | .slice .. | .convert .. | .fieldAddr .. | .indexAddr .. | .nilCheck .. | .makeFunc .. | .makeInterface ..=>true
 | .call c=>match c.callee with
  | .builtin .cap | .builtin .min | .builtin .max=>true
  | _=>false
 | _=>false
def sel:List (Nat×Value)→Nat→Value
 | [],_=>undef
 | p :: r,t=>match Nat.beq t p.1 with
  | true=>p.2
  | false=>sel r t
def rho (l:List (Nat×Value)):Operand→Value
 | .tmp t=>sel l t
 | .const x=>x
 | .global g=>.pointer (some ⟨g,0,none⟩)
 | .func f=>.func (.func f) #[] #[]
def looks (e:ME):List Operand→(List (Nat×Value)→Prop)→Prop
 | [],F=>F []
 | .tmp t :: r,F=>match e.env t with
  | .v y=>looks e r fun l=>F ((t,y) :: l)
  | _=>False
 | .const _ :: r,F=>looks e r F
 | .global _ :: r,F=>looks e r F
 | .func _ :: r,F=>looks e r F
theorem looks_elim {e:ME}:∀ (xs:List Operand) {F:List (Nat×Value)→Prop},looks e xs F→∃ l,(∀ x ∈ xs,(ev e x).isV=true∧rho l x=vals e x)∧F l
 | [],F,h=>⟨[],fun x hx=>(by cases hx),h⟩
 | .tmp t :: r,F,h=>by
  unfold looks at h
  split at h
  ·rename_i y hy
   obtain ⟨l,hl,hF⟩:=looks_elim r h
   refine ⟨(t,y) :: l,fun x hx=>?_,hF⟩
   have hv:vals e (.tmp t)=y:=by unfold vals;simp only [ev,hy];rfl
   have htt:rho ((t,y) :: l) (.tmp t)=y:=by simp only [rho,sel,Nat.beq_refl]
   rcases List.mem_cons.1 hx with rfl | hx
   ·exact ⟨by simp only [ev,hy];rfl,by rw [htt,hv]⟩
   ·refine ⟨(hl x hx).1,?_⟩
    cases x with
    | tmp u =>
     by_cases hu:u=t
     ·subst hu;rw [htt,hv]
     ·have:Nat.beq u t=false:=by
       cases hb:Nat.beq u t with
       | false=>rfl
       | true=>exact absurd (Nat.eq_of_beq_eq_true hb) hu
      have h2:=(hl _ hx).2
      simp only [rho,sel,this] at h2 ⊢
      exact h2
    | _=>exact (hl _ hx).2
  ·exact h.elim
 | .const v :: r,F,h=>by
  obtain ⟨l,hl,hF⟩:=looks_elim r (show looks e r F from h)
  refine ⟨l,fun x hx=>?_,hF⟩
  rcases List.mem_cons.1 hx with rfl | hx
  ·exact ⟨rfl,rfl⟩
  ·exact hl x hx
 | .global v :: r,F,h=>by
  obtain ⟨l,hl,hF⟩:=looks_elim r (show looks e r F from h)
  refine ⟨l,fun x hx=>?_,hF⟩
  rcases List.mem_cons.1 hx with rfl | hx
  ·exact ⟨rfl,rfl⟩
  ·exact hl x hx
 | .func v :: r,F,h=>by
  obtain ⟨l,hl,hF⟩:=looks_elim r (show looks e r F from h)
  refine ⟨l,fun x hx=>?_,hF⟩
  rcases List.mem_cons.1 hx with rfl | hx
  ·exact ⟨rfl,rfl⟩
  ·exact hl x hx
def isCalcP (P:Program) (op:Op):Bool:=match op with
 | .convert s d _=>match P.underlying s,P.underlying d with
  | some .string,some (.slice _)=>false
  | some (.slice _),some .string=>false
  | some (.int _),some .string=>false
  | some .unsafePointer,_=>false
  | _,some .unsafePointer=>false
  | _,_=>true
 | .binOp _ t _ _ _=>match P.underlying t with
  | some (.pointer _)=>false
  | _=>true
 | op=>isCalc op
def genK (P:Program) (o:Oper) (e:ME) (K:Plan→Prop):Prop :=
 match noSel o.op with
 | true=>looks e o.op.operands.toList fun l=>match isCalcP P o.op with
  | true=>calcK P (rho l) o.op fun v=>K (.upd (dstU o.dst (.v v)))
  | false=>match calcV P (rho l) o.op with
   | some v=>K (.upd (dstU o.dst (.v v)))
   | none=>K (.act (actOf P (rho l) o))
 | false=>False
theorem genK_elim {P:Program} {o:Oper} {e:ME} {K:Plan→Prop} (h:genK P o e K):∃ pl,gen P o e=some pl∧K pl:=by
 unfold genK at h
 split at h
 ·rename_i hns
  obtain ⟨l,hl,h⟩:=looks_elim _ h
  have hv:(allV e o.op && noSel o.op)=true:=by
   rw [hns,Bool.and_true]
   unfold allV
   rw [List.all_eq_true]
   exact fun x hx=>(hl x hx).1
  have hr:∀ z ∈ o.op.operands,vals e z=rho l z:=fun z hz=>(hl z (by simpa using hz)).2.symm
  unfold gen
  simp only [hv,if_true]
  rw [calcV_congr hr,actOf_congr hns hr]
  split at h
  ·obtain ⟨v,hv,hk⟩:=calcK_elim h
   exact ⟨_,by simp only [hv],hk⟩
  ·split at h
   ·rename_i hc;exact ⟨_,by simp only [hc],h⟩
   ·rename_i hc;exact ⟨_,by simp only [hc],h⟩
 ·exact h.elim
def viaP (r:Option Plan) (K:Plan→Prop):Prop:=match r with
 | some p=>K p
 | none=>False
theorem viaP_elim {r:Option Plan} {K:Plan→Prop} (h:viaP r K):∃ v,r=some v∧K v:=by
 unfold viaP at h;split at h
 ·exact ⟨_,rfl,h⟩
 ·exact h.elim
def loadK (P:Program) (t:TypeId) (cs:List Value) (off:Nat) (K:Value→Prop):Prop :=
 match P.underlying t with
 | some (.struct _) | some (.array _ _)=>match P.info? t with
  | some i=>need (off+i.size≤cs.length) (K (.agg ((cs.drop off).take i.size).toArray))
  | .none=>False
 | some _=>getK cs off K
 | .none=>False
theorem loadK_elim {P:Program} {t:TypeId} {cs:List Value} {off:Nat} {K:Value→Prop} (h:loadK P t cs off K):∃ v,loadL P t cs off=some v∧K v:=by
 unfold loadK at h
 split at h
 ·rename_i hu
  split at h
  ·rename_i i hi
   obtain ⟨hc,h⟩:=need_elim h
   exact ⟨_,by simp only [loadL,hu,hi];rw [if_pos hc],h⟩
  ·exact h.elim
 ·rename_i hu
  split at h
  ·rename_i i hi
   obtain ⟨hc,h⟩:=need_elim h
   exact ⟨_,by simp only [loadL,hu,hi];rw [if_pos hc],h⟩
  ·exact h.elim
 ·rename_i d h1 h2 hu
  obtain ⟨v,hv,h⟩:=getK_elim h
  refine ⟨v,?_,h⟩
  have:loadL P t cs off=cs[off]? := by
   unfold loadL
   rw [hu];cases d <;> first | exact (h1 _ rfl).elim | exact (h2 _ _ rfl).elim | rfl
  rw [this]
  exact hv
 ·exact h.elim
def planK (P:Program) (rf:RF) (o:Oper) (e:ME) (K:Plan→Prop):Prop :=
 match o.op with
 | .move _ | .assign _ | .alloc _ | .box _ _=>viaP (plan P rf o e) K
 | .load t x=>match boxOf rf e x with
  | some (b,off)=>match e.box b with
   | some cs=>loadK P t cs off fun v=>K (.upd (dstU o.dst (.v v)))
   | .none=>False
  | .none=>genK P o e K
 | .store t x y=>match boxOf rf e x with
  | some (b,off)=>match e.box b with
   | some cs=>match ev e y with
    | .v z=>match P.info? t with
     | some i=>bsel (z.cells.size==i.size && z.cells.toList.all Value.oneCell' && o.dst.isNone) (need (off+i.size≤cs.length) (K (.upd (.setbox b (setL cs off z.cells.toList))))) False
     | .none=>False
    | _=>False
   | .none=>False
  | .none=>genK P o e K
 | .fieldAddr _ x _=>match boxOf rf e x with
  | some _=>viaP (plan P rf o e) K
  | .none=>genK P o e K
 | .indexAddr t x ix=>match boxOf rf e x with
  | some (b,off)=>match P.underlying t with
   | some (.array len elem)=>match ev e ix with
    | .v (.int _ i)=>match P.info? elem with
     | some j=>need (0≤i∧i<len) (viaP (refU rf o.dst b (off+i.toNat*j.size)) K)
     | .none=>False
    | _=>False
   | _=>False
  | .none=>genK P o e K
 | .nilCheck x=>match boxOf rf e x with
  | some _=>viaP (plan P rf o e) K
  | .none=>genK P o e K
 | _=>genK P o e K
theorem planK_elim {P:Program} {rf:RF} {o:Oper} {e:ME} {K:Plan→Prop} (h:planK P rf o e K):∃ pl,plan P rf o e=some pl∧K pl:=by
 obtain ⟨dst,op,ty,pos,after,guard⟩:=o
 cases op with
 | move x | assign x | alloc x | box x y=>exact viaP_elim h
 | load t x =>
  simp only [planK] at h
  split at h
  ·rename_i b off hb
   split at h
   ·rename_i cs hcs
    obtain ⟨v,hv,hk⟩:=loadK_elim h
    exact ⟨_,by simp only [plan,hb,hcs,hv],hk⟩
   ·exact h.elim
  ·rename_i hb;simp only [plan,hb];exact genK_elim h
 | store t x y =>
  simp only [planK] at h
  split at h
  ·rename_i b off hb
   split at h
   ·rename_i cs hcs
    split at h
    ·rename_i z hz
     split at h
     ·rename_i i hi
      generalize hc:(z.cells.size==i.size && z.cells.toList.all Value.oneCell' && dst.isNone)=bb at h
      cases bb with
      | true =>
       obtain ⟨hl,hk⟩:=need_elim (show need _ _ from h)
       simp only [Bool.and_eq_true] at hc
       exact ⟨_,by simp only [plan,hb,hcs,hz,hi];rw [if_pos (by simp only [Bool.and_eq_true,decide_eq_true_eq];exact ⟨⟨⟨hc.1.1,hl⟩,hc.1.2⟩,hc.2⟩)],hk⟩
      | false=>exact (show False from h).elim
     ·exact h.elim
    ·exact h.elim
   ·exact h.elim
  ·rename_i hb;simp only [plan,hb];exact genK_elim h
 | fieldAddr s x f =>
  simp only [planK] at h
  split at h
  ·exact viaP_elim h
  ·rename_i hb;simp only [plan,hb];exact genK_elim h
 | indexAddr t x ix =>
  simp only [planK] at h
  split at h
  ·rename_i b off hb
   split at h
   ·rename_i len elem hu
    split at h
    ·rename_i k i hi
     split at h
     ·rename_i j hj
      obtain ⟨hl,hk⟩:=need_elim h
      obtain ⟨pl,hp,hk⟩:=viaP_elim hk
      exact ⟨pl,by simp only [plan,hb,hu,hi,hj];rw [if_pos hl];exact hp,hk⟩
     ·exact h.elim
    ·exact h.elim
   ·exact h.elim
  ·rename_i hb;simp only [plan,hb];exact genK_elim h
 | nilCheck x =>
  simp only [planK] at h
  split at h
  ·exact viaP_elim h
  ·rename_i hb;simp only [plan,hb];exact genK_elim h
 | _=>exact genK_elim h
theorem cw_ {A B:Prop} (k:B) (h:B→A:=by intro k;(try (conv=>whnf));exact k):A:=h k
theorem n_ {G c A B:Prop} (k:B) (e:c→A→G:=by first | exact need_intro | exact must.mk | exact ov_c) (hc:c:=by first | omega | exact ⟨by omega,by omega⟩ | (simp only [loK,hiK];omega) | decide) (h:B→A:=by intro k;(conv=>whnf);exact k):G:=e hc (h k)
theorem br_ {b:Bool} {A B P N:Prop} (ht:P→A) (hf:N→B) (h1:b=true→P:=by intro q;first | (simp only [bsL] at q;exact q) | exact q) (h2:b=false→N:=by intro q;first | (simp only [bsL] at q;exact q) | exact q):bsel b A B:=bsel_intro (fun q=>ht (h1 q)) fun q=>hf (h2 q)
theorem bt_ {b:Bool} {A B C:Prop} (k:C) (hb:b=true:=by first | (simp <;> omega) | decide | omega) (h:C→A:=by intro k;(conv=>whnf);exact k):bsel b A B:=bsel_true hb (h k)
theorem bf_ {b:Bool} {A B C:Prop} (k:C) (hb:b=false:=by first | (simp <;> omega) | decide | omega) (h:C→B:=by intro k;(conv=>whnf);exact k):bsel b A B:=bsel_false hb (h k)
end Go.Mid
