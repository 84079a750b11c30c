/-
  A cache: what it is in memory; translations are taken away.
-/
import Derived.Test.YtdhlpighdlnohaaGreatTbTlb1
set_option linter.unusedSimpArgs false
set_option linter.unusedVariables false
set_option maxHeartbeats 8000000
set_option maxRecDepth 10000
set_option linter.unusedSimpArgs false
set_option linter.unusedVariables false
namespace Go.Proofs.YtdhlpighdlnohaaGreat.Tb
open Go Go.Mid Go.RowKit
abbrev rfXTbTlb20:Go.Mid.RF:=[(1,1),(4,1),(6,1),(8,1),(11,1),(14,1),(2,2),(3,3),(17,3)]
abbrev rfXTbTlb21:Go.Mid.RF:=[(2,2),(5,2),(8,2),(11,2),(20,2),(26,2),(3,3),(13,3),(15,3),(24,3),(30,3)]
attribute [local irreducible] mid structOk
structure En where
 asid:Int
 page:Int
 level:Int
 pte:Int
 deriving DecidableEq
structure Ky where
 asid:Int
 page:Int
 level:Int
 deriving DecidableEq
structure Rq where
 set:Bool
 byVa:Bool
 byAsid:Bool
 va:Int
 asid:Int
def En.cells (e:En):List Value:=[.int .i64 e.asid,.int .u64 e.page,.int .i64 e.level,.int .u64 e.pte]
def En.v (e:En):Value:=.agg e.cells.toArray
def Ky.cells (k:Ky):List Value:=[.int .i64 k.asid,.int .u64 k.page,.int .i64 k.level]
def Ky.v (k:Ky):Value:=.agg k.cells.toArray
def Rq.cells (r:Rq):List Value:=[.bool r.set,.bool r.byVa,.bool r.byAsid,.int .u64 r.va,.int .i64 r.asid]
def Rq.v (r:Rq):Value:=.agg r.cells.toArray
def En.ok (e:En):Prop:=(0≤e.page∧e.page<2 ^ 64)∧0≤e.pte∧e.pte<2 ^ 64
def Rq.ok (r:Rq):Prop:=0≤r.va∧r.va<2 ^ 64
def keyI (e:En):Ky:=⟨if globI e.pte then -1 else e.asid,pageI e.page e.level,e.level⟩
def forgI (r:Rq) (e:En):Bool:=r.set && (!r.byVa || decide (pageI r.va e.level=pageI e.page e.level)) && (!r.byAsid || (decide (e.asid=r.asid) && !globI e.pte))
theorem and1 (x:Int) (hx:0≤x∧x<2 ^ 64):IntKind.u64.wrap (BitVec.ofInt IntKind.u64.bits x &&& BitVec.ofInt IntKind.u64.bits 1).toNat=x % 2:=by
 obtain ⟨n,rfl⟩:∃ n:Nat,x=n:=⟨x.toNat,by omega⟩
 have hn:n<2 ^ 64:=by omega
 have e1:(BitVec.ofInt IntKind.u64.bits (n:Int) &&& BitVec.ofInt IntKind.u64.bits 1).toNat=n % 2:=by
  show (BitVec.ofInt 64 (n:Int) &&& BitVec.ofInt 64 1).toNat=_
  have h1:BitVec.ofInt 64 (n:Int)=BitVec.ofNat 64 n:=by apply BitVec.eq_of_toNat_eq;simp
  have h2:BitVec.ofInt 64 1=BitVec.ofNat 64 1:=by decide
  rw [h1,h2,BitVec.toNat_and,BitVec.toNat_ofNat,BitVec.toNat_ofNat,Nat.mod_eq_of_lt hn]
  exact Nat.and_one_is_mod n
 rw [e1,IntWalk.u64_in _ (by omega)]
 simp
section
variable {h:Hp} {K:Value→Hp→Prop}
theorem glob_x (p:Int) (hp:0≤p∧p<2 ^ 64) (hk:K (.bool (globI p)) h):X Tryz.prog 62 #[.int .u64 p] h K:=by
 refine fnv (args:=_) mixed [] [] [] Tryz.func62 rfl (by kernel_rfl) (cw_ ?_)
 refine fnv (args:=_) mixed [] [] [] Tryz.func63 rfl (by kernel_rfl) (cw_ ?_)
 refine n_ ?_
 refine val_by (Int.fdiv_eq_ediv_of_nonneg p (by decide)) (cw_ ?_)
 refine val_by (and1 (p / 2 ^ 5) (by omega)) (cw_ ?_)
 exact kq hk (bI (by rw [Bool.eq_iff_iff];simp [globI]))
theorem vsame_x (a b l:Int) (ha:0≤a∧a<2 ^ 64) (hb:0≤b∧b<2 ^ 64) (hk:K (.bool (decide (pageI a l=pageI b l))) h):X Tryz.prog 61 #[.int .u64 a,.int .u64 b,.int .i64 l] h K:=by
 refine fnv (args:=_) mixed [] [] [] Tryz.func61 rfl (by kernel_rfl) (cw_ ?_)
 refine page_x _ _ ha (cw_ ?_)
 refine page_x _ _ hb (cw_ ?_)
 exact kq hk (bI (by rw [Bool.eq_iff_iff];simp))
theorem keyOf_x (e:En) (he:e.ok) (hk:K (keyI e).v h):X Tryz.prog 136 #[e.v] h K:=by
 refine fnv (args:=_) mixed rfXTbTlb20 [] [] Tryz.func136 rfl (by kernel_rfl) (cw_ ?_)
 refine page_x _ _ he.1 ?_
 refine ⟨trivial,cw_ ?_⟩
 refine glob_x _ he.2 (cw_ ?_)
 unfold keyI at hk
 refine br_ (fun h1=>?_) fun h1=>?_
 ·conv=>whnf
  rw [if_pos h1] at hk
  exact hk
 ·conv=>whnf
  rw [if_neg (by simp [h1])] at hk
  exact hk
theorem forgets_x (r:Rq) (e:En) (hr:r.ok) (he:e.ok) (hk:K (.bool (forgI r e)) h):X Tryz.prog 16 #[r.v,e.v] h K:=by
 obtain ⟨s,bv,ba,va,asd⟩:=r
 unfold forgI at hk
 cases s <;> cases bv <;> cases ba
 all_goals
  refine fnv (args:=_) mixed rfXTbTlb21 [] [] Tryz.func16 rfl (by kernel_rfl) (cw_ ?_)
 iterate 4 exact hk
 ·exact hk
 ·refine br_ (fun h1=>?_) fun h1=>?_
  ·conv=>whnf
   refine glob_x _ he.2 (cw_ ?_)
   exact kq hk (bI (by simp [h1]))
  ·conv=>whnf
   exact kq hk (bI (by simp [h1]))
 ·refine vsame_x _ _ _ hr he.1 (cw_ ?_)
  refine br_ (fun h1=>?_) fun h1=>?_
  ·conv=>whnf
   exact kq hk (bI (by simp [h1]))
  ·conv=>whnf
   exact kq hk (bI (by simp [h1]))
 ·refine vsame_x _ _ _ hr he.1 (cw_ ?_)
  refine br_ (fun h1=>?_) fun h1=>?_
  ·conv=>whnf
   exact kq hk (bI (by simp [h1]))
  ·conv=>whnf
   refine br_ (fun h2=>?_) fun h2=>?_
   ·conv=>whnf
    refine glob_x _ he.2 (cw_ ?_)
    exact kq hk (bI (by simp [h1,h2]))
   ·conv=>whnf
    exact kq hk (bI (by simp [h1,h2]))
end
end Go.Proofs.YtdhlpighdlnohaaGreat.Tb
namespace Go.Proofs.YtdhlpighdlnohaaGreat.Tb
open Go Go.Mid Go.RowKit
attribute [local irreducible] mid structOk
theorem aRunK_call {P:Program} {ρ:Operand→Value} {o:Oper} {g:FuncId} {args:List Value} {h:Hp} {K:Value→Hp→Prop} (hA:actOf P ρ o=if callable P g=true then .call g args else .sem (execOp ρ o)) (hc:callable P g=true) (hx:X P g args.toArray h K):aRunK P (actOf P ρ o) h K:=by
 rw [hA,if_pos hc];exact hx
theorem kyLen (k:Ky):k.cells.length=3:=rfl
theorem enLen (e:En):e.cells.length=4:=rfl
theorem tKyA:isAggT Tryz.prog 192 = some true:=by kernel_rfl
theorem tKyS:sizeT Tryz.prog 192 = some 3:=by kernel_rfl
theorem tEnA:isAggT Tryz.prog 78 = some true:=by kernel_rfl
theorem tEnS:sizeT Tryz.prog 78 = some 4:=by kernel_rfl
structure Calls1 (g:FuncId) (first captured:Array Value) (ks:List Ky) (p:Ky→Bool) (b:Nat) (Inv:Nat→Hp→Prop):Prop where
 call:callable Tryz.prog g=true
 stab:∀ i h o,Inv i h→Inv i (h.set b o)
 run:∀ i k h ob K,ks[i]? = some k→Inv i h→h b=some ob→(∀ h',Inv (i+1) h'→h' b=some ob→K (.bool (p k)) h')→X Tryz.prog g (first.toList++([k.v]++captured.toList)).toArray h K
theorem flat_split {α:Type} (f:α→List Value) {l:List α} {i:Nat} (hi:i<l.length):l.flatMap f=(l.take i).flatMap f++(f l[i]++(l.drop (i+1)).flatMap f):=by
 have e:l=l.take i++l[i] :: l.drop (i+1):=by rw [← List.drop_eq_getElem_cons hi,List.take_append_drop]
 rw [← List.flatMap_cons,← List.flatMap_append,← e]
set_option maxHeartbeats 4000000 in
set_option maxRecDepth 10000 in
theorem indexFunc_x {g:FuncId} {first captured:Array Value} {ks:List Ky} {p:Ky→Bool} {b cap:Nat} {Inv:Nat→Hp→Prop} (c:Calls1 g first captured ks p b Inv) {ob:Obj} {rest:List Value} (ho:ob=rowO 192 (ks.flatMap Ky.cells++rest)) (hl:ks.length≤2 ^ 40) (h:Hp) (K:Value→Hp→Prop) (hi:Inv 0 h) (hb:h b=some ob)
  (hno:(∀ k ∈ ks,p k=false)→∀ h',Inv ks.length h'→h' b=some ob→K (.int .i64 (-1)) h')
  (hyes:∀ i,(hi:i<ks.length)→(∀ k ∈ ks.take i,p k=false)→p ks[i]=true→∀ h',Inv (i+1) h'→h' b=some ob→K (.int .i64 i) h') :
  X Tryz.prog 332 #[.slice (some ⟨b,0,none⟩) ks.length cap,.func (.func g) first captured] h K:=by
 refine fnv (args:=_) mixed [] [] [] Tryz.func332 rfl (by kernel_rfl) (cw_ ?_)
 refine loop_at [8] [] (fun r vs _ h'=>∃ j:Nat,j≤ks.length∧r=ks.length - j∧vs=[.v (.int .i64 j)]∧Inv j h'∧h' b=some ob∧∀ k ∈ ks.take j,p k=false) ks.length ⟨0,by omega,by omega,rfl,hi,hb,by simp⟩ ?_
 rintro r vs cs mm bx h' ⟨j,hj,rfl,rfl,hinv,hb',hp⟩
 conv=>whnf
 refine br_ (fun h1=>?_) fun h1=>?_
 ·have hjl:j<ks.length:=by omega
  conv=>whnf
  refine n_ ?_
  refine ⟨_,loadH_agg tKyA tKyS kyLen (by rw [hb',ho]) (List.getElem?_eq_getElem hjl),?_⟩;conv=>whnf
  refine aRunK_call (args:=first.toList++([Ky.v ks[j]]++captured.toList)) rfl c.call ?_
  refine c.run j ks[j] h' ob _ (List.getElem?_eq_getElem hjl) hinv hb' (fun h2 i2 b2=>?_)
  conv=>whnf
  refine br_ (fun h2=>?_) fun h2=>?_
  ·conv=>whnf
   exact hyes j hjl hp h2 _ i2 b2
  ·conv=>whnf
   refine n_ ?_
   refine ⟨ks.length - (j+1),by omega,j+1,by omega,rfl,rfl,i2,b2,fun k hk=>?_⟩
   rw [List.take_succ_eq_append_getElem hjl] at hk
   rcases List.mem_append.1 hk with hk | hk
   ·exact hp k hk
   ·simp only [List.mem_singleton] at hk;subst hk;exact h2
 ·obtain rfl:j=ks.length:=by omega
  conv=>whnf
  rw [List.take_length] at hp
  exact hno hp _ hinv hb'
abbrev left (p:Ky→Bool) (ks:List Ky) (j:Nat):List Ky:=(ks.take j).filter (fun k=>!p k)
theorem left_succ {p:Ky→Bool} {ks:List Ky} {j:Nat} (hj:j<ks.length):left p ks (j+1)=if p ks[j] then left p ks j else left p ks j++[ks[j]]:=by
 unfold left
 rw [List.take_succ_eq_append_getElem hj,List.filter_append]
 cases hp:p ks[j] <;> simp [hp]
set_option maxHeartbeats 4000000 in
set_option maxRecDepth 10000 in
theorem deleteFunc_x {g:FuncId} {first captured:Array Value} {ks:List Ky} {p:Ky→Bool} {b cap:Nat} {Inv:Nat→Hp→Prop} (c:Calls1 g first captured ks p b Inv) {n:Nat} (hkn:ks.length=n) {rest:List Value} (hcap:ks.length≤cap) (hr:rest.length=(cap - ks.length)*3) (hl:ks.length≤2 ^ 40) (h:Hp) (K:Value→Hp→Prop) (hi:Inv 0 h) (hb:h b=some (rowO 192 (ks.flatMap Ky.cells++rest)))
  (hk:∀ s h',Inv ks.length h'→Gr h' 192 3 s (ks.filter (fun k=>!p k)).length ((ks.filter (fun k=>!p k)).flatMap Ky.cells) (some b)→K s h') :
  X Tryz.prog 249 #[.slice (some ⟨b,0,none⟩) n cap,.func (.func g) first captured] h K:=by
 subst hkn
 refine fnv (args:=_) mixed [(7,7)] [] [] Tryz.func249 rfl (by kernel_rfl) (cw_ ?_)
 refine indexFunc_x c rfl hl h _ hi hb (fun hno h1 i1 b1=>?_) (fun i hil hno hyes h1 i1 b1=>?_)
 ·conv=>whnf
  refine hk _ _ i1 ?_
  have e:ks.filter (fun k=>!p k)=ks:=List.filter_eq_self.2 fun k hk=>by rw [hno k hk];rfl
  rw [e]
  exact ⟨flat_length kyLen _,.inr ⟨b,cap,rest,rfl,rfl,hcap,hr,b1⟩⟩
 ·conv=>whnf
  skip
  refine n_ ?_
  have hl0:left p ks i=ks.take i:=List.filter_eq_self.2 fun k hk=>by rw [hno k hk];rfl
  refine loop_at [6,5] [] (fun r vs _ h'=>∃ j:Nat,i+1≤j∧j≤ks.length∧r=ks.length - j∧vs=[.v (.int .i64 j),.v (.int .i64 (left p ks j).length)]∧Inv j h'∧(left p ks j).length<j∧∃ mid:List Value,mid.length=(j - (left p ks j).length)*3∧h' b=some (rowO 192 ((left p ks j).flatMap Ky.cells++(mid++((ks.drop j).flatMap Ky.cells++rest))))) (ks.length - (i+1))
   ⟨i+1,by omega,by omega,by omega,?_,i1,?_,Ky.cells ks[i],?_,?_⟩ ?_
  ·show [MV.v _,MV.v _]=_
   rw [show left p ks (i+1)=ks.take i by rw [left_succ hil,if_pos hyes,hl0],List.length_take,Nat.min_eq_left (by omega)]
   rfl
  ·rw [show left p ks (i+1)=ks.take i by rw [left_succ hil,if_pos hyes,hl0],List.length_take];omega
  ·rw [show left p ks (i+1)=ks.take i by rw [left_succ hil,if_pos hyes,hl0],List.length_take,Nat.min_eq_left (by omega),show i+1 - i=1 by omega];rfl
  ·rw [show left p ks (i+1)=ks.take i by rw [left_succ hil,if_pos hyes,hl0],b1,flat_split Ky.cells hil]
   simp only [List.append_assoc]
  rintro r vs cs mm bx h' ⟨j,hj1,hj2,rfl,rfl,hinv,hlt,mid,hmid,hb'⟩
  conv=>whnf
  refine br_ (fun h3=>?_) fun h3=>?_
  ·have hjl:j<ks.length:=by omega
   have hls:=left_succ (p:=p) hjl
   conv=>whnf
   refine n_ ?_
   have e1:h' b=some (rowO 192 (((left p ks j).flatMap Ky.cells++mid)++(Ky.cells ks[j]++((ks.drop (j+1)).flatMap Ky.cells++rest)))):=by
    rw [hb',List.drop_eq_getElem_cons hjl,List.flatMap_cons];simp only [List.append_assoc]
   have hA:((left p ks j).flatMap Ky.cells++mid).length=j*3:=by rw [List.length_append,flat_length kyLen,hmid];omega
   refine ⟨_,loadH_at tKyA tKyS e1 hA (kyLen _),cw_ ?_⟩
   refine aRunK_call (args:=first.toList++([Ky.v ks[j]]++captured.toList)) rfl c.call ?_
   refine c.run j ks[j] h' _ _ (List.getElem?_eq_getElem hjl) hinv e1 (fun h2 i2 b2=>?_)
   conv=>whnf
   cases hpk:p ks[j] with
   | true =>
    rw [if_pos hpk] at hls
    conv=>whnf
    refine n_ ?_
    refine ⟨ks.length - (j+1),by omega,j+1,by omega,by omega,rfl,?_,i2,by rw [hls];omega,mid++Ky.cells ks[j],?_,?_⟩
    ·show [MV.v _,MV.v _]=_
     rw [hls];rfl
    ·rw [hls,List.length_append,hmid,kyLen];omega
    ·rw [hls,b2];simp only [List.append_assoc]
   | false =>
    rw [if_neg (by simp [hpk])] at hls
    conv=>whnf
    refine n_ ?_
    obtain ⟨m3,mid',hm3,rfl⟩:∃ m3 mid':List Value,m3.length=3∧mid=m3++mid':=⟨mid.take 3,mid.drop 3,by rw [List.length_take];omega,(List.take_append_drop 3 mid).symm⟩
    have e2:h2 b=some (rowO 192 ((left p ks j).flatMap Ky.cells++(m3++(mid'++(Ky.cells ks[j]++((ks.drop (j+1)).flatMap Ky.cells++rest)))))):=by rw [b2];simp only [List.append_assoc]
    refine ⟨_,storeH_at (z:=Ky.v ks[j]) tKyS e2 (flat_length kyLen _) hm3 (kyLen _) rfl,cw_ ?_⟩
    refine n_ ?_
    refine n_ ?_
    refine ⟨ks.length - (j+1),by omega,j+1,by omega,by omega,rfl,?_,c.stab _ _ _ i2,by rw [hls,List.length_append];simp;omega,mid'++Ky.cells ks[j],?_,?_⟩
    ·show [MV.v _,MV.v _]=_
     rw [hls,List.length_append];rfl
    ·rw [hls,List.length_append,List.length_append,kyLen]
     rw [List.length_append,hm3] at hmid
     simp only [List.length_singleton];omega
    ·rw [hls,Hp.set_same,List.flatMap_append]
     simp only [List.append_assoc]
     rfl
  ·obtain rfl:j=ks.length:=by omega
   have hfl:left p ks ks.length=ks.filter (fun k=>!p k):=by unfold left;rw [List.take_length]
   rw [hfl] at hb' hmid hlt
   rw [List.drop_length,List.flatMap_nil,List.nil_append] at hb'
   conv=>whnf
   rw [hfl]
   obtain ⟨Z,hZ,hclr⟩:=clrH_at (P:=Tryz.prog) (t := 177) (e := 192) (z:=.agg #[.int .i64 0,.int .u64 0,.int .i64 0]) (n:=ks.length - (ks.filter (fun k=>!p k)).length) (c:=cap - (ks.filter (fun k=>!p k)).length) (by kernel_rfl) (by kernel_rfl) rfl hb' (flat_length kyLen _) hmid (by omega)
   refine n_ ?_
   refine bf_ ?_ (by rw [decide_eq_false_iff_not];omega)
   refine io_intro (by
    show clrH Tryz.prog 177 h' (.slice (some ((⟨b,0,none⟩:Addr).add ((ks.filter (fun k=>!p k)).length*3))) (ks.length - (ks.filter (fun k=>!p k)).length) (cap - (ks.filter (fun k=>!p k)).length))=_
    rw [addr_add,Nat.zero_add];exact hclr) (fun h6 at6 ot6=>?_)
   conv=>whnf
   refine n_ ?_
   refine bf_ ?_ (by rw [decide_eq_false_iff_not];omega)
   have e6:h6=h'.set b (rowO 192 ((ks.filter (fun k=>!p k)).flatMap Ky.cells++(Z++rest))):=by
    funext x
    by_cases hx:x=b
    ·subst hx;rw [at6,Hp.set_same]
    ·rw [ot6 x hx,Hp.set_other _ _ hx]
   refine hk _ _ (by rw [e6];exact c.stab _ _ _ hinv) ⟨flat_length kyLen _,.inr ⟨b,cap,Z++rest,rfl,rfl,by omega,?_,at6⟩⟩
   rw [List.length_append,hZ,hmid,hr,← Nat.add_mul]
   congr 1;omega
set_option maxHeartbeats 4000000 in
set_option maxRecDepth 10000 in
theorem cloneK_x (a:Addr) (ks:List Ky) (n cap:Nat) (hkn:ks.length=n) (h:Hp) (K:Value→Hp→Prop) (hl:n≤2 ^ 30)
  (hx:∀ j v,(ks.flatMap Ky.cells)[j]? = some v→h.cell? (a.add j)=some v)
  (hk:∀ s h' b,h.le h'→h b=none→Gr h' 192 3 s ks.length (ks.flatMap Ky.cells) (some b)→K s h'):X Tryz.prog 139 #[.slice (some a) n cap] h K:=by
 subst hkn
 refine fnv (args:=_) mixed [] [] [] Tryz.func139 rfl (by kernel_rfl) (cw_ ?_)
 intro b hb
 conv=>whnf
 have hle:=Hp.le_set (o:=rowO 192 []) hb
 refine appMany (t := 177) (e := 192) (i:=Tryz.prog.types[192]) (z:=.agg #[.int .i64 0,.int .u64 0,.int .i64 0]) (size:=3) (bytes:=24) (by kernel_rfl) (by kernel_rfl) (by kernel_rfl) (by kernel_rfl) (by kernel_rfl) rfl (by decide)
  (h:=h.set b (rowO 192 [])) (cs:=[]) (n:=0) (ob:=some b) (base:=some a) rfl rfl rfl ⟨rfl,.inr ⟨b,0,[],rfl,rfl,Nat.le_refl _,rfl,Hp.set_same _ _ _⟩⟩ (flat_length kyLen _) (fun j v hj=>⟨a,rfl,cell_le hle (hx j v hj)⟩) (fun hh=>by cases hh) ?_ (by omega) (fun s' h' ob' hg ht=>?_)
 ·rw [List.all_eq_true]
  intro v hv
  obtain ⟨k,_,hv⟩:=List.mem_flatMap.1 hv
  simp only [Ky.cells,List.mem_cons,List.not_mem_nil,or_false] at hv
  rcases hv with rfl | rfl | rfl <;> rfl
 ·have ht2:=ht.le hle fun c hc=>by cases hc;exact hb
  conv=>whnf
  rw [Nat.zero_add,List.nil_append] at hg
  obtain ⟨b',hb'⟩:∃ b',ob'=some b':=by
   rcases ht with ⟨_,rfl⟩ | ⟨b',_,rfl,_⟩
   ·exact ⟨b,rfl⟩
   ·exact ⟨b',rfl⟩
  subst hb'
  exact hk s' h' b' ht2.1 (ht2.2 b' rfl) hg
end Go.Proofs.YtdhlpighdlnohaaGreat.Tb
namespace Go.Proofs.YtdhlpighdlnohaaGreat.Tb
open Go Go.Mid Go.RowKit
attribute [local irreducible] mid structOk
theorem kyT:KeyT Tryz.prog 192 Ky.v where
 under:=Option.isSome_iff_exists.1 (by kernel_rfl)
 key:=fun a=>by kernel_rfl
 equal:=fun a b=>by
  have e:eqV Tryz.prog 10000 192 a.v b.v=some ((a.asid==b.asid) && ((a.page==b.page) && ((a.level==b.level) && true))):=by kernel_rfl
  rw [e]
  refine congrArg some ?_
  rw [Bool.eq_iff_iff]
  obtain ⟨a1,a2,a3⟩:=a
  obtain ⟨b1,b2,b3⟩:=b
  simp
 same:=fun a=>by
  simp [Ky.v,Ky.cells,Instr.sameBits]
theorem mapU:Tryz.prog.underlying 176 = some (.map 192 78):=by kernel_rfl
theorem enZ:zeroT Tryz.prog 78 = some (En.v ⟨0,0,0,0⟩):=by kernel_rfl
def lookE (L:List En) (k:Ky):Option Value:=(L.find? (fun e=>decide (keyI e=k))).map En.v
structure Good (size:Int) (L:List En):Prop where
 sz:1≤size∧size≤32
 len:(L.length:Int)≤size
 ok:∀ e ∈ L,e.ok
 lv:∀ e ∈ L,0≤e.level∧e.level≤2∧0≤e.asid∧e.asid≤65535∧pageI e.page e.level=e.page
 dist:(L.map keyI).Nodup
def TlbAt (h:Hp) (c m b:Nat) (size:Int) (L:List En):Prop:=∃ om age ob,(∀ x,ob=some x→x=b)∧h c=some (rowO 179 [.int .i64 size,.map (some m),age])∧h m=some om∧MapO Ky.v (lookE L) om∧Gr h 192 3 age L.length ((L.map keyI).flatMap Ky.cells) ob
def TlbH (h:Hp) (c:Nat) (size:Int) (L:List En):Prop:=∃ m b,TlbAt h c m b size L
theorem TlbAt.le {h h':Hp} {c m b:Nat} {size:Int} {L:List En} (t:TlbAt h c m b size L) (hle:h.le h'):TlbAt h' c m b size L:=by
 obtain ⟨om,age,ob,h0,h1,h2,h3,h4⟩:=t
 exact ⟨om,age,ob,h0,hle _ _ h1,hle _ _ h2,h3,h4.le hle⟩
theorem TlbH.le {h h':Hp} {c:Nat} {size:Int} {L:List En} (t:TlbH h c size L) (hle:h.le h'):TlbH h' c size L:=by
 obtain ⟨m,b,t⟩:=t
 exact ⟨m,b,t.le hle⟩
theorem lookE_mem {L:List En} (hd:(L.map keyI).Nodup) {e:En} (he:e ∈ L):lookE L (keyI e)=some e.v:=by
 unfold lookE
 induction L with
 | nil=>cases he
 | cons x L ih =>
  rw [List.find?_cons]
  rw [List.map_cons,List.nodup_cons] at hd
  rcases List.mem_cons.1 he with rfl | he
  ·simp
  ·have:¬ keyI x=keyI e:=fun hh=>hd.1 (by rw [hh];exact List.mem_map.2 ⟨e,he,rfl⟩)
   simp only [this,decide_false]
   exact ih hd.2 he
theorem lookE_none {L:List En} {k:Ky} (h:∀ e ∈ L,keyI e≠k):lookE L k=none:=by
 unfold lookE
 rw [List.find?_eq_none.2 (fun e he=>by simpa using h e he)];rfl
theorem MapO.congr {α:Type} [DecidableEq α] {enc:α→Value} {f g:α→Option Value} {o:Obj} (m:MapO enc f o) (h:∀ a,f a=g a):MapO enc g o:=by
 obtain ⟨l,c,e1,e2,e3⟩:=m
 exact ⟨l,c,e1,e2,fun a=>(e3 a).trans (h a)⟩
structure Want (g:FuncId) (first captured:Array Value) (w:En→Bool) (wk:Hp) (L:List En):Prop where
 call:callable Tryz.prog g=true
 run:∀ e ∈ L,∀ (h:Hp) (K:Value→Hp→Prop),wk.le h→K (.bool (w e)) h→X Tryz.prog g (first.toList++([e.v]++captured.toList)).toArray h K
theorem loadC {P:Program} {t el:TypeId} (ht:isAggT P t=some false) {h:Hp} {b i:Nat} {l:List Value} {v:Value} (hb:h b=some (rowO el l)) (hi:l[i]? = some v):loadH P t h ((⟨b,0,none⟩:Addr).add i)=some v:=by
 rw [addr_add,Nat.zero_add,loadH_cell ht]
 exact cell_row hb hi
theorem loadC0 {P:Program} {t el:TypeId} (ht:isAggT P t=some false) {h:Hp} {b:Nat} {l:List Value} {v:Value} (hb:h b=some (rowO el l)) (hi:l[0]? = some v):loadH P t h ⟨b,0,none⟩=some v:=by
 rw [loadH_cell ht]
 exact cell_row hb hi
theorem storeC {P:Program} {t el:TypeId} (ht:sizeT P t=some 1) {h:Hp} {b i:Nat} {l:List Value} {z:Value} (hb:h b=some (rowO el l)) (hi:i<l.length) (hz:z.cells.toList=[z]) (h1:z.oneCell'=true):storeH P t h ((⟨b,0,none⟩:Addr).add i) z=some (b,rowO el (l.set i z)):=by
 rw [addr_add,Nat.zero_add]
 exact storeH_row ht hb hi hz h1
theorem sizS:sizeT Tryz.prog 177 = some 1:=by kernel_rfl
theorem aggF:isAggT Tryz.prog 172 = some false:=by kernel_rfl
theorem aggP:isAggT Tryz.prog 115 = some false:=by kernel_rfl
theorem aggM:isAggT Tryz.prog 176 = some false:=by kernel_rfl
theorem aggS:isAggT Tryz.prog 177 = some false:=by kernel_rfl
theorem aggI:isAggT Tryz.prog 3 = some false:=by kernel_rfl
set_option maxHeartbeats 4000000 in
set_option maxRecDepth 10000 in
theorem drop1_x {gw:FuncId} {fi ca:Array Value} {w:En→Bool} {wk:Hp} {L:List En} (hw:Want gw fi ca w wk L) {bw bt c m:Nat} {size:Int} {age:Value} {f:Ky→Option Value} {om:Obj} {e:En} (he:e ∈ L) (h:Hp) (K:Value→Hp→Prop)
  (hbw:h bw=some (rowO 172 [.func (.func gw) fi ca])) (hbt:h bt=some (rowO 115 [.pointer (some ⟨c,0,none⟩)])) (hc:h c=some (rowO 179 [.int .i64 size,.map (some m),age])) (hm:h m=some om) (hf:MapO Ky.v f om) (hfe:f (keyI e)=some e.v) (hwk:wk.le h)
  (hno:w e=false→K (.bool false) h) (hyes:w e=true→∀ om',MapO Ky.v (putF f (keyI e) none) om'→K (.bool true) (h.set m om')) :
  X Tryz.prog 250 #[(keyI e).v,.pointer (some ⟨bw,0,none⟩),.pointer (some ⟨bt,0,none⟩)] h K:=by
 refine fnv (args:=_) mixed [(3,3)] [] [] Tryz.func250 rfl (by kernel_rfl) (cw_ ?_)
 refine ⟨_,loadC0 aggF hbw rfl,cw_ ?_⟩
 refine ⟨_,loadC0 aggP hbt rfl,cw_ ?_⟩
 refine ⟨_,loadC (i:=1) aggM hc rfl,cw_ ?_⟩
 refine ⟨_,MapO.look mapU enZ kyT hm hf (keyI e) false,cw_ ?_⟩
 rw [hfe]
 refine aRunK_call (args:=fi.toList++([e.v]++ca.toList)) rfl hw.call ?_
 refine hw.run e he h _ hwk ?_
 refine ⟨trivial,cw_ ?_⟩
 cases hwe:w e with
 | true =>
  conv=>whnf
  refine ⟨_,loadC0 aggP hbt rfl,cw_ ?_⟩
  refine ⟨_,loadC (i:=1) aggM hc rfl,cw_ ?_⟩
  obtain ⟨om',hd,hm'⟩:=MapO.del mapU kyT hm hf (keyI e)
  refine io_intro (by exact hd) (fun h6 at_h6 ot_h6=>cw_ ?_)
  have e6:h6=h.set m om':=by
   funext x
   by_cases hx:x=m
   ·subst hx;rw [at_h6,Hp.set_same]
   ·rw [ot_h6 x hx,Hp.set_other _ _ hx]
  refine ⟨trivial,cw_ ?_⟩
  rw [e6]
  exact hyes hwe om' hm'
 | false =>
  conv=>whnf
  exact hno hwe
def wantK (L:List En) (w:En→Bool) (k:Ky):Bool:=match L.find? (fun e=>decide (keyI e=k)) with
 | some e=>w e
 | none=>false
theorem find_mem {L:List En} (hd:(L.map keyI).Nodup) {e:En} (he:e ∈ L):L.find? (fun x=>decide (keyI x=keyI e))=some e:=by
 induction L with
 | nil=>cases he
 | cons x L ih =>
  rw [List.find?_cons]
  rw [List.map_cons,List.nodup_cons] at hd
  rcases List.mem_cons.1 he with rfl | he
  ·simp
  ·have:¬ keyI x=keyI e:=fun hh=>hd.1 (by rw [hh];exact List.mem_map.2 ⟨e,he,rfl⟩)
   simp only [this,decide_false]
   exact ih hd.2 he
theorem wantK_mem {L:List En} {w:En→Bool} (hd:(L.map keyI).Nodup) {e:En} (he:e ∈ L):wantK L w (keyI e)=w e:=by
 unfold wantK;rw [find_mem hd he]
theorem filter_map {L L':List En} {w:En→Bool} (hd:(L.map keyI).Nodup) (hs:∀ e ∈ L',e ∈ L):(L'.map keyI).filter (fun k=>!wantK L w k)=(L'.filter (fun e=>!w e)).map keyI:=by
 rw [List.filter_map]
 congr 1
 exact List.filter_congr fun e he=>by simp only [Function.comp];rw [wantK_mem hd (hs e he)]
theorem lookE_filter {L:List En} {q:En→Bool} (hd:(L.map keyI).Nodup) (k:Ky):lookE (L.filter q) k=if ∃ e ∈ L,keyI e=k∧q e=false then none else lookE L k:=by
 split
 ·rename_i h
  obtain ⟨e,he,rfl,hq⟩:=h
  refine lookE_none fun x hx hk=>?_
  rw [List.mem_filter] at hx
  have h1:=find_mem hd he
  have h2:=find_mem hd hx.1
  rw [hk,h1] at h2
  cases h2
  rw [hq] at hx;cases hx.2
 ·rename_i h
  by_cases hk:∃ e ∈ L,keyI e=k
  ·obtain ⟨e,he,rfl⟩:=hk
   have hq:q e=true:=by
    cases hh:q e with
    | true=>rfl
    | false=>exact absurd ⟨e,he,rfl,hh⟩ h
   rw [lookE_mem hd he]
   refine lookE_mem ?_ (List.mem_filter.2 ⟨he,hq⟩)
   exact hd.sublist (List.filter_sublist.map keyI)
  ·rw [lookE_none (fun e he hh=>hk ⟨e,(List.mem_filter.1 he).1,hh⟩),lookE_none (fun e he hh=>hk ⟨e,he,hh⟩)]
theorem rowO_ne {el el':TypeId} {l l':List Value} (hn:el≠el'):rowO el l≠rowO el' l':=fun e=>by cases e;exact hn rfl
set_option maxHeartbeats 4000000 in
set_option maxRecDepth 10000 in
theorem deleteNil_x (f:Value) (h:Hp) (K:Value→Hp→Prop) (hk:K (.slice none 0 0) h):X Tryz.prog 249 #[.slice none 0 0,f] h K:=by
 refine fnv (args:=_) mixed [(7,7)] [] [] Tryz.func249 rfl (by kernel_rfl) (cw_ ?_)
 refine fnv (args:=_) mixed [] [] [] Tryz.func332 rfl (by kernel_rfl) (cw_ ?_)
 refine loop_step (cw_ ?_)
 exact hk
set_option maxHeartbeats 4000000 in
set_option maxRecDepth 10000 in
theorem drop_x {gw:FuncId} {fi ca:Array Value} {w:En→Bool} {wk:Hp} {L:List En} (hw:Want gw fi ca w wk L) {c:Nat} {size:Int} (hg:Good size L) (g h:Hp) (K:Value→Hp→Prop)
  (hT:TlbH g c size L) (hgh:g.le h) (hwk:wk.le h) (ha:Apart wk g)
  (hk:∀ h',TlbH h' c size (L.filter (fun e=>!w e))→wk.le h'→K (.int .i64 ((L.length:Int) - (L.filter (fun e=>!w e)).length)) h') :
  X Tryz.prog 137 #[.pointer (some ⟨c,0,none⟩),.func (.func gw) fi ca] h K:=by
 obtain ⟨m,b,om,age,ob,h0,h1,h2,h3,h4⟩:=hT
 have hlen:=hg.len
 have hsz:=hg.sz
 have hfl:=List.length_filter_le (fun e=>!w e) L
 have hmap:((L.map keyI).filter (fun k=>!wantK L w k))=(L.filter (fun e=>!w e)).map keyI:=filter_map hg.dist (fun e he=>he)
 refine fnv (args:=_) mixed [] [] [11] Tryz.func137 rfl (by kernel_rfl) (cw_ ?_)
 refine new_intro (o:=rowO 115 [.pointer (some ⟨c,0,none⟩)]) (fun bt h1' n_bt le_bt at_bt ot_bt=>cw_ ?_)
 refine new_intro (o:=rowO 172 [.func (.func gw) fi ca]) (fun bw H n_bw le_bw at_bw ot_bw=>cw_ ?_)
 have hle:h.le H:=Hp.le_trans le_bt le_bw
 have hHt:=le_bw _ _ at_bt
 have hHc:H c=some (rowO 179 [.int .i64 size,.map (some m),age]):=hle _ _ (hgh _ _ h1)
 have hHm:H m=some om:=hle _ _ (hgh _ _ h2)
 have hbtc:bt≠c:=fun e=>by subst e;rw [hgh _ _ h1] at n_bt;cases n_bt
 obtain ⟨hl4,⟨rfl,rfl,hn⟩ | ⟨b',cap,rest,rfl,rfl,hcap,hr,hb⟩⟩:=h4
 ·obtain rfl:=List.eq_nil_of_length_eq_zero hn
  refine ⟨_,loadC0 aggP hHt rfl,cw_ ?_⟩
  refine ⟨_,loadC (i:=2) aggS hHc rfl,cw_ ?_⟩
  refine ⟨fun h'=>h' bt=some (rowO 115 [.pointer (some ⟨c,0,none⟩)]),hHt,cw_ ?_⟩
  refine ⟨_,fun h' hh=>loadC0 aggP hh rfl,cw_ ?_⟩
  refine ⟨_,loadC0 aggP hHt rfl,cw_ ?_⟩
  refine ⟨_,loadC (i:=2) aggS hHc rfl,cw_ ?_⟩
  refine deleteNil_x _ _ _ ?_
  refine ⟨hHt,cw_ ?_⟩
  refine wr_intro (by exact storeC (i:=2) (z:=.slice none 0 0) sizS hHc (by show 2<3;decide) rfl rfl) (fun H2 at_H2 ot_H2=>cw_ ?_)
  have hbt2:H2 bt=_:=(ot_H2 _ hbtc).trans hHt
  refine ⟨hbt2,cw_ ?_⟩
  refine ⟨_,loadC0 aggP hbt2 rfl,cw_ ?_⟩
  refine ⟨_,loadC (i:=2) aggS at_H2 rfl,cw_ ?_⟩
  refine n_ ?_
  refine hk _ ⟨m,b,om,.slice none 0 0,none,h0,at_H2,?_,h3,Gr.nil⟩ ?_
  ·have hmc:m≠c:=fun e=>by subst e;rw [h1] at h2;cases h2;obtain ⟨_,_,e,_⟩:=h3;cases e
   exact (ot_H2 _ hmc).trans hHm
  ·exact fun x o e=>(ot_H2 x (fun hh=>by subst hh;rw [ha _ _ e] at h1;cases h1)).trans (hle _ _ (hwk _ _ e))
 ·obtain rfl:=h0 _ rfl
  have hHb:H b'=some (rowO 192 ((L.map keyI).flatMap Ky.cells++rest)):=hle _ _ (hgh _ _ hb)
  have hmo:∀ el l,om≠rowO el l:=fun el l e=>by subst e;obtain ⟨_,_,e,_⟩:=h3;cases e
  have hmc:m≠c:=fun e=>by subst e;rw [h1] at h2;cases h2;exact hmo _ _ rfl
  have hmb:m≠b':=fun e=>by subst e;rw [hb] at h2;cases h2;exact hmo _ _ rfl
  have hcb:c≠b':=fun e=>by subst e;rw [hb] at h1;exact rowO_ne (by decide) (Option.some.inj h1)
  have hbtm:bt≠m:=fun e=>by subst e;rw [hHm] at hHt;cases hHt;exact hmo _ _ rfl
  have hbwm:bw≠m:=fun e=>by subst e;rw [hHm] at at_bw;cases at_bw;exact hmo _ _ rfl
  have hbtb:bt≠b':=fun e=>by subst e;rw [hHb] at hHt;exact rowO_ne (by decide) (Option.some.inj hHt)
  have hbwb:bw≠b':=fun e=>by subst e;rw [hHb] at at_bw;exact rowO_ne (by decide) (Option.some.inj at_bw)
  let B:Hp:=fun x=>if x=m∨x=b' then none else H x
  have hB:∀ x o,x≠m→x≠b'→H x=some o→B x=some o:=fun x o n1 n2 e=>by simp only [B];rw [if_neg (fun hh=>hh.elim n1 n2)];exact e
  have hBm:B m=none:=if_pos (.inl rfl)
  have hBb:B b'=none:=if_pos (.inr rfl)
  have hBH:B.le H:=fun x o e=>by simp only [B] at e;split at e;cases e;exact e
  have hwB:wk.le B:=fun x o e=>hB x o (fun hh=>by subst hh;rw [ha _ _ e] at h2;cases h2) (fun hh=>by subst hh;rw [ha _ _ e] at hb;cases hb) (hle _ _ (hwk _ _ e))
  let f:Nat→Ky→Option Value:=fun i k=>if ∃ j,j<i∧∃ e,L[j]? = some e∧keyI e=k∧w e=true then none else lookE L k
  have hcalls:Calls1 250 #[] #[.pointer (some ⟨bw,0,none⟩),.pointer (some ⟨bt,0,none⟩)] (L.map keyI) (wantK L w) b' (fun i h'=>B.le h'∧∃ om',h' m=some om'∧MapO Ky.v (f i) om'):=by
   refine ⟨by kernel_rfl,fun i h' o ⟨i1,om',i2,i3⟩=>⟨Hp.le_keep i1 hBb,om',by rw [Hp.set_other _ _ hmb];exact i2,i3⟩,fun i k h' ob K' hki ⟨i1,om',i2,i3⟩ hob hK=>?_⟩
   rw [List.getElem?_map] at hki
   cases hLi:L[i]? with
   | none=>rw [hLi] at hki;cases hki
   | some e =>
    rw [hLi] at hki;cases hki
    have heL:e ∈ L:=List.mem_of_getElem? hLi
    have hfi:f i (keyI e)=some e.v:=by
     simp only [f]
     rw [if_neg,lookE_mem hg.dist heL]
     rintro ⟨j,hj,e',hj',hke,_⟩
     have hnd:=hg.dist
     have hlt:=(List.getElem?_eq_some_iff.1 hLi).1
     have h1:(L.map keyI)[j]? = (L.map keyI)[i]? := by rw [List.getElem?_map,List.getElem?_map,hj',hLi];simp [hke]
     rw [List.getElem?_eq_getElem (by simp;omega),List.getElem?_eq_getElem (by simp;omega)] at h1
     exact List.pairwise_iff_getElem.1 hnd j i (by simp;omega) (by simp;omega) hj (Option.some.inj h1)
    show X Tryz.prog _ #[(keyI e).v,.pointer (some ⟨bw,0,none⟩),.pointer (some ⟨bt,0,none⟩)] h' K'
    rw [wantK_mem hg.dist heL] at hK
    refine drop1_x hw heL h' K' (i1 _ _ (hB _ _ hbwm hbwb at_bw)) (i1 _ _ (hB _ _ hbtm hbtb hHt)) (i1 _ _ (hB _ _ (Ne.symm hmc) hcb hHc)) i2 i3 hfi (Hp.le_trans hwB i1) (fun hwe=>?_) (fun hwe om2 hm2=>?_)
    ·rw [hwe] at hK
     refine hK _ ⟨i1,om',i2,MapO.congr i3 fun k=>?_⟩ hob
     simp only [f]
     congr 1
     rw [eq_iff_iff]
     constructor
     ·rintro ⟨j,hj,rr⟩;exact ⟨j,by omega,rr⟩
     ·rintro ⟨j,hj,e',q1,q2,q3⟩
      by_cases hji:j=i
      ·subst hji;rw [hLi] at q1;cases q1;rw [hwe] at q3;cases q3
      ·exact ⟨j,by omega,e',q1,q2,q3⟩
    ·rw [hwe] at hK
     refine hK _ ⟨Hp.le_keep i1 hBm,om2,Hp.set_same _ _ _,MapO.congr hm2 fun k=>?_⟩ (by rw [Hp.set_other _ _ (Ne.symm hmb)];exact hob)
     unfold putF
     simp only [f]
     by_cases hke:k=keyI e
     ·rw [if_pos hke,if_pos ⟨i,by omega,e,hLi,hke.symm,hwe⟩]
     ·rw [if_neg hke]
      congr 1
      rw [eq_iff_iff]
      constructor
      ·rintro ⟨j,hj,rr⟩;exact ⟨j,by omega,rr⟩
      ·rintro ⟨j,hj,e',q1,q2,q3⟩
       by_cases hji:j=i
       ·subst hji;rw [hLi] at q1;cases q1;exact absurd q2.symm hke
       ·exact ⟨j,by omega,e',q1,q2,q3⟩
  refine ⟨_,loadC0 aggP hHt rfl,cw_ ?_⟩
  refine ⟨_,loadC (i:=2) aggS hHc rfl,cw_ ?_⟩
  refine ⟨fun h'=>h' bt=some (rowO 115 [.pointer (some ⟨c,0,none⟩)]),hHt,cw_ ?_⟩
  refine ⟨_,fun h' hh=>loadC0 aggP hh rfl,cw_ ?_⟩
  refine ⟨_,loadC0 aggP hHt rfl,cw_ ?_⟩
  refine ⟨_,loadC (i:=2) aggS hHc rfl,cw_ ?_⟩
  refine deleteFunc_x hcalls (List.length_map _) (by rw [List.length_map];exact hcap) (by rw [List.length_map];exact hr) (by rw [List.length_map];omega) _ _ ⟨hBH,om,hHm,?_⟩ hHb (fun s h' hinv hgr=>?_)
  ·refine MapO.congr h3 fun k=>?_
   simp only [f]
   rw [if_neg]
   rintro ⟨j,hj,_⟩;omega
  obtain ⟨i1,om',i2,i3⟩:=hinv
  rw [hmap] at hgr
  rw [List.length_map] at hgr i3
  have i3':MapO Ky.v (lookE (L.filter (fun e=>!w e))) om':=MapO.congr i3 fun k=>by
   rw [lookE_filter hg.dist]
   simp only [f]
   congr 1
   rw [eq_iff_iff]
   constructor
   ·rintro ⟨j,hj,e,q1,q2,q3⟩;exact ⟨e,List.mem_of_getElem? q1,q2,by rw [q3];rfl⟩
   ·rintro ⟨e,he,q2,q3⟩
    obtain ⟨j,hj⟩:=List.getElem?_of_mem he
    exact ⟨j,(List.getElem?_eq_some_iff.1 hj).1,e,hj,q2,by simpa using q3⟩
  have hbt2:=i1 _ _ (hB _ _ hbtm hbtb hHt)
  have hc2:=i1 _ _ (hB _ _ (Ne.symm hmc) hcb hHc)
  obtain ⟨sa,sc,rfl⟩:∃ a c',s=.slice a (L.filter (fun e=>!w e)).length c':=by
   rcases hgr.2 with ⟨_,e,e2⟩ | ⟨_,_,_,_,e,_⟩
   ·exact ⟨none,0,by rw [e,e2]⟩
   ·exact ⟨_,_,e⟩
  refine ⟨hbt2,cw_ ?_⟩
  refine wr_intro (by exact storeC (i:=2) (z:=.slice sa (L.filter (fun e=>!w e)).length sc) sizS hc2 (by show 2<3;decide) rfl rfl) (fun H2 at_H2 ot_H2=>cw_ ?_)
  have hbt3:H2 bt=_:=(ot_H2 _ hbtc).trans hbt2
  refine ⟨hbt3,cw_ ?_⟩
  refine ⟨_,loadC0 aggP hbt3 rfl,cw_ ?_⟩
  refine ⟨_,loadC (i:=2) aggS at_H2 rfl,cw_ ?_⟩
  refine n_ ?_
  refine hk _ ⟨m,b',om',_,some b',fun x hx=>(by cases hx;rfl),at_H2,(ot_H2 _ hmc).trans i2,i3',?_⟩ fun x o e=>(ot_H2 x (fun hh=>by subst hh;rw [ha _ _ e] at h1;cases h1)).trans (i1 _ _ (hwB _ _ e))
  obtain ⟨g1,g2 | ⟨b2,cap2,rest2,e1,e2,g3,g4,g5⟩⟩:=hgr
  ·cases g2.1
  ·cases e1
   exact ⟨g1,.inr ⟨b',cap2,rest2,rfl,e2,g3,g4,(ot_H2 _ (Ne.symm hcb)).trans g5⟩⟩
end Go.Proofs.YtdhlpighdlnohaaGreat.Tb
