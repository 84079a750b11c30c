/-
  Worlds: new ones.
-/
import Derived.Test.YtnjlneefddlaoaaGreatWoA
set_option linter.unusedSimpArgs false
set_option linter.unusedVariables false
set_option maxHeartbeats 8000000
set_option maxRecDepth 10000
set_option linter.unusedSimpArgs false
set_option linter.unusedVariables false
namespace Go.Proofs.YtnjlneefddlaoaaGreat
open Go Go.Mid Go.RowKit
attribute [local irreducible] mid
def FitP (place:Nat→Option (Nat×Nat)):Nat→List (Nat×Value)→Nat→Prop
 | _,[],r=>r=0
 | off,(i,v) :: rest,r=>place i=some (off,v.cells.toList.length)∧v.cells.toList.length≤r∧FitP place (off+v.cells.toList.length) rest (r - v.cells.toList.length)
theorem setC_setL:∀ (v cs:List Value) (o:Nat),fillV.setC cs o v=setL cs o v
 | [],cs,o=>by rw [fillV.setC,setL]
 | x :: v,cs,o=>by rw [fillV.setC,setL,setC_setL v]
theorem fill_all (place:Nat→Option (Nat×Nat)):∀ (parts:List (Nat×Value)) (A Z:List Value),FitP place A.length parts Z.length→fillV place (A++Z) parts=some (A++parts.flatMap fun p=>p.2.cells.toList)
 | [],A,Z,h=>by
  have:Z=[]:=List.eq_nil_of_length_eq_zero h
  subst this
  simp [fillV]
 | (i,v) :: rest,A,Z,⟨h1,h2,h3⟩=>by
  have hl:v.cells.toList.length=v.cells.size:=by simp
  rw [fillV,h1]
  simp only
  rw [if_pos (by rw [hl] at h2 ⊢;simp;omega),setC_setL,setL_append _ _ _ h2,fill_all place rest (A++v.cells.toList) (Z.drop v.cells.toList.length) (by rw [List.length_append,List.length_drop];exact h3)]
  simp
def lays (P:Program) (t:TypeId):Option (List (Nat×Nat)×Nat):=match zeroT P t,P.underlying t with
 | some z,some (.struct fields)=>match placesV P fields.toList with
  | some pl=>some (pl,z.cells.toList.length)
  | none=>none
 | _,_=>none
def contig:Nat→List (Nat×Nat)→Nat→Bool
 | off,[],n=>Nat.beq off n
 | off,(o,s) :: r,n=>Nat.beq o off && contig (off+s) r n
def partsOf:Nat→List Value→List (Nat×Value)
 | _,[]=>[]
 | k,v :: r=>(k,v) :: partsOf (k+1) r
theorem contig_le:∀ {off n:Nat} {pl:List (Nat×Nat)},contig off pl n=true→off≤n
 | off,n,[],h=>by rw [contig] at h;have:=Nat.eq_of_beq_eq_true h;omega
 | off,n,(o,s) :: r,h=>by
  rw [contig,Bool.and_eq_true] at h
  have:=contig_le h.2
  omega
theorem fit_of:∀ (vs:List Value) (pre pl:List (Nat×Nat)) (off n:Nat),contig off pl n=true→vs.map (fun v=>v.cells.toList.length)=pl.map (·.2)→FitP (fun i=>(pre++pl)[i]?) off (partsOf pre.length vs) (n - off)
 | [],pre,pl,off,n,hc,hl=>by
  have:pl=[]:=by
   cases pl with
   | nil=>rfl
   | cons a r=>simp at hl
  subst this
  rw [contig] at hc
  have:=Nat.eq_of_beq_eq_true hc
  show n - off=0
  omega
 | v :: vs,pre,[],off,n,hc,hl=>by simp at hl
 | v :: vs,pre,(o,s) :: r,off,n,hc,hl=>by
  rw [contig,Bool.and_eq_true] at hc
  have ho:=Nat.eq_of_beq_eq_true hc.1
  subst ho
  simp only [List.map_cons,List.cons.injEq] at hl
  obtain ⟨hl1,hl2⟩:=hl
  have hle:=contig_le hc.2
  have ih:=fit_of vs (pre++[(o,s)]) r (o+s) n hc.2 hl2
  rw [List.length_append,List.append_assoc] at ih
  refine ⟨?_,by omega,?_⟩
  ·rw [hl1];simp
  ·rw [hl1,show n - o - s=n - (o+s) by omega];exact ih
theorem partsOf_cells:∀ (vs:List Value) (k:Nat),((partsOf k vs).flatMap fun p=>p.2.cells.toList)=vs.flatMap fun v=>v.cells.toList
 | [],_=>rfl
 | v :: r,k=>by
  show v.cells.toList++(partsOf (k+1) r).flatMap _=v.cells.toList++r.flatMap _
  rw [partsOf_cells r]
theorem build_of {P:Program} {t:TypeId} (vs:List Value) {pl:List (Nat×Nat)} {n:Nat} {l:List Value} (hz:lays P t=some (pl,n)∧contig 0 pl n=true) (hl:vs.map (fun v=>v.cells.toList.length)=pl.map (·.2)) (e:(vs.flatMap fun v=>v.cells.toList)=l):buildV P t (partsOf 0 vs)=some (.agg l.toArray):=by
 unfold lays at hz
 obtain ⟨hz,hc⟩:=hz
 split at hz
 ·rename_i z fields h1 h2
  split at hz
  ·rename_i pl' h3
   cases hz
   unfold buildV
   rw [h1,h2]
   simp only [h3]
   have:=fill_all (fun i=>pl[i]?) (partsOf 0 vs) [] z.cells.toList (fit_of vs [] pl 0 _ hc hl)
   rw [List.nil_append,List.nil_append,partsOf_cells,e] at this
   rw [this]
  ·cases hz
 ·cases hz
section
variable {h:Hp} {K:Value→Hp→Prop}
theorem busL:lays Tryz.prog busT=some ([(0,1),(1,1),(2,18),(20,68)],88)∧contig 0 [(0,1),(1,1),(2,18),(20,68)] 88=true:=⟨by kernel_rfl,rfl⟩
theorem busNew_x (n:Nat) (h1:1≤n) (h2:n≤8) (hk:∀ b p h',h b=none→h p=none→h.le h'→h' b=some (rowO busT (busC p n (Ck.new n) (Pl.new n)))→h' p=some (rowO 110 (Ua.new.cs (.slice none 0 0) (.slice none 0 0)))→K (.tuple #[.pointer (some ⟨b,0,none⟩),.int .i64 0]) h'):X Tryz.prog 26 #[.int .i64 n] h K:=by
 refine fnv (args:=_) mixed [] [] [] Tryz.func26 rfl (by kernel_rfl) (cw_ ?_)
 refine bf_ ?_
 refine bf_ ?_
 refine uartNew_x fun p h1 n_p le_p at_p=>(cw_ ?_)
 refine clintNew_x n (by omega) h2 (cw_ ?_)
 refine plicNew_x n (by omega) (by omega) (cw_ ?_)
 refine big_by (v:=.agg (busC p n (Ck.new n) (Pl.new n)).toArray) (build_of [.pointer (some ⟨p,0,none⟩),.int .i64 n,.agg (Ck.new n).cs.toArray,.agg (Pl.new n).cs.toArray] busL (by simp [Value.cells,show (Ck.new n).cs.length=18 from ckC_len n n h2,plNew_len]) (by simp [busC,Value.cells])) (cw_ ?_)
 refine new_intro (o:=_) (fun b h2 n_b le_b at_b ot_b=>cw_ ?_)
 exact hk b p h2 (Hp.none_le le_p n_b) n_p (Hp.le_trans le_p le_b) at_b (le_b _ _ at_p)
theorem act_if {P:Program} {ρ:Operand→Value} {o:Oper} {c:Prop} {inst:Decidable c} {A B Z:Action} (hx:actOf P ρ o=Z) (hA:actOf P ρ o=if c then A else B) (hc:c):Z=A:=hx.symm.trans (hA.trans (if_pos hc))
theorem worL:lays Tryz.prog worT=some ([(0,4),(4,1),(5,16),(21,1),(22,321)],343)∧contig 0 [(0,4),(4,1),(5,16),(21,1),(22,321)] 343=true:=⟨by kernel_rfl,rfl⟩
theorem flatNew_x (c:Cn) (hr:wrightB c=true) (n:Nat) (hn:c.harts=n) (hk:∀ w h',WoN h h' w (Wd.new c)→K (.tuple #[.pointer (some ⟨w,0,none⟩),.int .i64 0]) h'):X Tryz.prog 20 #[.agg c.cs.toArray] h K:=by
 obtain ⟨ca,cb,cl,ct⟩:=c
 have hn:ca=n:=hn
 subst hn
 have hr2:((((1:Int)≤n∧(n:Int)≤8)∧1≤cb∧cb≤64)∧1≤cl∧cl≤4096)∧1≤ct∧ct≤32:=by
  simpa [wrightB] using hr
 obtain ⟨m,rfl⟩:∃ m:Nat,cl=m:=⟨cl.toNat,by omega⟩
 refine fnp (args:=_) mixed [(1,1),(10,1),(19,1),(24,1)] [] [] [(6,[0,1,2,3,5,6,7,8,4,9,10,11,12])] Tryz.func20 rfl (by kernel_rfl) (cw_ ?_)
 refine wright_x ⟨n,cb,m,ct⟩ ?_
 rw [hr]
 conv=>whnf
 refine busNew_x n (by omega) (by omega) fun b p h1 n_b n_p le1 e_b e_p=>(cw_ ?_)
 refine ov_eq (show (m:Int)*64=((64*m:Nat):Int) by omega) (by omega) (cw_ ?_)
 refine mailNew_x n (by omega) (by omega) ?_
 refine ⟨trivial,cw_ ?_⟩
 generalize hA:actOf Tryz.prog _ _=A
 have hB:=act_if hA rfl ⟨by omega,by omega,by omega,by show (1:Int)*_≤_;omega,by decide⟩
 subst hB
 clear hA
 conv=>whnf
 refine new_intro (o:=_) (fun rb h2 n_rb le_rb at_rb ot_rb=>?_)
 have at_rb:h2 rb=some (rowO 5 ((List.replicate (64*m) (0:UInt8)).map byV)):=by
  refine at_rb.trans ?_
  show some (Obj.cells (zeroRow #[.int .u8 0] ((((64*m:Nat):Int)).toNat*1)) _ _)=_
  rw [zeroRow_one,Int.toNat_natCast,Nat.mul_one,List.map_replicate]
  rfl
 conv=>whnf
 refine big_by (v:=.agg (worC ⟨n,cb,m,ct⟩ (.slice (some ⟨rb,0,none⟩) (64*m) (64*m)) rv0 b (Ml.new n)).toArray) (by kernel_rfl) (cw_ ?_)
 refine new_intro (o:=_) (fun w h3 n_w le_w at_w ot_w=>cw_ ?_)
 have le13:=Hp.le_trans le_rb le_w
 refine hk w h3 ⟨Hp.le_trans le1 le13,Hp.none_le le1 (Hp.none_le le_rb n_w),⟨hr,by show ((List.replicate (64*m) (0:UInt8)).length:Int)=64*(m:Int);rw [List.length_replicate];omega,rfl,rfl,fun q hq=>by rw [List.eq_of_mem_replicate hq];exact rq0_ok⟩,rb,b,p,64*m,[],none,none,?_,?_,?_,⟨le13 _ _ e_b,⟨_,_,le13 _ _ e_p,Gr.nil,Gr.nil⟩,⟨by simp [Wd.new,Ck.new];omega,rfl⟩,⟨rfl,rfl,rfl⟩,by simp [Wd.new],by simp [Wd.new]⟩,⟨Hp.none_le le1 n_rb,n_b,n_p⟩,fun x e=>(by cases e),fun x e=>(by cases e)⟩
 ·rw [at_w];show _=some (rowO worT (worC _ (.slice _ (List.replicate (64*m) (0:UInt8)).length _) _ _ _));rw [List.length_replicate];rfl
 ·rw [List.append_nil];exact le_w _ _ at_rb
 ·show (List.replicate (64*m) (0:UInt8)).length+0=_;rw [List.length_replicate];rfl
end
end Go.Proofs.YtnjlneefddlaoaaGreat
