/-
  A hart is put: its cache, its registers.
-/
import Derived.Test.YtdhlpighdlnohaaGreatHtU
import Derived.Test.YtdhlpighdlnohaaGreatImmP
import Derived.Test.YtdhlpighdlnohaaGreatEvD
set_option linter.unusedSimpArgs false
set_option linter.unusedVariables false
set_option maxHeartbeats 8000000
set_option maxRecDepth 10000
set_option linter.unusedSimpArgs false
set_option linter.unusedVariables false
namespace Go.Proofs.YtdhlpighdlnohaaGreat
open Go Go.Mid Go.RowKit Go.Bits
def Hd.Q (H:Hd):Prop:=(0≤H.t.at_∧H.t.at_≤9)∧(H.t.at_=4→H.t.ask.size=H.t.e.size)
theorem q_zero {H:Hd} (h:H.t=.zero):H.Q:=by unfold Hd.Q;rw [h];exact ⟨⟨by decide,by decide⟩,fun e=>absurd e (by decide)⟩
theorem q_at {H:Hd} {a:Int} (h:H.t.at_=a) (h1:0≤a∧a≤9) (h2:a≠4):H.Q:=⟨by rw [h];exact h1,fun e=>absurd (h ▸ e) h2⟩
theorem q_trap (H:Hd) (c:Cau) (v:Nat):(H.trap c v).Q:=q_zero rfl
theorem q_ret (H:Hd) (p:Nat):(H.retire p).Q:=q_zero rfl
theorem q_fetchAt (H:Hd) (pa:Nat):(H.fetchAt pa).Q:=by
 unfold Hd.fetchAt
 split
 ·exact q_at (a:=3) rfl (by decide) (by decide)
 ·exact q_trap _ _ _
theorem q_walked {H:Hd} (q:H.Q):(H.walked tbT).1.Q:=by
 unfold Hd.walked
 split
 ·exact q
 split
 ·exact q_trap _ _ _
 split
 ·exact q_trap _ _ _
 ·exact q
theorem q_fetchWalked {H:Hd} (q:H.Q):(H.fetchWalked tbT).Q:=by
 unfold Hd.fetchWalked
 have:=q_walked q
 rcases hw:H.walked tbT with ⟨h1,_ | pa⟩
 ·rw [hw] at this;exact this
 ·exact q_fetchAt _ _
theorem q_fetch (H:Hd):(H.fetch tbT).Q:=by
 unfold Hd.fetch
 rcases hw:H.translate tbT H.pc 0 H.priv with ⟨h1,_ | pa⟩
 ·exact q_fetchWalked (q_at (a:=2) rfl (by decide) (by decide))
 ·exact q_fetchAt _ _
theorem q_reach (H:Hd):(H.reach fitsN).Q:=by
 unfold Hd.reach
 simp only
 split
 ·exact q_at (a:=5) rfl (by decide) (by decide)
 split
 ·exact q_at (a:=5) rfl (by decide) (by decide)
 split
 ·exact q_at (a:=5) rfl (by decide) (by decide)
 ·exact q_trap _ _ _
theorem q_partAt2 (H:Hd) (pa:Nat):(H.partAt2 fitsN pa).Q:=q_reach _
theorem q_dataWalked2 {H:Hd} (q:H.Q):(H.dataWalked2 tbT fitsN).Q:=by
 unfold Hd.dataWalked2
 have:=q_walked q
 rcases hw:H.walked tbT with ⟨h1,_ | pa⟩
 ·rw [hw] at this;exact this
 ·exact q_partAt2 _ _
theorem q_part2 {H:Hd} (va:Nat) (hs:H.t.ask.size=H.t.e.size):(H.part2 tbT fitsN va).Q:=by
 unfold Hd.part2
 have htt:=translate_t H va H.t.e.access (dataP (H.f.at 768) H.priv)
 rcases hw:H.translate tbT va H.t.e.access (dataP (H.f.at 768) H.priv) with ⟨h1,_ | pa⟩
 ·rw [hw] at htt
  exact q_dataWalked2 ⟨⟨by show (0:Int)≤4;decide,by show (4:Int)≤9;decide⟩,fun _=>by show h1.t.ask.size=h1.t.e.size;rw [htt.1,htt.2];exact hs⟩
 ·exact q_partAt2 _ _
theorem q_partAt {H:Hd} (pa:Nat) (hs:H.t.ask.size=H.t.e.size):(H.partAt tbT fitsN pa).Q:=by
 unfold Hd.partAt
 split
 ·exact q_partAt2 _ _
 split
 ·exact q_part2 _ hs
 ·exact q_reach _
theorem q_dataWalked {H:Hd} (q:H.Q) (hs:H.t.ask.size=H.t.e.size):(H.dataWalked tbT fitsN).Q:=by
 unfold Hd.dataWalked
 have:=q_walked q
 rcases hw:H.walked tbT with ⟨h1,_ | pa⟩
 ·rw [hw] at this;exact this
 ·exact q_partAt _ (by rw [walked_some hw];exact hs)
theorem q_part {H:Hd} (va:Nat) (hs:H.t.ask.size=H.t.e.size):(H.part tbT fitsN va).Q:=by
 unfold Hd.part
 have htt:=translate_t H va H.t.e.access (dataP (H.f.at 768) H.priv)
 rcases hw:H.translate tbT va H.t.e.access (dataP (H.f.at 768) H.priv) with ⟨h1,_ | pa⟩
 ·rw [hw] at htt
  exact q_dataWalked ⟨⟨by show (0:Int)≤4;decide,by show (4:Int)≤9;decide⟩,fun _=>by show h1.t.ask.size=h1.t.e.size;rw [htt.1,htt.2];exact hs⟩ (by show h1.t.ask.size=h1.t.e.size;rw [htt.1,htt.2];exact hs)
 ·rw [hw] at htt
  exact q_partAt _ (by rw [htt.1,htt.2];exact hs)
theorem q_access (H:Hd):(H.access tbT fitsN).Q:=by
 unfold Hd.access
 exact q_part _ rfl
theorem q_shoot (H:Hd):(H.shoot tbT).Q:=by
 unfold Hd.shoot
 simp only
 split
 ·exact q_ret _ _
 ·exact q_at (a:=7) rfl (by decide) (by decide)
theorem q_control (H:Hd):(H.control tbT).Q:=by
 unfold Hd.control
 simp only
 split
 ·exact q_trap _ _ _
 split
 ·exact q_at (a:=6) rfl (by decide) (by decide)
 split
 ·exact q_shoot _
 ·exact q_ret _ _
theorem q_system (H:Hd):(H.system tbT).Q:=by
 unfold Hd.system
 split
 ·exact q_control _
 split
 ·exact q_zero rfl
 split
 ·exact q_zero rfl
 split
 ·exact q_ret _ _
 split
 ·exact q_ret _ _
 ·exact q_trap _ _ _
theorem q_decode (H:Hd) (dec:Nat→Option Ins):(H.decode tbT fitsN dec).Q:=by
 unfold Hd.decode
 split
 ·exact q_trap _ _ _
 simp only
 split
 ·exact q_ret _ _
 split
 ·exact q_trap _ _ _
 split
 ·exact q_access _
 ·exact q_system _
theorem q_wake (H:Hd):(H.wake tbT).Q:=by
 rw [wake_eq]
 split
 ·exact q_zero rfl
 ·unfold wakeG
  split
  ·exact q_trap _ _ _
  ·exact q_fetch _
theorem q_go {H:Hd} (j:H.J) (dec:Nat→Option Ins) (a:An):(H.go tbT fitsN dec a).Q:=by
 unfold Hd.go
 split
 ·exact q_at (a:=1) rfl (by decide) (by decide)
 split
 ·exact q_wake _
 split
 ·rename_i h
  exact q_fetchWalked (q_at (a:=2) h (by decide) (by decide))
 split
 ·exact q_decode _ _
 split
 ·rename_i h
  exact q_dataWalked ⟨j.lo,j.sz⟩ (j.sz h)
 split
 ·exact q_ret _ _
 split
 ·exact q_ret _ _
 split
 ·rename_i h
  unfold Hd.posted
  split
  ·exact q_at (a:=7) h (by decide) (by decide)
  split
  ·exact q_at (a:=8) rfl (by decide) (by decide)
  ·exact q_at (a:=8) rfl (by decide) (by decide)
 split
 ·exact q_at (a:=9) rfl (by decide) (by decide)
 ·unfold Hd.checked
  split
  ·split
   ·exact q_at (a:=8) rfl (by decide) (by decide)
   ·exact q_ret _ _
  ·exact q_at (a:=8) rfl (by decide) (by decide)
theorem Hd.J.tell {H:Hd} (j:H.J) (dec:Nat→Option Ins) (a:An):(H.tell tbT fitsN dec a).1.J:=by
 have q:=q_go j dec a
 exact ⟨q.1,q.2,Nat.zero_le _⟩
end Go.Proofs.YtdhlpighdlnohaaGreat
namespace Go.Proofs.YtdhlpighdlnohaaGreat
open Go Go.Mid Go.RowKit
def FitP (place:Nat→Option (Nat×Nat)):Nat→List (Nat×Value)→Nat→Prop
 | _,[],r=>r=0
 | off,(i,v) :: rest,r=>place i=some (off,v.cells.toList.length)∧v.cells.toList.length≤r∧FitP place (off+v.cells.toList.length) rest (r - v.cells.toList.length)
theorem setC_setL:∀ (v cs:List Value) (o:Nat),fillV.setC cs o v=setL cs o v
 | [],cs,o=>by rw [fillV.setC,setL]
 | x :: v,cs,o=>by rw [fillV.setC,setL,setC_setL v]
theorem fill_all (place:Nat→Option (Nat×Nat)):∀ (parts:List (Nat×Value)) (A Z:List Value),FitP place A.length parts Z.length→fillV place (A++Z) parts=some (A++parts.flatMap fun p=>p.2.cells.toList)
 | [],A,Z,h=>by
  have:Z=[]:=List.eq_nil_of_length_eq_zero h
  subst this
  simp [fillV]
 | (i,v) :: rest,A,Z,⟨h1,h2,h3⟩=>by
  have hl:v.cells.toList.length=v.cells.size:=by simp
  rw [fillV,h1]
  simp only
  rw [if_pos (by rw [hl] at h2 ⊢;simp;omega),setC_setL,setL_append _ _ _ h2,fill_all place rest (A++v.cells.toList) (Z.drop v.cells.toList.length) (by rw [List.length_append,List.length_drop];exact h3)]
  simp
def lays (P:Program) (t:TypeId):Option (List (Nat×Nat)×Nat):=match zeroT P t,P.underlying t with
 | some z,some (.struct fields)=>match placesV P fields.toList with
  | some pl=>some (pl,z.cells.toList.length)
  | none=>none
 | _,_=>none
def contig:Nat→List (Nat×Nat)→Nat→Bool
 | off,[],n=>Nat.beq off n
 | off,(o,s) :: r,n=>Nat.beq o off && contig (off+s) r n
def partsOf:Nat→List Value→List (Nat×Value)
 | _,[]=>[]
 | k,v :: r=>(k,v) :: partsOf (k+1) r
theorem contig_le:∀ {off n:Nat} {pl:List (Nat×Nat)},contig off pl n=true→off≤n
 | off,n,[],h=>by rw [contig] at h;have:=Nat.eq_of_beq_eq_true h;omega
 | off,n,(o,s) :: r,h=>by
  rw [contig,Bool.and_eq_true] at h
  have:=contig_le h.2
  omega
theorem fit_of:∀ (vs:List Value) (pre pl:List (Nat×Nat)) (off n:Nat),contig off pl n=true→vs.map (fun v=>v.cells.toList.length)=pl.map (·.2)→FitP (fun i=>(pre++pl)[i]?) off (partsOf pre.length vs) (n - off)
 | [],pre,pl,off,n,hc,hl=>by
  have:pl=[]:=by
   cases pl with
   | nil=>rfl
   | cons a r=>simp at hl
  subst this
  rw [contig] at hc
  have:=Nat.eq_of_beq_eq_true hc
  show n - off=0
  omega
 | v :: vs,pre,[],off,n,hc,hl=>by simp at hl
 | v :: vs,pre,(o,s) :: r,off,n,hc,hl=>by
  rw [contig,Bool.and_eq_true] at hc
  have ho:=Nat.eq_of_beq_eq_true hc.1
  subst ho
  simp only [List.map_cons,List.cons.injEq] at hl
  obtain ⟨hl1,hl2⟩:=hl
  have hle:=contig_le hc.2
  have ih:=fit_of vs (pre++[(o,s)]) r (o+s) n hc.2 hl2
  rw [List.length_append,List.append_assoc] at ih
  refine ⟨?_,by omega,?_⟩
  ·rw [hl1];simp
  ·rw [hl1,show n - o - s=n - (o+s) by omega];exact ih
theorem partsOf_cells:∀ (vs:List Value) (k:Nat),((partsOf k vs).flatMap fun p=>p.2.cells.toList)=vs.flatMap fun v=>v.cells.toList
 | [],_=>rfl
 | v :: r,k=>by
  show v.cells.toList++(partsOf (k+1) r).flatMap _=v.cells.toList++r.flatMap _
  rw [partsOf_cells r]
theorem build_of {P:Program} {t:TypeId} (vs:List Value) {pl:List (Nat×Nat)} {n:Nat} {l:List Value} (hz:lays P t=some (pl,n)∧contig 0 pl n=true) (hl:vs.map (fun v=>v.cells.toList.length)=pl.map (·.2)) (e:(vs.flatMap fun v=>v.cells.toList)=l):buildV P t (partsOf 0 vs)=some (.agg l.toArray):=by
 unfold lays at hz
 obtain ⟨hz,hc⟩:=hz
 split at hz
 ·rename_i z fields h1 h2
  split at hz
  ·rename_i pl' h3
   cases hz
   unfold buildV
   rw [h1,h2]
   simp only [h3]
   have:=fill_all (fun i=>pl[i]?) (partsOf 0 vs) [] z.cells.toList (fit_of vs [] pl 0 _ hc hl)
   rw [List.nil_append,List.nil_append,partsOf_cells,e] at this
   rw [this]
  ·cases hz
 ·cases hz
end Go.Proofs.YtdhlpighdlnohaaGreat
namespace Go.Proofs.YtdhlpighdlnohaaGreat
open Go Go.Mid Go.RowKit Go.Bits
abbrev rfXHtV0:Go.Mid.RF:=[(3,3),(9,3),(14,3),(19,3),(24,3),(28,3),(30,3),(33,3)]
attribute [local irreducible] mid
def tAdd (n:Int) (t:List Tb.En) (e:En):List Tb.En:=if 0≤e.level∧e.level≤2∧0≤e.asid∧e.asid≤65535 then Tb.addI n t (toE e) else t
theorem tok_of {e:En} (he:e.page<2 ^ 64∧e.pte<2 ^ 64):(toE e).ok:=⟨⟨by show (0:Int)≤((e.page:Nat):Int);omega,by show ((e.page:Nat):Int)<2 ^ 64;omega⟩,by show (0:Int)≤((e.pte:Nat):Int);omega,by show ((e.pte:Nat):Int)<2 ^ 64;omega⟩
theorem tAdd_good {n:Int} {t:List Tb.En} (g:Tb.Good n t) {e:En} (he:e.page<2 ^ 64∧e.pte<2 ^ 64):Tb.Good n (tAdd n t e):=by
 unfold tAdd
 split
 ·rename_i hv;exact Tb.good_add g (tok_of he) hv
 ·exact g
section
set_option maxHeartbeats 16000000
variable {h:Hp} {K:Value→Hp→Prop}
theorem taddBad_x {c:Nat} {e:En} (hv:¬ (0≤e.level∧e.level≤2∧0≤e.asid∧e.asid≤65535)) (hk:K (.bool false) h):X Tryz.prog 73 #[.pointer (some ⟨c,0,none⟩),(toE e).v] h K:=by
 obtain ⟨a,p,l,t⟩:=e
 refine fnv (args:=_) mixed rfXHtV0 [] [] Tryz.func73 rfl (by kernel_rfl) (cw_ ?_)
 refine br_ (fun v1=>?_) fun v1=>?_
 ·conv=>whnf
  exact hk
 conv=>whnf
 refine br_ (fun v2=>?_) fun v2=>?_
 ·conv=>whnf
  exact hk
 conv=>whnf
 refine br_ (fun v3=>?_) fun v3=>?_
 ·conv=>whnf
  exact hk
 conv=>whnf
 refine br_ (fun v4=>?_) fun v4=>?_
 ·conv=>whnf
  exact hk
 exact absurd (show 0≤l∧l≤2∧0≤a∧a≤65535 from ⟨by have v1:¬ l<0:=v1;omega,by have v2:¬ l>2:=v2;omega,by have v3:¬ a<0:=v3;omega,by have v4:¬ a>65535:=v4;omega⟩) hv
theorem tadd_x {k g:Hp} {c:Nat} {n:Int} {t:List Tb.En} (gd:Tb.Good n t) (hg:g.le h) (hkk:k.le h) (ap:Apart k g) (ht:Tb.TlbH g c n t) (e:En) (he:e.page<2 ^ 64∧e.pte<2 ^ 64) (hk:∀ q h' g',g'.le h'→k.le h'→Apart k g'→Tb.TlbH g' c n (tAdd n t e)→K (.bool q) h'):X Tryz.prog 73 #[.pointer (some ⟨c,0,none⟩),.agg e.cs.toArray] h K:=by
 unfold tAdd at hk
 by_cases hv:0≤e.level∧e.level≤2∧0≤e.asid∧e.asid≤65535
 ·rw [if_pos hv] at hk
  refine X.frame hg (Tb.add_x gd (tok_of he) hv g (fun v g'=>v=.bool true∧Tb.TlbH g' c n (Tb.addI n t (toE e))) ht fun g' tg=>⟨rfl,tg⟩) fun v g' h1 hp u=>?_
  obtain ⟨rfl,tg⟩:=hp
  have o:=u.other hkk ap
  exact hk true h1 g' u.le o.1 o.2 tg
 ·rw [if_neg hv] at hk
  exact taddBad_x hv (hk false h g hg hkk ap ht)
theorem aggR32:isAggT Tryz.prog 26 = some true:=by kernel_rfl
theorem sizR32:sizeT Tryz.prog 26 = some 32:=by kernel_rfl
theorem sizRf:sizeT Tryz.prog 120 = some 32:=by kernel_rfl
theorem aggRf:isAggT Tryz.prog 120 = some true:=by kernel_rfl
theorem rfL:lays Tryz.prog 120 = some ([(0,32)],32)∧contig 0 [(0,32)] 32=true:=⟨by kernel_rfl,rfl⟩
theorem rgof_x (r : List Nat) (hr : r.length = 32) (hk : K (.agg (wcs (r.set 0 0)).toArray) h) : X Tryz.prog 74 #[.agg (wcs r).toArray] h K := by
  refine X.forget ?_
  have hl : (wcs r).length = 32 := by rw [List.length_map]; exact hr
  have hl2 : (wcs (r.set 0 0)).length = 32 := by rw [List.length_map, List.length_set]; exact hr
  have hs : (wcs r).set 0 (ux 0) = wcs (r.set 0 0) := List.map_set.symm
  refine fnv (args := _) mixed [] [] [] Tryz.func74 rfl (by kernel_rfl) (cw_ ?_)
  refine new_intro (o := _) (fun z g1 n_z le_z at_z ot_z => cw_ ?_)
  refine new_intro (o := _) (fun y g2 n_y le_y at_y ot_y => cw_ ?_)
  have hzy : z ≠ y := fun e => by rw [e] at at_z; rw [at_z] at n_y; cases n_y
  have az : g2 z = some (rowO 26 (wcs r)) := le_y _ _ at_z
  refine wr_intro (by exact storeC0 sizU az (by omega) rfl rfl) (fun g3 at_g3 ot_g3 => cw_ ?_)
  have a3 : g3 z = some (rowO 26 (wcs (r.set 0 0))) := at_g3.trans (congrArg (fun l => some (rowO 26 l)) hs)
  have hone : (wcs (r.set 0 0)).all Value.oneCell' = true := by rw [List.all_eq_true]; intro v hv; obtain ⟨n, _, rfl⟩ := List.mem_map.1 hv; rfl
  refine ⟨_, loadA0 aggR32 sizR32 a3 hl2, cw_ ?_⟩
  refine big_by (v := .agg (wcs (r.set 0 0)).toArray) (build_of [.agg (wcs (r.set 0 0)).toArray] rfL (by simp [Value.cells, hr]) (by simp [Value.cells])) (cw_ ?_)
  have ay : g3 y = some _ := (ot_g3 y (Ne.symm hzy)).trans at_y
  refine wr_intro (by exact storeA0 (z := .agg (wcs (r.set 0 0)).toArray) sizRf ay rfl hl2 hone) (fun g4 at_g4 ot_g4 => cw_ ?_)
  refine ⟨_, loadA0 aggRf sizRf at_g4 hl2, cw_ ?_⟩
  exact ⟨h, fun d o e => by
    have h1 : d ≠ z := fun e2 => by rw [e2, n_z] at e; cases e
    have h2 : d ≠ y := fun e2 => by rw [e2] at e; rw [le_z _ _ e] at n_y; cases n_y
    rw [ot_g4 d h2, ot_g3 d h1]
    exact le_y _ _ (le_z _ _ e), hk⟩
 end
end Go.Proofs.YtdhlpighdlnohaaGreat
