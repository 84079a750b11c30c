/-
  Lines of asks: each once (slices.Compact).
-/
import Derived.Test.YtnjlneefddlaoaaGreatTrcC
set_option linter.unusedSimpArgs false
set_option linter.unusedVariables false
set_option maxHeartbeats 8000000
set_option maxRecDepth 10000
set_option linter.unusedSimpArgs false
set_option linter.unusedVariables false
namespace Go.Proofs.YtnjlneefddlaoaaGreat
open Go Go.Mid Go.RowKit
attribute [local irreducible] mid
section
variable {h:Hp} {K:Value→Hp→Prop}
structure Dst (L D:List Nat) (m:Nat):Prop where
 up:Rising D
 mem:∀ x,x ∈ D↔x ∈ L.take m
theorem dst_add {L D:List Nat} {m v w:Nat} (hs:Srt L) (d:Dst L D m) (hv:L[m]? = some v) (hw:L[m - 1]? = some w) (hm:1≤m) (hne:v≠w):Dst L (D++[v]) (m+1):=by
 have hle:∀ x,x ∈ L.take m→x<v:=fun x hx=>by
  obtain ⟨i,hi,e⟩:=List.getElem_of_mem hx
  have hil:i<m:=by rw [List.length_take] at hi;omega
  have hml:=(List.getElem?_eq_some_iff.1 hv).1
  have hxw:x≤w:=by
   rw [List.getElem_take] at e
   by_cases hie:i=m - 1
   ·subst hie
    rw [List.getElem?_eq_getElem (by omega)] at hw
    have:=Option.some.inj hw
    omega
   ·have:=List.pairwise_iff_getElem.1 hs i (m - 1) (by omega) (by omega) (by omega)
    rw [List.getElem?_eq_getElem (by omega)] at hw
    have:=Option.some.inj hw
    omega
  have hwv:w≤v:=by
   have h1:=List.pairwise_iff_getElem.1 hs (m - 1) m (by omega) (by omega) (by omega)
   rw [List.getElem?_eq_getElem (by omega)] at hw hv
   have:=Option.some.inj hw
   have:=Option.some.inj hv
   omega
  omega
 refine ⟨List.pairwise_append.2 ⟨d.up,List.pairwise_singleton _ _,fun a ha b hb=>?_⟩,fun x=>?_⟩
 ·rw [List.mem_singleton] at hb;subst hb
  exact hle a ((d.mem a).1 ha)
 ·rw [List.take_add_one,hv,List.mem_append,List.mem_append,d.mem]
  rfl
theorem dst_same {L D:List Nat} {m v:Nat} (d:Dst L D m) (hv:L[m]? = some v) (hw:L[m - 1]? = some v) (hm:1≤m):Dst L D (m+1):=by
 refine ⟨d.up,fun x=>?_⟩
 rw [List.take_add_one,hv,List.mem_append,d.mem]
 constructor
 ·exact .inl
 ·rintro (e | e)
  ·exact e
  ·have:x=v:=by simpa using e
   subst this
   have hl:=(List.getElem?_eq_some_iff.1 hw).1
   rw [List.getElem?_eq_getElem hl] at hw
   have e2:=Option.some.inj hw
   rw [← e2]
   exact List.mem_take_iff_getElem.2 ⟨m - 1,by omega,rfl⟩
theorem dst_full {L D:List Nat} {m:Nat} (d:Dst L D m) (hm:L.length≤m):Rising D∧∀ x,x ∈ D↔x ∈ L:=⟨d.up,fun x=>by rw [d.mem,List.take_of_length_le hm]⟩
theorem compact_x {k:Hp} {s:Value} {L:List Nat} (hO:Owns k h 52 1 s L.length (L.map uv)) (hL:L.length≤12) (hs:Srt L)
  (hk:∀ s' L' h',Rising L'→(∀ x,x ∈ L'↔x ∈ L)→Owns k h' 52 1 s' L'.length (L'.map uv)→K s' h'):X Tryz.prog 101 #[s] h K:=by
 have hO':=hO
 obtain ⟨ob,g,hle,hno⟩:=hO
 obtain ⟨hl,⟨_,rfl,e⟩ | ⟨b,cap,rest,rfl,rfl,hcap,hrest,hb⟩⟩:=g
 ·have e:L=[]:=List.eq_nil_of_length_eq_zero e
  subst e
  refine fnv (args:=_) mixed [] [] [] Tryz.func101 rfl (by kernel_rfl) (cw_ ?_)
  exact hk _ [] h List.Pairwise.nil (fun x=>Iff.rfl) hO'
 have hkb:=hno b rfl
 refine fnv (args:=_) mixed [] [] [] Tryz.func101 rfl (by kernel_rfl) (cw_ ?_)
 refine br_ (fun q0=>?_) fun q0=>?_
 ·have hr:Rising L:=by
   match L,q0 with
   | [],_=>exact List.Pairwise.nil
   | [x],_=>exact List.pairwise_singleton _ _
   | x :: y :: l,q0=>simp at q0;omega
  conv=>whnf
  exact hk _ L h hr (fun x=>Iff.rfl) hO'
 conv=>whnf
 refine loop_at [3] [] (fun r vs _ h'=>h=h'∧∃ i:Nat,1≤i∧i≤L.length∧r=L.length - i∧vs=[.v (.int .i64 i)]∧Dst L (L.take i) i) (L.length - 1) ⟨rfl,1,by omega,by omega,rfl,rfl,?_⟩ ?_
 ·match L,q0 with
  | [],q0=>simp at q0
  | x :: l,_=>exact ⟨List.pairwise_singleton _ _,fun x=>Iff.rfl⟩
 rintro r vs cs mm bx _ ⟨rfl,i,i1,i2,rfl,rfl,hd⟩
 conv=>whnf
 refine br_ (fun q1=>?_) fun q1=>?_
 ·have hil:i<L.length:=by omega
  obtain ⟨v,hv⟩:∃ v,L[i]? = some v:=⟨_,List.getElem?_eq_getElem hil⟩
  obtain ⟨w,hw⟩:∃ w,L[i - 1]? = some w:=⟨_,List.getElem?_eq_getElem (by omega)⟩
  have hgv:(L.map uv++rest)[i]? = some (uv v):=by rw [List.getElem?_append_left (by simp;omega),List.getElem?_map,hv];rfl
  have hgw:(L.map uv++rest)[i - 1]? = some (uv w):=by rw [List.getElem?_append_left (by simp;omega),List.getElem?_map,hw];rfl
  conv=>whnf
  refine n_ ?_
  refine ⟨_,loadI aggU hb rfl hgv,cw_ ?_⟩
  refine n_ ?_
  refine n_ ?_
  refine ⟨_,loadI aggU hb (j:=i - 1) (by omega) hgw,cw_ ?_⟩
  refine br_ (fun q2=>?_) fun q2=>?_
  ·have hvw:v=w:=by omega
   subst hvw
   conv=>whnf
   refine n_ ?_
   refine bf_ ?_
   have hd1:=dst_same hd hv hw i1
   refine loop_at [5,3] [] (fun r vs _ h'=>∃ (j:Nat) (D:List Nat),1≤j∧i+j≤L.length∧r=L.length - (i+j)∧vs=[.v (.int .i64 j),.v (.int .i64 D.length)]∧D.length≤i+j - 1∧Dst L D (i+j)∧h' b=some (rowO 52 ((D++L.drop D.length).map uv++rest))∧∀ c,c≠b→h' c=h c) (L.length - (i+1)) ⟨1,L.take i,by omega,by omega,rfl,?_,by rw [List.length_take];omega,hd1,?_,fun _ _=>rfl⟩ ?_
   ·show [MV.v (Value.int .i64 1),MV.v (Value.int .i64 (i:Int))]=_
    rw [List.length_take,Nat.min_eq_left (by omega)]
    rfl
   ·rw [List.length_take,Nat.min_eq_left (by omega),List.take_append_drop]
    exact hb
   rintro r vs cs mm bx h1 ⟨j,D,j1,j2,rfl,rfl,hDl,hD,hb1,ho1⟩
   have hcur:∀ m,D.length≤m→m<L.length→∀ x,L[m]? = some x→((D++L.drop D.length).map uv++rest)[m]? = some (uv x):=fun m hm hm2 x hx=>by
    rw [List.getElem?_append_left (by simp;omega),List.getElem?_map,List.getElem?_append_right hm,List.getElem?_drop,show D.length+(m - D.length)=m by omega,hx]
    rfl
   conv=>whnf
   refine br_ (fun q3=>?_) fun q3=>?_
   ·have hjl:i+j<L.length:=by omega
    obtain ⟨x,hx⟩:∃ x,L[i+j]? = some x:=⟨_,List.getElem?_eq_getElem hjl⟩
    obtain ⟨y,hy⟩:∃ y,L[i+j - 1]? = some y:=⟨_,List.getElem?_eq_getElem (by omega)⟩
    have lx:loadH Tryz.prog 52 h1 (((⟨b,0,none⟩:Addr).add ((i:Int).toNat*1)).add ((j:Int).toNat*1))=some (uv x) :=
     loadCA (b:=b) (k:=i+j) (by rw [addr_add,addr_add,Int.toNat_natCast,Int.toNat_natCast];congr 1;omega) aggU hb1 (hcur (i+j) (by omega) hjl x hx)
    have ly:loadH Tryz.prog 52 h1 (((⟨b,0,none⟩:Addr).add ((i:Int).toNat*1)).add (((j:Int) - 1).toNat*1))=some (uv y) :=
     loadCA (b:=b) (k:=i+j - 1) (by rw [addr_add,addr_add,Int.toNat_natCast,show ((j:Int) - 1).toNat=j - 1 by omega];congr 1;omega) aggU hb1 (hcur (i+j - 1) (by omega) (by omega) y hy)
    conv=>whnf
    refine n_ ?_
    refine ⟨_,lx,cw_ ?_⟩
    refine n_ ?_
    refine n_ ?_
    refine ⟨_,ly,cw_ ?_⟩
    refine br_ (fun q4=>?_) fun q4=>?_
    ·have hd3:=dst_add hs hD hx hy (by omega) (by omega)
     conv=>whnf
     refine n_ ?_
     refine ⟨_,lx,cw_ ?_⟩
     refine n_ ?_
     refine wr_intro (by exact storeI (z:=uv x) (j:=D.length) sizU hb1 rfl (by simp;omega) rfl rfl) (fun h3 at_h3 ot_h3=>cw_ ?_)
     refine n_ ?_
     refine n_ ?_
     have hrow:(((D++L.drop D.length).map uv++rest).set D.length (uv x))=((D++[x])++L.drop (D++[x]).length).map uv++rest:=by
      obtain ⟨z,hz⟩:∃ z,L[D.length]? = some z:=⟨_,List.getElem?_eq_getElem (by omega)⟩
      obtain ⟨hz1,hz2⟩:=List.getElem?_eq_some_iff.1 hz
      rw [List.drop_eq_getElem_cons hz1]
      simp only [List.map_append,List.map_cons,List.map_nil,List.append_assoc,List.cons_append,List.nil_append,List.length_append,List.length_cons,List.length_nil]
      rw [List.set_append_right _ _ (by simp)]
      simp
     have at5:h3 b=some (rowO 52 (((D++[x])++L.drop (D++[x]).length).map uv++rest)):=by rw [← hrow];exact at_h3
     refine ⟨L.length - (i+(j+1)),by omega,j+1,D++[x],by omega,by omega,rfl,?_,by simp;omega,hd3,at5,fun c hc=>by rw [ot_h3 c hc];exact ho1 c hc⟩
     show [MV.v (Value.int .i64 ((j:Int)+1)),MV.v (Value.int .i64 ((D.length:Int)+1))]=_
     rw [List.length_append]
     rfl
    ·have hxy:x=y:=by omega
     subst hxy
     have hd3:=dst_same hD hx hy (by omega)
     conv=>whnf
     refine n_ ?_
     exact ⟨L.length - (i+(j+1)),by omega,j+1,D,by omega,by omega,rfl,rfl,by omega,hd3,hb1,ho1⟩
   ·have hij:i+j=L.length:=by omega
    obtain ⟨f1,f2⟩:=dst_full hD (by omega)
    have hDpos:0<D.length:=by
     obtain ⟨z,hz⟩:∃ z,z ∈ L:=⟨L[0],List.getElem_mem (by omega)⟩
     exact List.length_pos_of_mem ((f2 z).2 hz)
    have hbA:h1 b=some (rowO 52 (D.map uv++((L.drop D.length).map uv++rest))):=by rw [← List.append_assoc,← List.map_append];exact hb1
    have hlen:(L.drop D.length).length=L.length - D.length:=List.length_drop
    obtain ⟨Z,hZ,hclr⟩:=clrH_at (P:=Tryz.prog) (t := 139) (e := 52) (z:=.int .u64 0) (n:=L.length - D.length) (c:=cap - D.length) (by kernel_rfl) (by kernel_rfl) rfl hbA (off:=D.length) (by simp) (by rw [List.length_map,hlen];exact (Nat.mul_one _).symm) (by omega)
    conv=>whnf
    refine n_ ?_
    refine bf_ ?_
    refine io_intro (by
     show clrH Tryz.prog 139 h1 (.slice (some ((⟨b,0,none⟩:Addr).add ((D.length:Int).toNat*1))) (L.length - (D.length:Int).toNat) (cap - (D.length:Int).toNat))=_
     rw [Int.toNat_natCast,addr_add,Nat.zero_add,Nat.mul_one];exact hclr) (fun h6 at6 ot6=>?_)
    conv=>whnf
    refine n_ ?_
    refine bf_ ?_
    have hO6:Owns k h6 52 1 (.slice (some ⟨b,0,none⟩) D.length cap) D.length (D.map uv):=by
     refine ⟨some b,⟨by simp,.inr ⟨b,cap,Z++rest,rfl,rfl,by omega,?_,at6⟩⟩,fun c o e=>?_,hno⟩
     ·rw [List.length_append,hZ,List.length_map,hlen,hrest];omega
     ·have hc:c≠b:=fun hh=>by subst hh;rw [hkb] at e;cases e
      rw [ot6 c hc,ho1 c hc]
      exact hle _ _ e
    refine kq (hk _ D h6 f1 f2 hO6) ?_
    show Value.slice (some ((⟨b,0,none⟩:Addr).add (0*1))) ((D.length:Int).toNat - 0) (cap - 0)=_
    rw [addr_add,Int.toNat_natCast]
    rfl
  ·conv=>whnf
   refine n_ ?_
   have hd2:=dst_add hs hd hv hw i1 (by omega)
   refine ⟨L.length - (i+1),by omega,rfl,i+1,by omega,by omega,rfl,rfl,?_⟩
   rw [List.take_add_one,hv]
   exact hd2
 ·have:i=L.length:=by omega
  subst this
  rw [List.take_length] at hd
  have:=dst_full hd (Nat.le_refl _)
  conv=>whnf
  exact hk _ L h this.1 this.2 hO'
def linesA (a:Ak):List Nat:=if groupN a.kind=1∧mayB a=true then accL a.addr a.next a.cut a.size else []
theorem linesA_pie {a:Ak} (ha:a.ok) (hg:groupN a.kind=1):linesA a=dl (pieL a):=by
 unfold linesA pieL
 by_cases hm:mayB a=true
 ·obtain ⟨m1,m2,m3,m4⟩:=(mayB_iff a).1 hm
  rw [if_pos ⟨hg,hm⟩,if_neg (by simp [hm]),acc_run ha.addr ha.next m1 m2 m3 m4]
 ·rw [if_neg (fun hh=>hm hh.2),if_pos (by simpa using hm)]
  rfl
theorem runL_len (addr n:Nat):(runL addr n).length≤2:=by unfold runL;split <;> (try split) <;> simp
theorem pieL_len (a:Ak):(pieL a).length≤4:=by
 unfold pieL
 have h1:=runL_len a.addr a.size.toNat
 have h2:=runL_len a.addr a.cut.toNat
 have h3:=runL_len a.next (a.size - a.cut).toNat
 split
 ·simp
 split
 ·omega
 ·rw [List.length_append];omega
theorem ins_len (n:Nat):∀ l:List Nat,(ins n l).length≤l.length+1
 | []=>by simp [ins]
 | m :: l=>by
  unfold ins
  have:=ins_len n l
  split
  ·simp only [List.length_cons];omega
  split <;> simp
theorem dl_len_le (l:List Nat):(dl l).length≤l.length:=by
 have key:∀ (l a:List Nat),(l.foldl (fun a n=>ins n a) a).length≤a.length+l.length:=by
  intro l
  induction l with
  | nil=>intro a;simp
  | cons n l ih =>
   intro a
   have h1:=ih (ins n a)
   have h2:=ins_len n a
   rw [List.foldl_cons,List.length_cons]
   omega
 simpa [dl] using key l []
theorem aggPc:isAggT Tryz.prog 166 = some true:=by kernel_rfl
theorem sizPc:sizeT Tryz.prog 166 = some 3:=by kernel_rfl
theorem lines_xA (a:Ak) (ha:a.ok) (hk:∀ s' h',Owns h h' 52 1 s' (linesA a).length ((linesA a).map uv)→K s' h'):X Tryz.prog 71 #[.agg a.cs.toArray] h K:=by
 refine fnv (args:=_) mixed [(5,5),(19,5)] [] [] Tryz.func71 rfl (by kernel_rfl) (cw_ ?_)
 refine new_intro (o:=rowO 59 a.cs) (fun b h1 n_b le_b at_b ot_b=>cw_ ?_)
 have hnb:h b=none:=n_b
 refine ⟨_,loadC (i:=0) aggKi at_b rfl,cw_ ?_⟩
 refine group_x a.kind (cw_ ?_)
 refine br_ (fun q1=>?_) fun q1=>?_
 ·have e:linesA a=[]:=if_neg fun hh=>q1 hh.1
  rw [e] at hk
  conv=>whnf
  exact hk _ h1 (Owns.nil le_b)
 have hpie:=linesA_pie ha q1
 conv=>whnf
 refine ⟨_,loadA0 aggAk sizAk at_b rfl,cw_ ?_⟩
 refine access_x a (cw_ ?_)
 refine pieces_x a ha fun s2 L2 h2 hO2 hb2 hm2 hl2=>?_
 obtain ⟨a2,c2,rfl⟩:=hO2.shape
 have hrd:Rd Tryz.prog 166 3 h2 (.slice a2 L2.length c2) (L2.map fun p=>.agg p.cs.toArray):=by
  obtain ⟨ob,g,_⟩:=hO2
  exact Gr.rdN (f:=Pc.cs) aggPc sizPc (fun _=>rfl) g
 obtain ⟨_,f2⟩:=hrd.get
 have le02:=Hp.le_trans le_b hO2.le
 conv=>whnf
 refine loop_at [14,3] [] (fun r vs _ h'=>∃ (i:Nat) (sl:Value),i≤L2.length∧r=L2.length - i∧vs=[.v (.int .i64 i),.v sl]∧Owns h2 h' 52 1 sl i (((L2.take i).map fun p=>p.a / 64).map uv)) L2.length ⟨0,.slice none 0 0,by omega,by omega,rfl,Owns.nil (Hp.le_refl _)⟩ ?_
 rintro r vs cs mm bx h3 ⟨i,sl,hi,rfl,rfl,hO3⟩
 conv=>whnf
 refine br_ (fun q2=>?_) fun q2=>?_
 ·have hiL:i<L2.length:=by omega
  obtain ⟨p,hp⟩:∃ p,L2[i]? = some p:=⟨_,List.getElem?_eq_getElem hiL⟩
  have hpb:=hb2 p (List.mem_of_getElem? hp)
  obtain ⟨a3,ea,e1⟩:=f2 i _ (by rw [List.getElem?_map,hp];rfl)
  subst ea
  have e2:loadH Tryz.prog 166 h3 (a3.add (((i:Int)).toNat*3))=some (.agg p.cs.toArray):=by rw [show ((i:Int)).toNat=i by omega];exact loadH_le hO3.le e1
  have hst:((L2.take (i+1)).map fun p=>p.a / 64).map uv=((L2.take i).map fun p=>p.a / 64).map uv++[uv (p.a / 64)]:=by
   rw [List.take_add_one,hp,List.map_append,List.map_append];rfl
  conv=>whnf
  refine n_ ?_
  refine ⟨_,e2,cw_ ?_⟩
  refine line_xS p.a hpb (cw_ ?_)
  refine new_intro (o:=rowO 52 [uv (p.a / 64)]) (fun y h4 n_y le_y at_y ot_y=>cw_ ?_)
  have hI:Tryz.prog.info? 52 = some Tryz.prog.types[52]:=by kernel_rfl
  refine Owns.app1 (z:=.int .u64 0) (by kernel_rfl) hI (by kernel_rfl) (by kernel_rfl) (by kernel_rfl) rfl (bytes:=8) (by decide) rfl rfl rfl (hO3.up le_y) at_y rfl rfl (by omega) fun s5 h5 hO5=>(cw_ ?_)
  refine n_ ?_
  refine ⟨L2.length - (i+1),by omega,i+1,s5,by omega,rfl,rfl,?_⟩
  rw [hst];exact hO5
 have hi2:i=L2.length:=by omega
 subst hi2
 rw [List.take_length,hm2] at hO3
 have hpl:=pieL_len a
 have hll:(pieL a).length=L2.length:=by rw [← hm2,List.length_map]
 rw [← hll] at hO3
 conv=>whnf
 refine sort_x (L:=pieL a) hO3 (by omega) fun L5 h5 hs5 hp5 hO5=>(cw_ ?_)
 refine compact_x (L:=L5) hO5 (by rw [hp5.length_eq];omega) hs5 fun s6 L6 h6 hr6 hm6 hO6=>?_
 have hfin:L6=linesA a:=by
  rw [hpie]
  refine rising_ext hr6 (rising_dl _) fun x=>?_
  rw [hm6,mem_dl]
  exact hp5.mem_iff
 subst hfin
 conv=>whnf
 exact hk s6 h6 (hO6.weak le02)
end
end Go.Proofs.YtnjlneefddlaoaaGreat
