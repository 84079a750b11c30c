/-
  Orders: the document's orders.
-/
import Derived.Test.YtnjlneefddlaoaaGreatOrM
set_option linter.unusedSimpArgs false
set_option linter.unusedVariables false
set_option maxHeartbeats 8000000
set_option maxRecDepth 10000
set_option linter.unusedSimpArgs false
set_option linter.unusedVariables false
namespace Go.Proofs.YtnjlneefddlaoaaGreat
open Go Go.Mid Go.RowKit
attribute [local irreducible] mid
section
variable {h:Hp} {K:Value→Hp→Prop}
theorem rdI_int {s:Value} {l:List Nat} (r:RdI h s l):RdN h s (l.map fun n:Nat=>(n:Int)):=by
 show Rd Tryz.prog 3 1 h s _
 rw [List.map_map]
 exact r
def RdLs (k:Hp) (svs:List Value) (LL:List (List Nat)):Prop:=svs.length=LL.length∧∀ (i:Nat) (q:List Nat),LL[i]? = some q→∃ sv,svs[i]? = some sv∧RdI k sv q
theorem RdLs.le {k k':Hp} {svs:List Value} {LL:List (List Nat)} (r:RdLs k svs LL) (hle:k.le k'):RdLs k' svs LL:=⟨r.1,fun i q hq=>(r.2 i q hq).imp fun sv e=>⟨e.1,e.2.le hle⟩⟩
theorem RdLs.snoc {k:Hp} {svs:List Value} {LL:List (List Nat)} {sv:Value} {q:List Nat} (r:RdLs k svs LL) (hq:RdI k sv q):RdLs k (svs++[sv]) (LL++[q]):=by
 refine ⟨by rw [List.length_append,List.length_append,r.1];rfl,fun i p hp=>?_⟩
 by_cases hi:i<LL.length
 ·rw [List.getElem?_append_left hi] at hp
  obtain ⟨sv',e1,e2⟩:=r.2 i p hp
  exact ⟨sv',by rw [List.getElem?_append_left (by rw [r.1];exact hi)];exact e1,e2⟩
 ·have hlt:=(List.getElem?_eq_some_iff.1 hp).1
  rw [List.length_append,List.length_singleton] at hlt
  obtain rfl:i=LL.length:=by omega
  rw [List.getElem?_append_right (Nat.le_refl _),Nat.sub_self] at hp
  cases hp
  exact ⟨sv,by rw [← r.1,List.getElem?_append_right (Nat.le_refl _),Nat.sub_self];rfl,hq⟩
theorem perm_len {n:Nat} (hn:n≤5):(permL n).length≤120∧0<(permL n).length:=by
 match n,hn with
 | 0,_ | 1,_ | 2,_ | 3,_ | 4,_ | 5,_=>decide +kernel
 | _+6,h=>exact absurd h (by omega)
theorem infIs:Tryz.prog.info? 29 = some Tryz.prog.types[29]:=by kernel_rfl
open Classical in
theorem rorders_x (ls:Value) (L:List Ev) (hL:RdE h ls L) (hl:L.length≤5) (hk:∀ s' h' svs k,h.le k→Owns k h' 29 1 s' (ordL L).length svs→RdLs k svs (ordL L)→K s' h'):X Tryz.prog 6 #[ls] h K:=by
 obtain ⟨base,cap,rfl,fL⟩:=rdE hL
 obtain ⟨hp1,hp2⟩:=perm_len hl
 have hfirst:=perm_first L.length hl
 have hch:=perm_chain L.length hl
 let F:Nat→List (List Nat):=fun k=>((permL L.length).take k).filter fun q=>decide (extP L (q.map fun n:Nat=>(n:Int)))
 have hF0:F 0=[]:=rfl
 have hFe:F (permL L.length).length=ordL L:=by show ((permL L.length).take _).filter _=_;rw [List.take_length];rfl
 have hFs:∀ k q,(permL L.length)[k]? = some q→F (k+1)=F k++if extP L (q.map fun n:Nat=>(n:Int)) then [q] else []:=fun k q hq=>by
  show ((permL L.length).take (k+1)).filter _=((permL L.length).take k).filter _++_
  rw [List.take_add_one,hq,List.filter_append]
  congr 1
  by_cases he:extP L (q.map fun n:Nat=>(n:Int)) <;> simp [he]
 have hFl:∀ k,(F k).length≤120:=fun k=>Nat.le_trans (List.length_filter_le _ _) (by rw [List.length_take];omega)
 clear_value F
 refine fnv (args:=_) mixed [] [] [] Tryz.func6 rfl (by kernel_rfl) (cw_ ?_)
 refine first_x L.length (by omega) fun s0 h1 hO1=>?_
 obtain ⟨a0,c0,rfl⟩:=hO1.shape
 have hI1:RdI h1 (.slice a0 L.length c0) (List.range L.length):=hO1.rd aggIn
 conv=>whnf
 refine loop_at [5,4,3] [] (fun r vs cs h'=>∃ (i:Nat) (m:Bool) (os so:Value) (svs:List Value) (k:Hp),i≤(permL L.length).length∧r=(permL L.length).length - i∧vs=[.v (.bool m),.v os,.v so]∧h.le k∧Owns k h' 29 1 so (F i).length svs∧RdLs k svs (F i)∧(m=false→i=(permL L.length).length)∧(∃ a n c,os=.slice a n c)∧(m=true→∃ q,(permL L.length)[i]? = some q∧RdI k os q)) (permL L.length).length ⟨0,true,.slice a0 L.length c0,.slice none 0 0,[],h1,by omega,by omega,rfl,hO1.le,by rw [hF0];exact Owns.nil (Hp.le_refl _),by rw [hF0];exact ⟨rfl,fun i q hq=>by simp at hq⟩,(fun e=>by cases e),⟨_,_,_,rfl⟩,fun _=>⟨_,hfirst,hI1⟩⟩ ?_
 rintro r vs cs mm bx h2 ⟨i,m,os,so,svs,k,hi,rfl,rfl,hle,hO,hR,hm,⟨oa,on,oc,rfl⟩,hq1⟩
 obtain ⟨sa,sc,rfl⟩:=hO.shape
 cases m with
 | false =>
  obtain rfl:=hm rfl
  have hK:=hk (.slice sa (F (permL L.length).length).length sc) h2 svs k hle (by rw [← hFe];exact hO) (by rw [← hFe];exact hR)
  conv=>whnf
  exact hK
 | true =>
  obtain ⟨q,hq,hI⟩:=hq1 rfl
  clear hq1
  have hil:i<(permL L.length).length:=(List.getElem?_eq_some_iff.1 hq).1
  obtain ⟨g1,g2,g3⟩:=perm_ok (List.mem_of_getElem? hq)
  obtain ⟨_,_,eos,_⟩:=id hI
  cases eos
  rw [List.length_map] at hI ⊢
  conv=>whnf
  refine rext_x _ _ L (q.map fun n:Nat=>(n:Int)) (hL.le (Hp.le_trans hle hO.le)) (rdI_int (hI.le hO.le)) (by omega) (by rw [List.length_map];omega) fun b hb=>?_
  have hFi:=hFs i q hq
  have hFil:=hFl i
  cases b with
  | false =>
   rw [if_neg (fun e=>by cases hb.2 e),List.append_nil] at hFi
   have hO:Owns k h2 29 1 (.slice sa (F i).length sc) (F (i+1)).length svs:=by rw [hFi];exact hO
   rw [← hFi] at hR
   conv=>whnf
   refine nextA_x _ q (hI.le hO.le) (by omega) fun s5 h5 hO5=>?_
   obtain ⟨a5,c5,rfl⟩:=hO5.shape
   obtain ⟨k',lk,hO',hI'⟩:=hO.also aggIn hO5
   rcases chain_next hch hq with ⟨e1,e2⟩ | ⟨q',e1,e2⟩
   ·rw [e2]
    have:i+1=(permL L.length).length:=by
     rw [List.getElem?_eq_none_iff] at e1;omega
    conv=>whnf
    exact ⟨(permL L.length).length - (i+1),by omega,i+1,false,_,_,_,k',by omega,rfl,rfl,Hp.le_trans hle lk,hO',hR.le lk,fun _=>this,⟨_,_,_,rfl⟩,fun e=>by cases e⟩
   ·rw [e2] at hI'
    rw [e2]
    conv=>whnf
    exact ⟨(permL L.length).length - (i+1),by omega,i+1,true,_,_,_,k',by omega,rfl,rfl,Hp.le_trans hle lk,hO',hR.le lk,(fun e=>by cases e),⟨_,_,_,rfl⟩,fun _=>⟨q',e1,hI'⟩⟩
  | true =>
   rw [if_pos (hb.1 rfl)] at hFi
   conv=>whnf
   refine new_intro (o:=rowO 29 [.slice oa q.length oc]) (fun y h3 n_y le_y at_y ot_y=>cw_ ?_)
   refine Owns.app1 (z:=.slice none 0 0) (by kernel_rfl) infIs (by kernel_rfl) (by kernel_rfl) (by kernel_rfl) rfl (bytes:=24) (by decide) rfl rfl rfl (hO.up le_y) at_y rfl rfl (by omega) fun s4 h4 hO4=>?_
   have hO:Owns k h4 29 1 s4 (F (i+1)).length (svs++[.slice oa q.length oc]):=by rw [hFi,List.length_append,List.length_singleton];exact hO4
   have hR:RdLs k (svs++[.slice oa q.length oc]) (F (i+1)):=by rw [hFi];exact hR.snoc hI
   obtain ⟨a4,c4,rfl⟩:=hO.shape
   conv=>whnf
   refine nextA_x _ q (hI.le hO.le) (by omega) fun s5 h5 hO5=>?_
   obtain ⟨a5,c5,rfl⟩:=hO5.shape
   obtain ⟨k',lk,hO',hI'⟩:=hO.also aggIn hO5
   rcases chain_next hch hq with ⟨e1,e2⟩ | ⟨q',e1,e2⟩
   ·rw [e2]
    have:i+1=(permL L.length).length:=by
     rw [List.getElem?_eq_none_iff] at e1;omega
    conv=>whnf
    exact ⟨(permL L.length).length - (i+1),by omega,i+1,false,_,_,_,k',by omega,rfl,rfl,Hp.le_trans hle lk,hO',hR.le lk,fun _=>this,⟨_,_,_,rfl⟩,fun e=>by cases e⟩
   ·rw [e2] at hI'
    rw [e2]
    conv=>whnf
    exact ⟨(permL L.length).length - (i+1),by omega,i+1,true,_,_,_,k',by omega,rfl,rfl,Hp.le_trans hle lk,hO',hR.le lk,(fun e=>by cases e),⟨_,_,_,rfl⟩,fun _=>⟨q',e1,hI'⟩⟩
end
end Go.Proofs.YtnjlneefddlaoaaGreat
