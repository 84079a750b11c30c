/-
  Orders: the document's lists of places.
-/
import Derived.Test.YtnjlneefddlaoaaGreatOrL
import Derived.Test.YtnjlneefddlaoaaGreatOrD
set_option linter.unusedSimpArgs false
set_option linter.unusedVariables false
set_option maxHeartbeats 8000000
set_option maxRecDepth 10000
set_option linter.unusedSimpArgs false
set_option linter.unusedVariables false
namespace Go.Proofs.YtnjlneefddlaoaaGreat
open Go Go.Mid Go.RowKit
attribute [local irreducible] mid
section
variable {h:Hp} {K:Value→Hp→Prop}
theorem infI:Tryz.prog.info? 3 = some Tryz.prog.types[3]:=by kernel_rfl
theorem ownsE {k h h':Hp} {z:Nat} {el size:Nat} (hz:h z=none) (hle:h.le h') (hat:h' z=some (rowO el [])) (hk:k.le h):Owns k h' el size (.slice (some ⟨z,0,none⟩) 0 0) 0 []:=⟨some z,⟨by simp,.inr ⟨z,0,[],rfl,rfl,Nat.le_refl _,by simp,hat⟩⟩,Hp.le_trans hk hle,fun c e=>by cases e;exact Hp.none_le hk hz⟩
theorem first_x (n:Nat) (hn:n≤1000) (hk:∀ s' h',Owns h h' 3 1 s' n ((List.range n).map ni)→K s' h'):X Tryz.prog 18 #[.int .i64 n] h K:=by
 refine fnv (args:=_) mixed [] [] [] Tryz.func18 rfl (by kernel_rfl) (cw_ ?_)
 refine new_intro (o:=_) (fun z h1 n_z le_z at_z ot_z=>cw_ ?_)
 refine loop_at [4,3] [] (fun r vs cs h'=>∃ (i:Nat) (sl:Value),i≤n∧r=n - i∧vs=[.v (.int .i64 i),.v sl]∧Owns h h' 3 1 sl i ((List.range i).map ni)) n ⟨0,_,by omega,by omega,rfl,ownsE n_z le_z at_z (Hp.le_refl _)⟩ ?_
 rintro r vs cs mm bx h2 ⟨i,sl,hi,rfl,rfl,hO⟩
 obtain ⟨a,c,rfl⟩:=hO.shape
 conv=>whnf
 refine br_ (fun q1=>?_) fun q1=>?_
 ·conv=>whnf
  refine new_intro (o:=rowO 3 [ni i]) (fun y h3 n_y le_y at_y ot_y=>cw_ ?_)
  refine Owns.app1 (z:=.int .i64 0) (by kernel_rfl) infI (by kernel_rfl) (by kernel_rfl) (by kernel_rfl) rfl (bytes:=8) (by decide) rfl rfl rfl (hO.up le_y) at_y rfl rfl (by omega) fun s4 h4 hO4=>?_
  obtain ⟨a4,c4,rfl⟩:=hO4.shape
  conv=>whnf
  refine n_ ?_
  exact ⟨n - (i+1),by omega,i+1,_,by omega,rfl,rfl,by rw [List.range_succ,List.map_append];exact hO4⟩
 ·obtain rfl:i=n:=by omega
  conv=>whnf
  exact hk _ h2 hO
abbrev RdI (h:Hp) (s:Value) (l:List Nat):Prop:=Rd Tryz.prog 3 1 h s (l.map ni)
theorem ni_cell (l:List Nat) {j:Nat} (h:j<l.length) (rest:List Value):(l.map ni++rest)[j]? = some (ni (l.getD j 0)):=by
 rw [List.getElem?_append_left (by rw [List.length_map];exact h),List.getElem?_map,List.getElem?_eq_getElem h,List.getD_eq_getElem?_getD,List.getElem?_eq_getElem h]
 rfl
theorem ni_set (l:List Nat) {j:Nat} (h:j<l.length) (v:Nat) (rest:List Value):(l.map ni++rest).set j (.int .i64 v)=(l.set j v).map ni++rest:=by
 rw [List.set_append_left _ _ (by rw [List.length_map];exact h),List.map_set]
theorem swapN_len (l:List Nat) (a b:Nat):(swapN l a b).length=l.length:=by simp [swapN]
theorem nextN_no {l:List Nat} (h:scI l (l.length - 1)=0):nextN l=(l,false):=by
 unfold nextN
 simp only [h,if_true]
theorem nextN_is {l:List Nat} {j k:Nat} (h:scI l (l.length - 1)=j+1) (hk:scK l (l.getD j 0) (l.length - 1)=k):nextN l=(revN (swapN l j k) l.length (j+1) (l.length - 1),true):=by
 unfold nextN
 simp only [h,Nat.add_sub_cancel,hk]
 rw [if_neg (by omega)]
theorem next0_x (s:Value) (hL:RdI h s []) (hk:∀ s' h',Owns h h' 3 1 s' 0 []→K (.tuple #[s',.bool false]) h'):X Tryz.prog 19 #[s] h K:=by
 obtain ⟨base,cap,rfl,f⟩:=hL
 refine fnv (args:=_) mixed [] [] [] Tryz.func19 rfl (by kernel_rfl) (cw_ ?_)
 refine new_intro (o:=_) (fun z h1 n_z le_z at_z ot_z=>cw_ ?_)
 refine Owns.appN (z:=.int .i64 0) (news:=[]) (bytes:=8) (by kernel_rfl) infI (by kernel_rfl) (by kernel_rfl) (by kernel_rfl) rfl (by decide) rfl rfl rfl (ownsE n_z le_z at_z (Hp.le_refl _)) rfl (fun j v hj=>by simp at hj) (fun _=>rfl) rfl (by decide) fun s2 h2 hO=>?_
 obtain ⟨a,c,rfl⟩:=hO.shape
 conv=>whnf
 refine n_ ?_
 refine loop_step (cw_ ?_)
 exact hk _ h2 hO
theorem next_x (s:Value) (l:List Nat) (hL:RdI h s l) (hl:l.length≤1000) (hpos:0<l.length) (hk:∀ s' h',Owns h h' 3 1 s' l.length ((nextN l).1.map ni)→K (.tuple #[s',.bool (nextN l).2]) h'):X Tryz.prog 19 #[s] h K:=by
 obtain ⟨base,cap,rfl,f⟩:=hL
 rw [List.length_map] at *
 refine fnv (args:=_) mixed [] [] [] Tryz.func19 rfl (by kernel_rfl) (cw_ ?_)
 refine new_intro (o:=_) (fun z h1 n_z le_z at_z ot_z=>cw_ ?_)
 refine Owns.appN (z:=.int .i64 0) (news:=l.map ni) (bytes:=8) (by kernel_rfl) infI (by kernel_rfl) (by kernel_rfl) (by kernel_rfl) rfl (by decide) rfl rfl rfl (ownsE n_z le_z at_z (Hp.le_refl _)) (by rw [List.length_map];exact (Nat.mul_one _).symm) (fun j v hj=>?_) (fun e=>?_) (ni_one _) (by omega) fun s2 h2 hO=>?_
 ·obtain ⟨a,e,q⟩:=f j v hj
  refine ⟨a,e,cell_le le_z ?_⟩
  rw [loadH_cell aggIn,Nat.mul_one] at q
  exact q
 ·cases hq:(l.map ni)[0]? with
  | none=>rw [List.getElem?_eq_none_iff,List.length_map] at hq;omega
  | some v=>obtain ⟨a,e2,_⟩:=f 0 v hq;rw [e] at e2;cases e2
 rw [Nat.zero_add,List.nil_append] at hO
 obtain ⟨ob2,gr,le2,no2⟩:=hO
 obtain ⟨_,⟨_,_,e0⟩ | ⟨b,c,rest,e1,rfl,hc,hrl,hb⟩⟩:=gr
 ·omega
 have hkb:=no2 b e1
 have hfin:∀ (q:List Nat) (h':Hp),q.length=l.length→h' b=some (rowO 3 (q.map ni++rest))→(∀ d,d≠b→h' d=h2 d)→Owns h h' 3 1 (.slice (some ⟨b,0,none⟩) l.length c) l.length (q.map ni):=fun q h' e1 e2 e3=>⟨some b,⟨by rw [List.length_map];omega,.inr ⟨b,c,rest,rfl,rfl,hc,hrl,e2⟩⟩,fun d o hd=>by rw [e3 d (fun e=>by subst e;rw [hkb] at hd;cases hd)];exact le2 _ _ hd,fun d e=>by cases e;exact hkb⟩
 conv=>whnf
 refine n_ ?_
 generalize hcI:scI l (l.length - 1)=c0
 refine loop_at [5] [] (fun r vs cs h'=>h2=h'∧∃ i:Nat,i≤l.length - 1∧i=r∧vs=[.v (.int .i64 ((i:Int) - 1))]∧scI l i=c0) (l.length - 1) ⟨rfl,l.length - 1,by omega,rfl,by rw [show (((l.length - 1:Nat):Int) - 1)=(l.length:Int) - 2 by omega];rfl,hcI⟩ ?_
 rintro r vs cs mm bx _ ⟨rfl,i,hi,rfl,rfl,hci⟩
 conv=>whnf
 refine br_ (fun q1=>?_) fun q1=>?_
 ·obtain ⟨j,rfl⟩:∃ j,i=j+1:=⟨i - 1,by omega⟩
  rw [show ((j+1:Nat):Int) - 1=(j:Int) by omega]
  conv=>whnf
  refine n_ ?_
  refine ⟨_,loadI aggIn hb rfl (ni_cell l (by omega) rest),cw_ ?_⟩
  refine ov_eq (show (j:Int)+1=((j+1:Nat):Int) by omega) (by omega) (cw_ ?_)
  refine n_ ?_
  refine ⟨_,loadI aggIn hb rfl (ni_cell l (by omega) rest),cw_ ?_⟩
  refine br_ (fun q2=>?_) fun q2=>?_
  ·rw [scI,if_pos (by omega)] at hci
   conv=>whnf
   refine n_ ?_
   exact ⟨j,by omega,rfl,j,by omega,rfl,rfl,hci⟩
  ·rw [scI,if_neg (by omega)] at hci
   subst hci
   have hle:l.getD j 0≤l.getD (j+1) 0:=by omega
   generalize hkK:scK l (l.getD j 0) (l.length - 1)=k0
   conv=>whnf
   refine n_ ?_
   refine loop_at [6] [] (fun r vs cs h'=>h2=h'∧∃ k:Nat,j≤k∧k≤l.length - 1∧k=r∧vs=[.v (.int .i64 k)]∧scK l (l.getD j 0) k=k0) (l.length - 1) ⟨rfl,l.length - 1,by omega,by omega,rfl,by rw [show ((l.length - 1:Nat):Int)=(l.length:Int) - 1 by omega];rfl,hkK⟩ ?_
   rintro r vs cs mm2 bx2 _ ⟨rfl,k,hk1,hk2,rfl,rfl,hck⟩
   conv=>whnf
   refine n_ ?_
   refine ⟨_,loadI aggIn hb rfl (ni_cell l (by omega) rest),cw_ ?_⟩
   refine n_ ?_
   refine ⟨_,loadI aggIn hb rfl (ni_cell l (by omega) rest),cw_ ?_⟩
   refine br_ (fun q3=>?_) fun q3=>?_
   ·obtain ⟨m,rfl⟩:∃ m,k=m+1:=by
     cases k with
     | zero =>
      obtain rfl:j=0:=by omega
      omega
     | succ m=>exact ⟨m,rfl⟩
    rw [scK,if_pos (by omega)] at hck
    have hjm:j≤m:=by
     by_cases e:j=m+1
     ·subst e;omega
     ·omega
    conv=>whnf
    refine ov_eq (show ((m+1:Nat):Int) - 1=(m:Int) by omega) (by omega) (cw_ ?_)
    exact ⟨m,by omega,rfl,m,by omega,by omega,rfl,rfl,hck⟩
   ·have hkk:k0=k:=by
     cases k with
     | zero=>rw [scK] at hck;exact hck.symm
     | succ m=>rw [scK,if_neg (by omega)] at hck;exact hck.symm
    subst hkk
    conv=>whnf
    refine n_ ?_
    refine ⟨_,loadI aggIn hb rfl (ni_cell l (by omega) rest),cw_ ?_⟩
    refine n_ ?_
    refine ⟨_,loadI aggIn hb rfl (ni_cell l (by omega) rest),cw_ ?_⟩
    refine n_ ?_
    refine wr_intro (by exact storeI sizI6 hb rfl (by rw [List.length_append,List.length_map];omega) rfl rfl) (fun h3 at_h3 ot_h3=>cw_ ?_)
    have at_h3:h3 b=some (rowO 3 ((l.set j (l.getD k0 0)).map ni++rest)):=at_h3.trans (congrArg (fun x=>some (rowO 3 x)) (ni_set l (by omega) _ rest))
    refine n_ ?_
    refine wr_intro (by exact storeI sizI6 at_h3 rfl (by rw [List.length_append,List.length_map,List.length_set];omega) rfl rfl) (fun h4 at_h4 ot_h4=>cw_ ?_)
    have at_h4:h4 b=some (rowO 3 ((swapN l j k0).map ni++rest)):=at_h4.trans (congrArg (fun x=>some (rowO 3 x)) (ni_set (l.set j (l.getD k0 0)) (by rw [List.length_set];omega) _ rest))
    refine ov_eq (show (j:Int)+1=((j+1:Nat):Int) by omega) (by omega) (cw_ ?_)
    refine n_ ?_
    rw [nextN_is hcI hkK] at hk
    generalize hfr:revN (swapN l j k0) l.length (j+1) (l.length - 1)=fin at hk
    refine loop_at [8,9] [] (fun r vs cs h'=>∃ (q:List Nat) (a' b':Nat),q.length=l.length∧b'<l.length∧b' - a'≤r∧revN q r a' b'=fin∧vs=[.v (.int .i64 a'),.v (.int .i64 b')]∧h' b=some (rowO 3 (q.map ni++rest))∧∀ d,d≠b→h' d=h2 d) l.length ⟨swapN l j k0,j+1,l.length - 1,swapN_len _ _ _,by omega,by omega,hfr,by rw [show ((l.length - 1:Nat):Int)=(l.length:Int) - 1 by omega];rfl,at_h4,fun d hd=>by rw [ot_h4 d hd,ot_h3 d hd]⟩ ?_
    rintro r vs cs mm3 bx3 h5 ⟨q,a',b',hq,hb',hab,hrv,rfl,e5,o5⟩
    conv=>whnf
    refine br_ (fun q4=>?_) fun q4=>?_
    ·obtain ⟨r',rfl⟩:∃ r',r=r'+1:=⟨r - 1,by omega⟩
     rw [revN,if_pos (by omega)] at hrv
     conv=>whnf
     refine n_ ?_
     refine ⟨_,loadI aggIn e5 rfl (ni_cell q (by omega) rest),cw_ ?_⟩
     refine n_ ?_
     refine ⟨_,loadI aggIn e5 rfl (ni_cell q (by omega) rest),cw_ ?_⟩
     refine n_ ?_
     refine wr_intro (by exact storeI sizI6 e5 rfl (by rw [List.length_append,List.length_map];omega) rfl rfl) (fun h6 at_h6 ot_h6=>cw_ ?_)
     have at_h6:h6 b=some (rowO 3 ((q.set a' (q.getD b' 0)).map ni++rest)):=at_h6.trans (congrArg (fun x=>some (rowO 3 x)) (ni_set q (by omega) _ rest))
     refine n_ ?_
     refine wr_intro (by exact storeI sizI6 at_h6 rfl (by rw [List.length_append,List.length_map,List.length_set];omega) rfl rfl) (fun h7 at_h7 ot_h7=>cw_ ?_)
     have at_h7:h7 b=some (rowO 3 ((swapN q a' b').map ni++rest)):=at_h7.trans (congrArg (fun x=>some (rowO 3 x)) (ni_set (q.set a' (q.getD b' 0)) (by rw [List.length_set];omega) _ rest))
     refine ov_eq (show (b':Int) - 1=((b' - 1:Nat):Int) by omega) (by omega) (cw_ ?_)
     refine ov_eq (show (a':Int)+1=((a'+1:Nat):Int) by omega) (by omega) (cw_ ?_)
     exact ⟨r',by omega,swapN q a' b',a'+1,b' - 1,(swapN_len _ _ _).trans hq,by omega,by omega,hrv,rfl,at_h7,fun d hd=>by rw [ot_h7 d hd,ot_h6 d hd,o5 d hd]⟩
    ·have hrv:q=fin:=by
      cases r with
      | zero=>exact hrv
      | succ r'=>rw [revN,if_neg (by omega)] at hrv;exact hrv
     subst hrv
     conv=>whnf
     exact hk _ h5 (hfin q h5 hq e5 o5)
 ·obtain rfl:i=0:=by omega
  rw [scI] at hci
  subst hci
  rw [nextN_no hcI] at hk
  conv=>whnf
  exact hk _ h2 (hfin l h2 rfl hb (fun _ _=>rfl))
theorem nextA_x (s:Value) (l:List Nat) (hL:RdI h s l) (hl:l.length≤1000) (hk:∀ s' h',Owns h h' 3 1 s' l.length ((nextN l).1.map ni)→K (.tuple #[s',.bool (nextN l).2]) h'):X Tryz.prog 19 #[s] h K:=by
 cases l with
 | nil=>exact next0_x s hL hk
 | cons a r=>exact next_x s (a :: r) hL hl (Nat.succ_pos _) hk
end
end Go.Proofs.YtnjlneefddlaoaaGreat
