/-
  Orders: all orders are told.
-/
import Derived.Test.YtnjlneefddlaoaaGreatOrN
import Derived.Test.YtnjlneefddlaoaaGreatOrI
set_option linter.unusedSimpArgs false
set_option linter.unusedVariables false
set_option maxHeartbeats 8000000
set_option maxRecDepth 10000
set_option linter.unusedSimpArgs false
set_option linter.unusedVariables false
namespace Go.Proofs.YtnjlneefddlaoaaGreat
open Go Go.Mid Go.RowKit
attribute [local irreducible] mid
abbrev lvF:Value:=.func (.func 16) #[] #[]
def allF:List (Value×Unit)→Prop
 | []=>True
 | [_]=>True
 | x :: y :: st=>x.1=lvF∧allF (y :: st)
def RdLL (k:Hp) (ws:Value) (LL:List (List Nat)):Prop:=∃ base cap,ws=.slice base LL.length cap∧∀ (i:Nat) (q:List Nat),LL[i]? = some q→∃ a sv,base=some a∧loadH Tryz.prog 29 k (a.add (i*1))=some sv∧RdI k sv q
structure OrdJ (k:Hp) (fb nb:Nat) (st:List (Value×Unit)) (m:Nat) (b:Bool) (g:Hp):Prop where
 le:k.le g
 kf:k fb=none
 kn:k nb=none
 f:g fb=some (rowO 4 [.bool true])
 n:g nb=some (rowO 3 [ni m])
 st:allF st
section
variable {h:Hp} {K:Value→Hp→Prop}
theorem aggIss:isAggT Tryz.prog 26 = some false:=by kernel_rfl
theorem ordall1_x {k g gp:Hp} {fb nb wb mb m:Nat} {b:Bool} {st:List (Value×Unit)} {LL:List (List Nat)} {o:List Nat} {sl ws:Value} {most:Int} (hw:k wb=some (rowO 26 [ws])) (hmb:k mb=some (rowO 3 [.int .i64 most])) (hLL:RdLL k ws LL) (hll:LL.length≤1000) (hm:LL[m]? = some o) (hol:o.length≤1000) (j:OrdJ k fb nb st m b g) (hO:Owns g gp 3 1 sl o.length (o.map ni)) :
  X Tryz.prog 8 #[sl,.pointer (some ⟨fb,0,none⟩),.pointer (some ⟨nb,0,none⟩),.pointer (some ⟨wb,0,none⟩),.pointer (some ⟨mb,0,none⟩)] gp fun v g'=>v=.bool (decide (((m+1:Nat):Int)≠most))∧OrdJ k fb nb st (m+1) (decide (((m+1:Nat):Int)≠most)) g':=by
 obtain ⟨base,cap,rfl,hrow⟩:=hLL
 obtain ⟨a,sv,rfl,lsv,rsv⟩:=hrow m o hm
 have hmL:m<LL.length:=(List.getElem?_eq_some_iff.1 hm).1
 have kle:=Hp.le_trans j.le hO.le
 have f1:=hO.le _ _ j.f
 have n1:=hO.le _ _ j.n
 have hRo:RdI gp sl o:=hO.rd aggIn
 have lsv:loadH Tryz.prog 29 gp (a.add (((m:Int)).toNat*1))=some sv:=loadH_le kle lsv
 obtain ⟨sa,scap,rfl⟩:=hO.shape
 obtain ⟨ob,gr,leO,noO⟩:=id hO
 refine fnv (args:=_) mixed [] [] [] Tryz.func8 rfl (by kernel_rfl) (cw_ ?_)
 refine ⟨_,loadC0 aggBo f1 rfl,cw_ ?_⟩
 refine ⟨_,loadC0 aggIn n1 rfl,cw_ ?_⟩
 refine ⟨_,loadC0 aggIss (kle _ _ hw) rfl,cw_ ?_⟩
 refine bt_ ?_
 refine ⟨_,loadC0 aggIss (kle _ _ hw) rfl,cw_ ?_⟩
 refine ⟨_,loadC0 aggIn n1 rfl,cw_ ?_⟩
 refine n_ ?_
 refine ⟨_,lsv,cw_ ?_⟩
 refine intsN_x _ _ o hRo (rsv.le kle) hol (cw_ ?_)
 refine wr_intro (by exact storeC0 sizBo f1 (Nat.zero_lt_succ 0) rfl rfl) (fun g1 at_g1 ot_g1=>cw_ ?_)
 have nfb:nb≠fb:=row_ne (by decide) n1 f1
 refine loop_at [7] [] (fun r vs cs h'=>∃ i:Nat,i≤o.length∧r=o.length - i∧vs=[.v (.int .i64 i)]∧(∀ d,(∀ x,ob=some x→d≠x)→h' d=g1 d)∧∀ x,ob=some x→∃ cs,o.length≤cs.length∧h' x=some (rowO 3 cs)) o.length ⟨0,by omega,by omega,rfl,fun _ _=>rfl,fun x e=>?_⟩ ?_
 ·obtain ⟨_,⟨e1,_,_⟩ | ⟨bb,c,rest,e1,e2,hc,hrl,hb⟩⟩:=gr
  ·rw [e1] at e;cases e
  ·have e:bb=x:=by rw [e1] at e;exact Option.some.inj e
   subst e
   exact ⟨_,by rw [List.length_append,List.length_map];omega,(ot_g1 bb (row_ne (by decide) hb f1)).trans hb⟩
 rintro r vs cs mm bx h2 ⟨i,hi,rfl,rfl,o2,c2⟩
 conv=>whnf
 refine br_ (fun q1=>?_) fun q1=>?_
 ·obtain ⟨_,⟨e1,_,e3⟩ | ⟨bb,c,rest,e1,e2,hc,hrl,hb⟩⟩:=gr
  ·omega
  cases e2
  obtain ⟨cs,hcl,hcs⟩:=c2 bb e1
  conv=>whnf
  refine n_ ?_
  refine wr_intro (by exact storeI sizI6 hcs rfl (by omega) rfl rfl) (fun h3 at_h3 ot_h3=>cw_ ?_)
  refine n_ ?_
  exact ⟨o.length - (i+1),by omega,i+1,by omega,rfl,rfl,fun d hd=>by rw [ot_h3 d (hd bb e1),o2 d hd],fun x e=>by rw [e1] at e;cases e;exact ⟨_,by rw [List.length_set];exact hcl,at_h3⟩⟩
 ·have ng:∀ {d q},g d=some q→∀ x,ob=some x→d≠x:=fun {d q} e x ex e2=>by subst e2;rw [noO _ ex] at e;cases e
  have n2:h2 nb=some (rowO 3 [ni m]):=by rw [o2 nb (ng j.n),ot_g1 nb nfb];exact n1
  have f2:h2 fb=some (rowO 4 [.bool true]):=by rw [o2 fb (ng j.f)];exact at_g1
  have m2:h2 mb=some (rowO 3 [.int .i64 most]):=by
   rw [o2 mb (ng (j.le _ _ hmb)),ot_g1 mb (fun e=>by subst e;rw [j.kf] at hmb;cases hmb)];exact kle _ _ hmb
  have mn:mb≠nb:=fun e=>by subst e;rw [j.kn] at hmb;cases hmb
  conv=>whnf
  refine ⟨_,loadC0 aggIn n2 rfl,cw_ ?_⟩
  refine n_ ?_
  refine wr_intro (by exact storeC0 sizI6 n2 (Nat.zero_lt_succ 0) rfl rfl) (fun h3 at_h3 ot_h3=>cw_ ?_)
  have n3:h3 nb=some (rowO 3 [ni (m+1)]):=at_h3
  have f3:=(ot_h3 fb (Ne.symm nfb)).trans f2
  have hJ:OrdJ k fb nb st (m+1) (decide (((m+1:Nat):Int)≠most)) h3:=⟨fun d q e=>by
   rw [ot_h3 d (fun e2=>by subst e2;rw [j.kn] at e;cases e),o2 d (ng (j.le _ _ e)),ot_g1 d (fun e2=>by subst e2;rw [j.kf] at e;cases e)]
   exact kle _ _ e,j.kf,j.kn,f3,n3,j.st⟩
  conv=>whnf
  refine ⟨_,loadC0 aggBo f3 rfl,cw_ ?_⟩
  refine ⟨_,loadC0 aggIn n3 rfl,cw_ ?_⟩
  refine ⟨_,loadC0 aggIn ((ot_h3 mb mn).trans m2) rfl,cw_ ?_⟩
  exact ⟨bI (by rw [Bool.eq_iff_iff];simp),hJ⟩
theorem orders_x (base:Option Addr) (len cap:Nat) (hk:∀ b h',h b=none→h.le h'→h' b=some (rowO 22 [.slice base len cap])→K (.func (.func 14) #[] #[.pointer (some ⟨b,0,none⟩)]) h'):X Tryz.prog 5 #[.slice base len cap] h K:=by
 refine fnv (args:=_) mixed [] [] [] Tryz.func5 rfl (by kernel_rfl) (cw_ ?_)
 refine new_intro (o:=rowO 22 [.slice base len cap]) (fun b h1 n_b le_b at_b ot_b=>cw_ ?_)
 exact hk b h1 n_b le_b at_b
theorem orders1_x {k:Hp} {fb nb wb mb lb:Nat} {ls ws:Value} {L:List Ev} {most:Int} (hw:k wb=some (rowO 26 [ws])) (hmb:k mb=some (rowO 3 [.int .i64 most])) (hlb:k lb=some (rowO 22 [ls])) (hL:RdE k ls L) (hl:L.length≤5) (hLL:RdLL k ws (ordL L)) (j:OrdJ k fb nb [(.nilFunc,())] 0 true h)
  (hk:∀ b m g' h',runP (fun m=>decide (((m+1:Nat):Int)≠most)) 0 (ordL L).length=(m,b)→g'.le h'→OrdJ k fb nb [(.nilFunc,())] m b g'→K (.tuple #[]) h') :
  X Tryz.prog 14 #[.func (.func 8) #[] #[.pointer (some ⟨fb,0,none⟩),.pointer (some ⟨nb,0,none⟩),.pointer (some ⟨wb,0,none⟩),.pointer (some ⟨mb,0,none⟩)],.pointer (some ⟨lb,0,none⟩)] h K:=by
 obtain ⟨base,cap,rfl,fL⟩:=rdE hL
 have hlb1:=j.le _ _ hlb
 refine fnv (args:=_) mixed [] [] [] Tryz.func14 rfl (by kernel_rfl) (cw_ ?_)
 refine ⟨_,loadC0 aggEs hlb1 rfl,cw_ ?_⟩
 refine bf_ ?_
 refine ⟨_,loadC0 aggEs hlb1 rfl,cw_ ?_⟩
 refine ⟨_,loadC0 aggEs hlb1 rfl,cw_ ?_⟩
 generalize hA:actOf Tryz.prog _ _=A
 have hB:=act_if hA rfl ⟨by omega,by omega,by omega,by show (8:Int)*_≤_;omega,by decide⟩
 subst hB
 clear hA
 conv=>whnf
 refine new_intro (o:=_) (fun ub h10 n_ub le_ub at_ub ot_ub=>?_)
 have at_ub:h10 ub=some (rowO 3 (usedC L.length [])):=by
  refine at_ub.trans ?_
  show some (Obj.cells (zeroRow #[.int .i64 0] (((L.length:Int)).toNat*1)) _ _)=_
  rw [zeroRow_one,Int.toNat_natCast,Nat.mul_one]
  have:usedC L.length []=List.replicate L.length (.int .i64 0):=by
   unfold usedC
   rw [show (fun i=>Value.int .i64 ((if i ∈ ([]:List Nat) then 1 else 0:Nat):Int))=fun _=>.int .i64 0 from funext fun i=>by simp,List.map_const',List.length_range]
  rw [this]
 conv=>whnf
 refine new_intro (o:=_) (fun s h11 n_s le_s at_s ot_s=>cw_ ?_)
 refine wr_intro (by exact storeC (i:=3) (show sizeT Tryz.prog 38 = some 1 by kernel_rfl) at_s (show 3<5 by decide) rfl rfl) (fun h12 at_h12 ot_h12=>cw_ ?_)
 have at_h12:h12 s=some (rowO seaT [.slice base L.length cap,.slice (some ⟨ub,0,none⟩) L.length L.length,.slice none 0 0,.func (.func 15) #[] #[],.func (.func 8) #[] #[.pointer (some ⟨fb,0,none⟩),.pointer (some ⟨nb,0,none⟩),.pointer (some ⟨wb,0,none⟩),.pointer (some ⟨mb,0,none⟩)]]):=at_h12
 have le12:h10.le h12:=Hp.le_st n_s le_s ot_h12
 have r12:SrN h h12 s (.slice base L.length cap) L.length [] (.func (.func 15) #[] #[]) (.func (.func 8) #[] #[.pointer (some ⟨fb,0,none⟩),.pointer (some ⟨nb,0,none⟩),.pointer (some ⟨wb,0,none⟩),.pointer (some ⟨mb,0,none⟩)]):=⟨Hp.le_trans le_ub le12,ub,_,none,at_h12,le12 _ _ at_ub,Gr.nil,Hp.none_le le_ub n_s,n_ub,fun x e=>by cases e⟩
 obtain ⟨hp1,hp2⟩:=perm_len hl
 have hll:(ordL L).length≤120:=Nat.le_trans (List.length_filter_le _ _) hp1
 have H:SeaH (OrdJ k fb nb) (fun (_:Unit) _=>some ()) (fun m=>decide (((m+1:Nat):Int)≠most)) (.func (.func 15) #[] #[]) (.func (.func 8) #[] #[.pointer (some ⟨fb,0,none⟩),.pointer (some ⟨nb,0,none⟩),.pointer (some ⟨wb,0,none⟩),.pointer (some ⟨mb,0,none⟩)]) (.slice base L.length cap) L (ordL L):=by
  refine ⟨fun st m b g j=>hL.le j.le,fun c w st m p g hp j=>⟨_,_,_,rfl,by kernel_rfl,?_⟩,fun c w x st m b g j=>?_,fun c w st m o g gp sl hm j hO=>⟨_,_,_,rfl,by kernel_rfl,ordall1_x hw hmb hLL (by omega) hm ?_ j hO⟩⟩
  ·show X Tryz.prog _ #[ni p] g _
   refine fnv (args:=_) mixed [] [] [] Tryz.func15 rfl (by kernel_rfl) (cw_ ?_)
   exact ⟨lvF,rfl,j.le,j.kf,j.kn,j.f,j.n,rfl,j.st⟩
  ·obtain ⟨hc,hst⟩:=j.st
   have hc:c=lvF:=hc
   subst hc
   refine ⟨_,_,_,rfl,by kernel_rfl,?_⟩
   show X Tryz.prog _ #[] g _
   refine fnv (args:=_) mixed [] [] [] Tryz.func16 rfl (by kernel_rfl) (cw_ ?_)
   exact ⟨j.le,j.kf,j.kn,j.f,j.n,hst⟩
  ·have h0:=List.mem_of_getElem? hm
   unfold ordL at h0
   have:=(perm_ok (List.mem_filter.1 h0).1).1
   omega
 have hd:=ord_dfs L
 refine goOn_x H (by omega) s L.length [] 0 () .nilFunc [] h h12 _ (by simp) r12 j (fun i x hx=>by rw [Nat.zero_add,← hd];exact hx) fun b m' g' h' hrun r' hJ'=>?_
 rw [hd] at hrun
 conv=>whnf
 exact hk b m' g' h' hrun r'.le hJ'
end
end Go.Proofs.YtnjlneefddlaoaaGreat
