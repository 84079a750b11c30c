/-
  Orders: the statement OrderAll's arguments.
-/
import Derived.Test.YtnjlneefddlaoaaGreatOrI
import Derived.Test.YtnjlneefddlaoaaGreatOrB
import Derived.Test.YtnjlneefddlaoaaGreatRows
import Derived.Test.YtnjlneefddlaoaaGreatOrO
set_option linter.unusedSimpArgs false
set_option linter.unusedVariables false
set_option maxHeartbeats 8000000
set_option maxRecDepth 10000
set_option linter.unusedSimpArgs false
set_option linter.unusedVariables false
namespace Go.Proofs.YtnjlneefddlaoaaGreat
open Go Go.Mid Go.RowKit
attribute [local irreducible] mid
theorem rdE_of {h:Hp} {cs:List Value} (w:Wf h (.slice shEv) cs):∃ s L,cs=[s]∧RdE h s L∧∀ e ∈ L,e.ok:=by
 obtain ⟨a,cap,L,rfl,_,hok,hL2⟩:=slice_of (P:=Tryz.prog) (t := 64) (n:=65) (ok:=Ev.ok) (cells:=Ev.cs) aggEv sizEv (by decide) rfl (fun es hw=>ev_of hw) w
 refine ⟨.slice a L.length cap,L,rfl,⟨a,cap,by rw [List.length_map],fun i v hv=>?_⟩,hok⟩
 rw [List.getElem?_map] at hv
 cases hx:L[i]? with
 | none=>rw [hx] at hv;cases hv
 | some x=>rw [hx] at hv;cases hv;exact hL2 i x hx
end Go.Proofs.YtnjlneefddlaoaaGreat
namespace Go.Proofs.YtnjlneefddlaoaaGreat
open Go Go.Mid Go.RowKit
attribute [local irreducible] mid
theorem runP_count {most:Int} {n m:Nat} {b:Bool} (h:runP (fun m=>decide (((m+1:Nat):Int)≠most)) 0 n=(m,b)):(m:Int)=if 0<most∧most<n then most else n:=by
 have key:∀ (a j:Nat) (r:Nat×Bool),runP (fun m=>decide (((m+1:Nat):Int)≠most)) j a=r→(most≤j∨(j:Int)<most)→(r.1:Int)=if (j:Int)<most∧most<(j+a:Nat) then most else ((j+a:Nat):Int):=by
  intro a
  induction a with
  | zero=>intro j r hr _;rw [← hr];simp [runP];omega
  | succ a ih =>
   intro j r hr hj
   rw [runP] at hr
   by_cases hm:((j+1:Nat):Int)≠most
   ·rw [if_pos (decide_eq_true hm)] at hr
    have:=ih (j+1) r hr (by omega)
    rw [this]
    split <;> split <;> omega
   ·rw [if_neg (by simpa using hm)] at hr
    rw [← hr]
    have hm:((j+1:Nat):Int)=most:=Classical.not_not.1 hm
    show ((j+1:Nat):Int)=_
    split <;> omega
 have:=key n 0 (m,b) h (by omega)
 rw [Nat.zero_add] at this
 exact this
section
variable {h:Hp} {K:Value→Hp→Prop}
theorem sizIss:sizeT Tryz.prog 26 = some 1:=by kernel_rfl
theorem orders1n_x {y:Value} {lb:Nat} {base:Option Addr} {len cap:Nat} (hlb:h lb=some (rowO 22 [.slice base len cap])) (hl:9<len) (hk:K (.tuple #[]) h):X Tryz.prog 14 #[y,.pointer (some ⟨lb,0,none⟩)] h K:=by
 refine fnv (args:=_) mixed [] [] [] Tryz.func14 rfl (by kernel_rfl) (cw_ ?_)
 refine ⟨_,loadC0 aggEs hlb rfl,cw_ ?_⟩
 refine bt_ ?_
 exact hk
theorem orderall_x (s:Value) (L:List Ev) (most:Int) (hL:RdE h s L) (hk:∀ h',h.le h'→K (.bool true) h'):X Tryz.prog 3 #[s,.int .i64 most] h K:=by
 obtain ⟨base,cap,rfl,fL⟩:=rdE hL
 refine fnv (args:=_) mixed [] [] [] Tryz.func3 rfl (by kernel_rfl) (cw_ ?_)
 refine new_intro (o:=rowO 3 [.int .i64 most]) (fun mb h1 n_mb le_mb at_mb ot_mb=>cw_ ?_)
 refine orders_x base L.length cap fun lb h2 n_lb le_lb at_lb=>(cw_ ?_)
 refine new_intro (o:=rowO 26 [.slice none 0 0]) (fun wb h3 n_wb le_wb at_wb ot_wb=>cw_ ?_)
 have le3:h.le h3:=Hp.le_trans le_mb (Hp.le_trans le_lb le_wb)
 have wb2:=n_wb
 have mb2:=le_lb _ _ at_mb
 have hL2:=hL.le (Hp.le_trans le_mb le_lb)
 refine br_ (fun q1=>?_) fun q1=>?_
 ·conv=>whnf
  refine X.frame le_wb (rorders_x _ L hL2 (by omega) (K:=fun s' g'=>∃ svs k,h2.le k∧Owns k g' 29 1 s' (ordL L).length svs∧RdLs k svs (ordL L)) fun s' h' svs k a b c=>⟨svs,k,a,b,c⟩) fun s' g4 h4 hv u4=>?_
  obtain ⟨svs,k4,kle,hO4,hR4⟩:=hv
  obtain ⟨w4,gw4⟩:=turned_none u4 at_wb wb2
  obtain ⟨sa,sc,rfl⟩:=hO4.shape
  conv=>whnf
  refine wr_intro (by exact storeC0 sizIss w4 (Nat.zero_lt_succ 0) rfl rfl) (fun h5 at_h5 ot_h5=>cw_ ?_)
  have g45:g4.le h5:=fun d q e=>by rw [ot_h5 d (fun e2=>by subst e2;rw [gw4] at e;cases e)];exact u4.le _ _ e
  have k25:h2.le h5:=Hp.le_trans kle (Hp.le_trans hO4.le g45)
  have hLL:RdLL h5 (.slice sa (ordL L).length sc) (ordL L):=by
   refine ⟨sa,sc,rfl,fun i q hq=>?_⟩
   obtain ⟨sv,e1,e2⟩:=hR4.2 i q hq
   obtain ⟨b0,c0,e3,f3⟩:=hO4.rd aggIs
   obtain ⟨a,e4,e5⟩:=f3 i sv e1
   obtain ⟨rfl,_,rfl⟩:=Value.slice.inj e3
   exact ⟨a,sv,e4,loadH_le g45 e5,e2.le (Hp.le_trans hO4.le g45)⟩
  have le5:h.le h5:=Hp.le_trans le_mb (Hp.le_trans le_lb k25)
  conv=>whnf
  refine new_intro (o:=_) (fun nb h6 n_nb le_nb at_nb ot_nb=>cw_ ?_)
  refine wr_intro (by exact storeC0 sizI6 at_nb (Nat.zero_lt_succ 0) rfl rfl) (fun h7 at_h7 ot_h7=>cw_ ?_)
  refine new_intro (o:=_) (fun fb h8 n_fb le_fb at_fb ot_fb=>cw_ ?_)
  refine wr_intro (by exact storeC0 sizBo at_fb (Nat.zero_lt_succ 0) rfl rfl) (fun h9 at_h9 ot_h9=>cw_ ?_)
  have l57:h5.le h7:=Hp.le_st n_nb le_nb ot_h7
  have l79:h7.le h9:=Hp.le_st n_fb le_fb ot_h9
  have l59:h5.le h9:=Hp.le_trans l57 l79
  have nb9:h9 nb=some (rowO 3 [ni 0]):=l79 _ _ at_h7
  have fb5:h5 fb=none:=Hp.none_le l57 n_fb
  have hJ:OrdJ h5 fb nb [(.nilFunc,())] 0 true h9:=⟨l59,fb5,n_nb,at_h9,nb9,trivial⟩
  have le9:=Hp.le_trans le5 l59
  obtain ⟨hp1,_⟩:=perm_len (n:=L.length) (by omega)
  have hll:(ordL L).length≤120:=Nat.le_trans (List.length_filter_le _ _) hp1
  refine orders1_x at_h5 (k25 _ _ mb2) (k25 _ _ at_lb) (hL2.le k25) (by omega) hLL hJ fun b m g' h10 hrun lg hJ'=>?_
  have hcount:=runP_count hrun
  have lk:=Hp.le_trans hJ'.le lg
  have le10:=Hp.le_trans le5 lk
  conv=>whnf
  refine ⟨_,loadC0 aggIss (lk _ _ at_h5) rfl,cw_ ?_⟩
  refine ⟨_,loadC0 aggIn (lk _ _ (k25 _ _ mb2)) rfl,cw_ ?_⟩
  refine br_ (fun q5=>?_) fun q5=>?_
  ·conv=>whnf
   refine ⟨_,loadC0 aggIn (lk _ _ (k25 _ _ mb2)) rfl,cw_ ?_⟩
   refine br_ (fun q6=>?_) fun q6=>?_
   ·rw [if_pos (by omega)] at hcount
    conv=>whnf
    refine ⟨_,loadC0 aggIn (lk _ _ (k25 _ _ mb2)) rfl,cw_ ?_⟩
    refine ⟨_,loadC0 aggBo (lg _ _ hJ'.f) rfl,cw_ ?_⟩
    refine ⟨_,loadC0 aggIn (lg _ _ hJ'.n) rfl,cw_ ?_⟩
    refine bt_ ?_
    refine live39_x fun h' hle=>(cw_ ?_)
    exact hk _ (Hp.le_trans le10 hle)
   ·rw [if_neg (by omega)] at hcount
    conv=>whnf
    refine ⟨_,loadC0 aggBo (lg _ _ hJ'.f) rfl,cw_ ?_⟩
    refine ⟨_,loadC0 aggIn (lg _ _ hJ'.n) rfl,cw_ ?_⟩
    refine bt_ ?_
    refine live39_x fun h' hle=>(cw_ ?_)
    exact hk _ (Hp.le_trans le10 hle)
  ·rw [if_neg (by omega)] at hcount
   conv=>whnf
   refine ⟨_,loadC0 aggBo (lg _ _ hJ'.f) rfl,cw_ ?_⟩
   refine ⟨_,loadC0 aggIn (lg _ _ hJ'.n) rfl,cw_ ?_⟩
   refine bt_ ?_
   refine live39_x fun h' hle=>(cw_ ?_)
   exact hk _ (Hp.le_trans le10 hle)
 ·conv=>whnf
  refine br_ (fun q2=>?_) fun q2=>?_
  ·conv=>whnf
   refine live39_x fun h' hle=>(cw_ ?_)
   exact hk _ (Hp.le_trans le3 hle)
  ·have k25:=le_wb
   have at_h5:=at_wb
   have le5:=le3
   generalize h3=h5 at *
   conv=>whnf
   refine new_intro (o:=_) (fun nb h6 n_nb le_nb at_nb ot_nb=>cw_ ?_)
   refine wr_intro (by exact storeC0 sizI6 at_nb (Nat.zero_lt_succ 0) rfl rfl) (fun h7 at_h7 ot_h7=>cw_ ?_)
   refine new_intro (o:=_) (fun fb h8 n_fb le_fb at_fb ot_fb=>cw_ ?_)
   refine wr_intro (by exact storeC0 sizBo at_fb (Nat.zero_lt_succ 0) rfl rfl) (fun h9 at_h9 ot_h9=>cw_ ?_)
   have l57:h5.le h7:=Hp.le_st n_nb le_nb ot_h7
   have l79:h7.le h9:=Hp.le_st n_fb le_fb ot_h9
   have l59:h5.le h9:=Hp.le_trans l57 l79
   have nb9:h9 nb=some (rowO 3 [ni 0]):=l79 _ _ at_h7
   have fb5:h5 fb=none:=Hp.none_le l57 n_fb
   have hJ:OrdJ h5 fb nb [(.nilFunc,())] 0 true h9:=⟨l59,fb5,n_nb,at_h9,nb9,trivial⟩
   have le9:=Hp.le_trans le5 l59
   refine orders1n_x (l59 _ _ (k25 _ _ at_lb)) (by omega) ?_
   have hcount:((0:Nat):Int)=if 0<most∧most<0 then most else 0:=by rw [if_neg (by omega)];rfl
   conv=>whnf
   refine ⟨_,loadC0 aggIss (l59 _ _ at_h5) rfl,cw_ ?_⟩
   refine ⟨_,loadC0 aggIn (l59 _ _ (k25 _ _ mb2)) rfl,cw_ ?_⟩
   refine br_ (fun q5=>?_) fun q5=>?_
   ·conv=>whnf
    refine ⟨_,loadC0 aggIn (l59 _ _ (k25 _ _ mb2)) rfl,cw_ ?_⟩
    refine bf_ (cw_ ?_)
    refine ⟨_,loadC0 aggBo at_h9 rfl,cw_ ?_⟩
    refine ⟨_,loadC0 aggIn nb9 rfl,cw_ ?_⟩
    refine live39_x fun h' hle=>(cw_ ?_)
    exact hk _ (Hp.le_trans le9 hle)
   ·conv=>whnf
    refine ⟨_,loadC0 aggBo at_h9 rfl,cw_ ?_⟩
    refine ⟨_,loadC0 aggIn nb9 rfl,cw_ ?_⟩
    refine live39_x fun h' hle=>(cw_ ?_)
    exact hk _ (Hp.le_trans le9 hle)
end
end Go.Proofs.YtnjlneefddlaoaaGreat
namespace Go.Proofs.YtnjlneefddlaoaaGreat
open Go Go.Mid Go.RowKit
attribute [local irreducible] mid
theorem orderAll_w {cs0 cs1:List Value} (w:World) (w0:Wf (whole w) (.slice shEv) cs0) (l0:cs0.length=Sh.n (.slice shEv)) (w1:Wf (whole w) (.int .i64) cs1) (l1:cs1.length=Sh.n (.int .i64)) :
  X Tryz.prog 3 #[Sh.v (.slice shEv) cs0,Sh.v (.int .i64) cs1] (whole w) fun v h'=>v=.bool true∧(whole w).le h':=by
 obtain ⟨s,L,rfl,hL,_⟩:=rdE_of w0
 obtain ⟨most,rfl,_⟩:=wfI w1
 exact orderall_x s L most hL fun h' hle=>⟨rfl,hle⟩
end Go.Proofs.YtnjlneefddlaoaaGreat
