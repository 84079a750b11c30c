/-
  Orders: a witness is looked for.
-/
import Derived.Test.YtnjlneefddlaoaaGreatOrF
import Derived.Test.YtnjlneefddlaoaaGreatWoC
set_option linter.unusedSimpArgs false
set_option linter.unusedVariables false
set_option maxHeartbeats 8000000
set_option maxRecDepth 10000
set_option linter.unusedSimpArgs false
set_option linter.unusedVariables false
namespace Go.Proofs.YtnjlneefddlaoaaGreat
open Go Go.Mid Go.RowKit
attribute [local irreducible] mid
section
variable {h:Hp} {K:Value→Hp→Prop}
theorem WS.top {k:Hp} {nb:Nat}:∀ {c:Value} {W:Wd} {st:List (Value×Wd)} {w:Nat} {g:Hp},WS k nb ((c,W) :: st) w g→∃ k',WoN k' g w W
 | _,_,[],_,_,h=>⟨_,h⟩
 | _,_,_ :: _,_,_,⟨_,_,_,_,_,h3,_⟩=>⟨_,h3⟩
theorem turned_up {h g h' g':Hp} (u:Turned h g h' g') (hl:g.le h) (hg:g.le g'):h.le h':=fun x q e=>by
 cases hx:g x with
 | none=>exact u.kept _ _ e hx
 | some v =>
  have:=hl _ _ hx
  rw [e] at this
  cases this
  exact u.le _ _ (hg _ _ hx)
theorem ev_ask (e:Ev):e.cs.toArray.extract 1 (1+19)=e.ask.cs.toArray:=by
 rw [List.extract_toArray];congr 1
theorem ev_ans (e:Ev):e.cs.toArray.extract 20 (20+42)=e.ans.cs.toArray:=by
 rw [List.extract_toArray];congr 1
theorem ev_hart (e:Ev):e.cs.toArray[0]? = some (.int .i64 e.hart):=by rw [List.getElem?_toArray];rfl
theorem enter_x {doP:Wd→Int→Ak→Wd×An×Bool} {L:List Ev} (hD:DoH doP L) {k g:Hp} {nb tb kb lb m p:Nat} {ls:Value} {all:List (List Nat)} {st:List (Value×Wd)} {c:Value} {W:Wd} (hlb:k lb=some (rowO 22 [ls])) (hL:RdE k ls L) (hp:p<L.length) (hl:L.length≤9) (j:WitJ k nb tb kb all ((c,W) :: st) m true g) :
  YX Tryz.prog (.func (.func 29) #[] #[wpt nb,wpt lb]) [ni p] g fun v g'=>match enterW doP L W p with
  | none=>(∃ lv,v=.tuple #[lv,.bool false])∧WitJ k nb tb kb all ((c,W) :: st) m true g'
  | some w'=>∃ lv,v=.tuple #[lv,.bool true]∧WitJ k nb tb kb all ((lv,w') :: (c,W) :: st) m true g':=by
 refine ⟨_,_,_,rfl,by kernel_rfl,?_⟩
 show X Tryz.prog _ #[ni p,wpt nb,wpt lb] g _
 have kg:=j.le
 obtain ⟨⟨w,gw,h1,s1,h3,h4,h5,h6⟩,ho⟩:=j
 obtain ⟨kt,top⟩:=s1.top
 obtain ⟨base,cap,rfl,fL⟩:=rdE hL
 obtain ⟨e,he⟩:∃ e,L[p]? = some e:=⟨_,List.getElem?_eq_getElem hp⟩
 obtain ⟨ae,rfl,le0⟩:=fL p e he
 have hen:enterW doP L W p=if (doP W e.hart e.ask).2.2=true∧(doP W e.hart e.ask).2.1=e.ans then some (doP W e.hart e.ask).1 else none:=by unfold enterW;rw [he]
 rw [hen]
 refine fnv (args:=_) mixed [] [] [] Tryz.func29 rfl (by kernel_rfl) (cw_ ?_)
 refine ⟨_,loadC0 aggWp h1 rfl,cw_ ?_⟩
 refine new_intro (o:=_) (fun wb g1 n_wb le_wb at_wb ot_wb=>cw_ ?_)
 refine wr_intro (by exact storeC0 sizWp at_wb (Nat.zero_lt_succ 0) rfl rfl) (fun g2 at_g2 ot_g2=>cw_ ?_)
 have at_g2:g2 wb=some (rowO wpT [wpt w]):=at_g2
 have l2:g.le g2:=Hp.le_st n_wb le_wb ot_g2
 refine ⟨_,loadC0 aggWp (l2 _ _ h1) rfl,cw_ ?_⟩
 refine X.frame (Hp.le_trans h3 l2) (flatClone_x top (wok_len top.ok) (K:=fun v g'=>∃ w',v=wpt w'∧WoN gw g' w' W) fun w' h' o=>⟨w',rfl,o⟩) fun v gw3 g3 hv u3=>?_
 obtain ⟨w',rfl,o3⟩:=hv
 have l3:=Hp.le_trans l2 (turned_up u3 (Hp.le_trans h3 l2) o3.le)
 have kl3:=Hp.le_trans kg l3
 have le3:=loadH_le kl3 le0
 conv=>whnf
 refine ⟨_,loadC0 aggEs (kl3 _ _ hlb) rfl,cw_ ?_⟩
 refine n_ ?_
 have le3:loadH Tryz.prog 64 g3 (ae.add (((p:Int)).toNat*65))=some (.agg e.cs.toArray):=le3
 refine ⟨_,(loadH_cell aggIn _ _).trans (loadH_cellOf aggEv sizEv le3 (k:=0) (ev_hart e)),cw_ ?_⟩
 refine ⟨_,loadC0 aggEs (kl3 _ _ hlb) rfl,cw_ ?_⟩
 refine n_ ?_
 refine ⟨_,(loadH_sub aggEv sizEv aggAk sizAk le3 (k:=1) (by decide)).trans (congrArg (fun x=>some (Value.agg x)) (ev_ask e)),cw_ ?_⟩
 refine X.frame u3.le (hD gw gw3 w' W e (fun v g'=>v=.tuple #[.agg (doP W e.hart e.ask).2.1.cs.toArray,.bool (doP W e.hart e.ask).2.2]∧WoN gw g' w' (doP W e.hart e.ask).1) (List.mem_of_getElem? he) o3 fun h' o=>⟨rfl,o⟩) fun v gw4 g4 hv u4=>?_
 obtain ⟨rfl,o4⟩:=hv
 have wb2:gw wb=none:=Hp.none_le h3 n_wb
 have wb3:=turned_none u3 at_g2 wb2
 have wb4:=turned_none u4 wb3.1 wb3.2
 have l4:g.le g4:=fun x q ex=>by
  cases hx:gw x with
  | some q' =>
   have:=h3 _ _ hx
   rw [ex] at this
   cases this
   exact u4.le _ _ (o4.le _ _ hx)
  | none =>
   have q1:=turned_none u3 (l2 _ _ ex) hx
   exact (turned_none u4 q1.1 q1.2).1
 have nn4:∀ x,g x≠none→gw x=none→gw4 x=none:=fun x ex hx=>by
  cases hq:g x with
  | none=>exact absurd hq ex
  | some q =>
   have q1:=turned_none u3 (l2 _ _ hq) hx
   exact (turned_none u4 q1.1 q1.2).2
 have kl4:=Hp.le_trans kg l4
 have le4:loadH Tryz.prog 64 g4 (ae.add (((p:Int)).toNat*65))=some (.agg e.cs.toArray):=loadH_le kl4 le0
 have gl4:=u4.le
 clear u3 u4 o3 wb2 wb3 le3 l3 kl3
 generalize hr:doP W e.hart e.ask=r at *
 obtain ⟨W',b,ok⟩:=r
 simp only at o4
 refine ⟨trivial,cw_ ?_⟩
 refine new_intro (o:=_) (fun bz g5 n_bz le_bz at_bz ot_bz=>cw_ ?_)
 refine wr_intro (by exact storeA0 (z:=.agg b.cs.toArray) sizAn at_bz rfl rfl rfl) (fun g6 at_g6 ot_g6=>cw_ ?_)
 have l6:g4.le g6:=Hp.le_st n_bz le_bz ot_g6
 have j6:∀ g',g6.le g'→WitJ k nb tb kb all ((c,W) :: st) m true g':=fun g' hle=>by
  have lg:=Hp.le_trans (Hp.le_trans l4 l6) hle
  refine ⟨⟨w,gw,lg _ _ h1,s1,Hp.le_trans h3 lg,h4,h5,h6⟩,?_⟩
  rcases ho with ⟨e1,e2,⟨s0,e3⟩,e4⟩ | ⟨e1,e2,_⟩
  ·exact .inl ⟨e1,e2,⟨s0,lg _ _ e3⟩,lg _ _ e4⟩
  ·cases e2
 refine ⟨trivial,cw_ ?_⟩
 cases ok with
 | false =>
  rw [if_neg (fun hh=>by cases hh.1)]
  conv=>whnf
  exact ⟨⟨_,rfl⟩,j6 _ (Hp.le_refl _)⟩
 | true =>
  conv=>whnf
  refine ⟨_,loadA0 aggAn sizAn at_g6 rfl,cw_ ?_⟩
  have kl6:=Hp.le_trans kl4 l6
  refine ⟨_,loadC0 aggEs (kl6 _ _ hlb) rfl,cw_ ?_⟩
  refine n_ ?_
  refine ⟨_,(loadH_sub aggEv sizEv aggAn sizAn (loadH_le l6 le4) (k:=20) (by decide)).trans (congrArg (fun x=>some (Value.agg x)) (ev_ans e)),cw_ ?_⟩
  refine must_via (b:=decide (b=e.ans)) (by kernel_rfl) (eqAn b e.ans) ?_
  by_cases hb:b=e.ans
  ·rw [if_pos ⟨rfl,hb⟩,decide_eq_true hb]
   have h16:=Hp.le_trans l4 l6 _ _ h1
   conv=>whnf
   refine wr_intro (by exact storeC0 sizWp h16 (Nat.zero_lt_succ 0) rfl rfl) (fun g7 at_g7 ot_g7=>cw_ ?_)
   have hne:∀ x,g x≠none→gw x=none→gw4.set wb (rowO wpT [wpt w]) x=none:=fun x ex hx=>by
    rw [Hp.set_other _ _ (fun e2=>by subst e2;exact ex n_wb)];exact nn4 x ex hx
   have hnb:g nb≠none:=by rw [h1];exact Option.some_ne_none _
   refine ⟨_,rfl,⟨w',gw4.set wb (rowO wpT [wpt w]),at_g7,⟨gw,w,wb,s1,Hp.none_le h3 n_wb,?_,rfl⟩,fun x q ex=>?_,hne nb hnb h4,hne tb ?_ h5,hne kb ?_ h6⟩,?_⟩
   ·exact o4.new wb4.2 (Hp.le_set' wb4.2) (Hp.set_same _ _ _)
   ·by_cases hx:x=wb
    ·subst hx
     rw [Hp.set_same] at ex
     cases ex
     rw [ot_g7 x (fun e2=>by subst e2;rw [n_wb] at h1;cases h1)]
     exact l6 _ _ wb4.1
    ·rw [Hp.set_other _ _ hx] at ex
     rw [ot_g7 x (fun e2=>by subst e2;rw [nn4 _ hnb h4] at ex;cases ex)]
     exact l6 _ _ (gl4 _ _ ex)
   ·rcases ho with ⟨_,_,⟨s0,e3⟩,e4⟩ | ⟨_,e2,_⟩
    ·rw [e3];exact Option.some_ne_none _
    ·cases e2
   ·rcases ho with ⟨_,_,⟨s0,e3⟩,e4⟩ | ⟨_,e2,_⟩
    ·rw [e4];exact Option.some_ne_none _
    ·cases e2
   ·rcases ho with ⟨e1,e2,⟨s0,e3⟩,e4⟩ | ⟨_,e2,_⟩
    ·exact .inl ⟨e1,e2,⟨s0,(ot_g7 tb (row_ne (by decide) e3 h1)).trans (l6 _ _ (l4 _ _ e3))⟩,(ot_g7 kb (row_ne (by decide) e4 h1)).trans (l6 _ _ (l4 _ _ e4))⟩
    ·cases e2
  ·rw [if_neg (fun hh=>hb hh.2),decide_eq_false hb]
   conv=>whnf
   exact ⟨⟨_,rfl⟩,j6 _ (Hp.le_refl _)⟩
end
end Go.Proofs.YtnjlneefddlaoaaGreat
