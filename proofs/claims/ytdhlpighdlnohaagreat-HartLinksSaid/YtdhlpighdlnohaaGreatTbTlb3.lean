/-
  Rows of keys: the first one that is wanted, those that are not wanted, a copy.
-/
import Derived.Test.YtdhlpighdlnohaaGreatHtA
import Derived.Test.YtdhlpighdlnohaaGreatTbTlb1
set_option linter.unusedSimpArgs false
set_option linter.unusedVariables false
set_option maxHeartbeats 8000000
set_option maxRecDepth 10000
set_option linter.unusedSimpArgs false
set_option linter.unusedVariables false
namespace Go.Proofs.YtdhlpighdlnohaaGreat
open Go Go.Mid Go.RowKit Go.Bits
attribute [local irreducible] mid
section
variable {h:Hp} {K:Value→Hp→Prop}
theorem kind_leads2 {p l:Nat} (h:kindN p l=1):l≠0:=by
 intro e
 subst e
 unfold kindN at h
 split at h
 ·cases h
 ·split at h
  ·split at h <;> cases h
  ·rw [if_pos (.inl rfl)] at h;cases h
theorem kind_le (p l:Nat):kindN p l≤2:=by
 unfold kindN
 repeat' split
 all_goals decide
section
variable {b o:Nat} {el:TypeId} {A B:List Value} {w:Wk}
theorem aggPv:isAggT Tryz.prog 68 = some false:=by kernel_rfl
theorem wtell_x (p:Pa h b o el A w.cs B) (ok:w.ok) (a:An) (hd:a.data<2 ^ 64) (hk:∀ h',Pa h' b o el A (w.tell a.data a.good).cs B→(∀ d,d≠b→h' d=h d)→K (.tuple #[]) h'):X Tryz.prog 52 #[.pointer (some ⟨b,o,none⟩),.agg a.cs.toArray] h K:=by
 refine X.forget ?_
 have hk2:∀ (w':Wk) (hF:Hp),w.tell a.data a.good=w'→Pa hF b o el A w'.cs B→(∀ d x,d≠b→h d=some x→hF d=some x)→∃ g:Hp,g.le hF∧K (.tuple #[]) g:=fun w' hF e q ho=>by
  subst e
  refine ⟨h.set b _,fun d x hx=>?_,hk _ ⟨Hp.set_same _ _ _,q.len⟩ fun d hd=>Hp.set_other _ _ hd⟩
  by_cases hdb:d=b
  ·subst hdb
   rw [Hp.set_same] at hx
   rw [← hx]
   exact q.row
  ·rw [Hp.set_other _ _ hdb] at hx
   exact ho d x hdb hx
 clear hk
 unfold Wk.tell at hk2
 obtain ⟨e,he⟩:∃ e,w.ended=e:=⟨_,rfl⟩
 obtain ⟨m,hm⟩:∃ m,w.mark=m:=⟨_,rfl⟩
 obtain ⟨g,hg⟩:∃ g,a.good=g:=⟨_,rfl⟩
 obtain ⟨dat,hda⟩:∃ g,a.data=g:=⟨_,rfl⟩
 have l12:w.cs[12]? = some (.bool m):=by rw [← hm];rfl
 have g0:a.cs[0]? = some (ux dat):=by rw [← hda];rfl
 have g1:a.cs[1]? = some (.bool g):=by rw [← hg];rfl
 rw [he,hm,hg,hda] at hk2
 rw [hda] at hd
 cases e with
 | true =>
  refine fnj (args:=_) mixed [] [66] [] 0 Tryz.func52 rfl (by kernel_rfl) (by kernel_rfl) (by kernel_rfl) (by kernel_rfl) (cw_ ?_)
  refine new_intro (o:=rowO 86 a.cs) (fun z h1 n_z le_z at_z ot_z=>cw_ ?_)
  have p1:=p.le le_z
  refine wended_x p1 ?_
  rw [he]
  conv=>whnf
  exact hk2 w h1 rfl p1 fun d x _ hx=>le_z d x hx
 | false =>
  cases m with
  | true =>
   cases g with
   | false =>
    refine fnj (args:=_) mixed [] [66] [] 0 Tryz.func52 rfl (by kernel_rfl) (by kernel_rfl) (by kernel_rfl) (by kernel_rfl) (cw_ ?_)
    refine new_intro (o:=rowO 86 a.cs) (fun z h1 n_z le_z at_z ot_z=>cw_ ?_)
    have p1:=p.le le_z
    refine wended_x p1 ?_
    rw [he]
    conv=>whnf
    refine ⟨_,p1.ld 12 aggB6 l12,cw_ ?_⟩
    refine ⟨_,loadC (i:=1) aggB6 at_z g1,cw_ ?_⟩
    refine ⟨_,p1.ld 13 aggI4 rfl,cw_ ?_⟩
    refine ov_by rfl (cw_ ?_)
    refine wr_intro (by exact p1.st 13 sizI4 (by show 13<14;decide) rfl rfl) (fun h2 at_h2 ot_h2=>cw_ ?_)
    refine wstart_x (w:={ w with again:=IntKind.i64.wrap (w.again+1) }) ⟨at_h2,p.len⟩ ⟨ok.root,ok.va,ok.lev,ok.place,ok.entry⟩ fun h3 p3 o3=>(cw_ ?_)
    exact hk2 _ h3 rfl p3 fun d x hdb hx=>by rw [o3 d hdb,ot_h2 d hdb];exact le_z d x hx
   | true =>
    refine fnj (args:=_) mixed [] [66] [] 0 Tryz.func52 rfl (by kernel_rfl) (by kernel_rfl) (by kernel_rfl) (by kernel_rfl) (cw_ ?_)
    refine new_intro (o:=rowO 86 a.cs) (fun z h1 n_z le_z at_z ot_z=>cw_ ?_)
    have p1:=p.le le_z
    refine wended_x p1 ?_
    rw [he]
    conv=>whnf
    refine ⟨_,p1.ld 12 aggB6 l12,cw_ ?_⟩
    refine ⟨_,loadC (i:=1) aggB6 at_z g1,cw_ ?_⟩
    refine wmarked_x p1 ok (cw_ ?_)
    refine wr_intro (by exact p1.st 11 sizU (by show 11<14;decide) rfl rfl) (fun h2 at_h2 ot_h2=>cw_ ?_)
    have p2:Pa h2 b o el A (Wk.cs { w with entry:=markN w.entry w.q.access }) B:=⟨at_h2,p.len⟩
    refine ⟨rfl,cw_ ?_⟩
    refine wr_intro (by exact p2.st 8 sizI4 (by show 8<14;decide) rfl rfl) (fun h3 at_h3 ot_h3=>cw_ ?_)
    have p3:Pa h3 b o el A (Wk.cs { w with entry:=markN w.entry w.q.access,fin:=1 }) B:=⟨at_h3,p.len⟩
    refine wr_intro (by exact p3.st 12 sizB6 (by show 12<14;decide) rfl rfl) (fun h4 at_h4 ot_h4=>cw_ ?_)
    exact hk2 _ h4 rfl ⟨at_h4,p.len⟩ fun d x hdb hx=>by rw [ot_h4 d hdb,ot_h3 d hdb,ot_h2 d hdb];exact le_z d x hx
  | false =>
   have hkl:=kind_le dat w.level
   have okD:({ w with entry:=dat }:Wk).ok:=⟨ok.root,ok.va,ok.lev,ok.place,hd⟩
   obtain ⟨kk,hkk⟩:∃ kk,kindN dat w.level=kk:=⟨_,rfl⟩
   rw [hkk] at hkl hk2
   have c3:kk=0∨kk=1∨kk=2:=by omega
   rcases c3 with rfl | rfl | rfl
   ·refine fnj (args:=_) mixed [] [66] [] 0 Tryz.func52 rfl (by kernel_rfl) (by kernel_rfl) (by kernel_rfl) (by kernel_rfl) (cw_ ?_)
    refine new_intro (o:=rowO 86 a.cs) (fun z h1 n_z le_z at_z ot_z=>cw_ ?_)
    have p1:=p.le le_z
    refine wended_x p1 ?_
    rw [he]
    conv=>whnf
    refine ⟨_,p1.ld 12 aggB6 l12,cw_ ?_⟩
    refine ⟨_,loadC0 aggU at_z g0,cw_ ?_⟩
    refine wr_intro (by exact p1.st 11 sizU (by show 11<14;decide) rfl rfl) (fun h2 at_h2 ot_h2=>cw_ ?_)
    have p2:Pa h2 b o el A (Wk.cs { w with entry:=dat }) B:=⟨at_h2,p.len⟩
    have ho2:∀ d x,d≠b→h d=some x→h2 d=some x:=fun d x hdb hx=>by rw [ot_h2 d hdb];exact le_z d x hx
    refine ⟨_,p2.ld 11 aggU rfl,cw_ ?_⟩
    refine ⟨_,p2.ld 9 aggI4 rfl,cw_ ?_⟩
    refine pgkind_x dat w.level hd ok.lev ?_
    rw [hkk]
    refine ⟨trivial,cw_ ?_⟩
    refine wr_intro (by exact p2.st 8 sizI4 (by show 8<14;decide) rfl rfl) (fun h3 at_h3 ot_h3=>cw_ ?_)
    exact hk2 { w with entry:=dat,fin:=2 } h3 (by simp [hm]) ⟨at_h3,p.len⟩ fun d x hdb hx=>by rw [ot_h3 d hdb];exact ho2 d x hdb hx
   ·have hl0:=kind_leads2 hkk
    obtain ⟨lv,hlv⟩:∃ lv,w.level=lv+1:=⟨w.level - 1,by omega⟩
    have hok:=ok.lev
    refine fnj (args:=_) mixed [] [66] [] 0 Tryz.func52 rfl (by kernel_rfl) (by kernel_rfl) (by kernel_rfl) (by kernel_rfl) (cw_ ?_)
    refine new_intro (o:=rowO 86 a.cs) (fun z h1 n_z le_z at_z ot_z=>cw_ ?_)
    have p1:=p.le le_z
    refine wended_x p1 ?_
    rw [he]
    conv=>whnf
    refine ⟨_,p1.ld 12 aggB6 l12,cw_ ?_⟩
    refine ⟨_,loadC0 aggU at_z g0,cw_ ?_⟩
    refine wr_intro (by exact p1.st 11 sizU (by show 11<14;decide) rfl rfl) (fun h2 at_h2 ot_h2=>cw_ ?_)
    have p2:Pa h2 b o el A (Wk.cs { w with entry:=dat }) B:=⟨at_h2,p.len⟩
    have ho2:∀ d x,d≠b→h d=some x→h2 d=some x:=fun d x hdb hx=>by rw [ot_h2 d hdb];exact le_z d x hx
    refine ⟨_,p2.ld 11 aggU rfl,cw_ ?_⟩
    refine ⟨_,p2.ld 9 aggI4 rfl,cw_ ?_⟩
    refine pgkind_x dat w.level hd ok.lev ?_
    rw [hkk]
    refine ⟨trivial,cw_ ?_⟩
    refine ⟨_,p2.ld 11 aggU rfl,cw_ ?_⟩
    refine ⟨_,pgppn_x dat hd ⟨rfl,rfl⟩,cw_ ?_⟩
    refine ⟨_,p2.ld 9 aggI4 rfl,cw_ ?_⟩
    refine ov_is (show ((w.level:Nat):Int) - 1=((w.level - 1:Nat):Int) by omega) (by omega) (cw_ ?_)
    refine wlook_x p2 okD (ppnN dat) (w.level - 1) (Nat.lt_of_lt_of_le (Nat.mod_lt _ (by decide)) (by decide)) (by omega) fun h3 p3 o3=>?_
    refine ⟨trivial,cw_ ?_⟩
    exact hk2 _ h3 (by rfl) p3 fun d x hdb hx=>by rw [o3 d hdb];exact ho2 d x hdb hx
   ·obtain ⟨le,hle⟩:∃ le,letsP dat w.q.access w.q.priv w.q.sum w.q.mxr=le:=⟨_,rfl⟩
    obtain ⟨mk,hmk⟩:∃ mk,markN dat w.q.access=mk:=⟨_,rfl⟩
    rw [hle,hmk] at hk2
    refine fnj (args:=_) mixed [] [66] [] 0 Tryz.func52 rfl (by kernel_rfl) (by kernel_rfl) (by kernel_rfl) (by kernel_rfl) (cw_ ?_)
    refine new_intro (o:=rowO 86 a.cs) (fun z h1 n_z le_z at_z ot_z=>cw_ ?_)
    have p1:=p.le le_z
    refine wended_x p1 ?_
    rw [he]
    conv=>whnf
    refine ⟨_,p1.ld 12 aggB6 l12,cw_ ?_⟩
    refine ⟨_,loadC0 aggU at_z g0,cw_ ?_⟩
    refine wr_intro (by exact p1.st 11 sizU (by show 11<14;decide) rfl rfl) (fun h2 at_h2 ot_h2=>cw_ ?_)
    have p2:Pa h2 b o el A (Wk.cs { w with entry:=dat }) B:=⟨at_h2,p.len⟩
    have ho2:∀ d x,d≠b→h d=some x→h2 d=some x:=fun d x hdb hx=>by rw [ot_h2 d hdb];exact le_z d x hx
    refine ⟨_,p2.ld 11 aggU rfl,cw_ ?_⟩
    refine ⟨_,p2.ld 9 aggI4 rfl,cw_ ?_⟩
    refine pgkind_x dat w.level hd ok.lev ?_
    rw [hkk]
    refine ⟨trivial,cw_ ?_⟩
    refine ⟨_,p2.ld 11 aggU rfl,cw_ ?_⟩
    refine ⟨_,p2.ld 4 aggI4 rfl,cw_ ?_⟩
    refine ⟨_,p2.ld 5 aggPv rfl,cw_ ?_⟩
    refine ⟨_,p2.ld 6 aggB6 rfl,cw_ ?_⟩
    refine ⟨_,p2.ld 7 aggB6 rfl,cw_ ?_⟩
    refine plets_x dat w.q.access w.q.priv w.q.sum w.q.mxr hd ?_
    rw [hle]
    refine ⟨trivial,cw_ ?_⟩
    cases le with
    | false =>
     conv=>whnf
     refine wr_intro (by exact p2.st 8 sizI4 (by show 8<14;decide) rfl rfl) (fun h3 at_h3 ot_h3=>cw_ ?_)
     exact hk2 { w with entry:=dat,fin:=2 } h3 (by simp [hm]) ⟨at_h3,p.len⟩ fun d x hdb hx=>by rw [ot_h3 d hdb];exact ho2 d x hdb hx
    | true =>
     conv=>whnf
     refine wmarked_x p2 okD (cw_ ?_)
     rw [show markN (Wk.entry { w with entry:=dat }) (Wk.q { w with entry:=dat }).access=mk from hmk]
     by_cases hq:mk≠dat
     ·rw [show decide (mk≠Wk.entry { w with entry:=dat })=true from decide_eq_true hq]
      conv=>whnf
      refine wr_intro (by exact p2.st 12 sizB6 (by show 12<14;decide) rfl rfl) (fun h3 at_h3 ot_h3=>cw_ ?_)
      exact hk2 { w with entry:=dat,mark:=true } h3 (by rw [if_pos hq];rfl) ⟨at_h3,p.len⟩ fun d x hdb hx=>by rw [ot_h3 d hdb];exact ho2 d x hdb hx
     ·rw [show decide (mk≠Wk.entry { w with entry:=dat })=false from decide_eq_false hq]
      conv=>whnf
      refine wr_intro (by exact p2.st 8 sizI4 (by show 8<14;decide) rfl rfl) (fun h3 at_h3 ot_h3=>cw_ ?_)
      have p3:Pa h3 b o el A (Wk.cs { w with entry:=dat,fin:=1 }) B:=⟨at_h3,p.len⟩
      refine wr_intro (by exact p3.st 12 sizB6 (by show 12<14;decide) rfl rfl) (fun h4 at_h4 ot_h4=>cw_ ?_)
      exact hk2 { w with entry:=dat,fin:=1,mark:=false } h4 (by rw [if_neg hq];rfl) ⟨at_h4,p.len⟩ fun d x hdb hx=>by rw [ot_h4 d hdb,ot_h3 d hdb];exact ho2 d x hdb hx
theorem wend_x (p:Pa h b o el A w.cs B) (ok:w.ok) (hk:K (.tuple #[.int .i64 w.end_,.agg w.found.cs.toArray]) h):X Tryz.prog 160 #[.pointer (some ⟨b,o,none⟩)] h K:=by
 obtain ⟨m,hm⟩:∃ m,w.made=m:=⟨_,rfl⟩
 obtain ⟨f,hf⟩:∃ f,w.fin=f:=⟨_,rfl⟩
 have l0:w.cs[0]? = some (.bool m):=by rw [← hm];rfl
 have l8:w.cs[8]? = some (.int .i64 f):=by rw [← hf];rfl
 unfold Wk.end_ Wk.found at hk
 rw [hm,hf] at hk
 refine fnv (args:=_) mixed [(3,3)] [109] [] Tryz.func160 rfl (by kernel_rfl) (cw_ ?_)
 refine ⟨_,p.ld 0 aggB6 l0,cw_ ?_⟩
 cases m with
 | false =>
  conv=>whnf
  exact hk
 | true =>
  conv=>whnf
  refine ⟨_,p.ld 8 aggI4 l8,cw_ ?_⟩
  rw [if_pos rfl] at hk
  by_cases q:f=1
  ·subst q
   rw [if_pos ⟨rfl,rfl⟩] at hk
   conv=>whnf
   refine ⟨_,p.ld 3 aggU rfl,cw_ ?_⟩
   refine ⟨_,p.ld 9 aggI4 rfl,cw_ ?_⟩
   refine ⟨_,vpage_x w.q.va w.level ok.va ok.lev ⟨rfl,rfl⟩,cw_ ?_⟩
   refine ⟨_,p.ld 9 aggI4 rfl,cw_ ?_⟩
   refine ⟨_,p.ld 11 aggU rfl,cw_ ?_⟩
   exact hk
  ·rw [if_neg (fun e=>q e.2)] at hk
   conv=>whnf
   refine bt_ ?_ (by simp;exact q)
   refine ⟨_,p.ld 8 aggI4 l8,cw_ ?_⟩
   exact hk
end
theorem aggWk:isAggT Tryz.prog 125 = some true:=by kernel_rfl
theorem sizWk:sizeT Tryz.prog 125 = some 14:=by kernel_rfl
theorem wbegin_x (q:Qu) (hr:q.root<2 ^ 64) (hv:q.va<2 ^ 64) (hk:K (.agg (Wk.begin q).cs.toArray) h):X Tryz.prog 272 #[.agg q.cs.toArray] h K:=by
 refine X.forget ?_
 obtain ⟨m,hm⟩:∃ m,decide (mayN q.va)=m:=⟨_,rfl⟩
 refine fnv (args:=_) mixed [(1,1),(6,1),(2,2)] [] [] Tryz.func272 rfl (by kernel_rfl) (cw_ ?_)
 refine new_intro (o:=_) (fun b h1 n_b le_b at_b ot_b=>cw_ ?_)
 refine wr_intro (by exact storeA0 (z:=.agg (Wk.cs { Wk.zero with made:=true,q:=q }).toArray) sizWk at_b rfl rfl rfl) (fun h2 at_h2 ot_h2=>cw_ ?_)
 have p2:Pa h2 b 0 125 [] (Wk.cs { Wk.zero with made:=true,q:=q }) []:=⟨at_h2,rfl⟩
 refine pgmay_x q.va hv ?_
 rw [hm]
 unfold Wk.begin at hk
 have hZ:({ Wk.zero with made:=true,q:=q }:Wk).ok:=⟨hr,hv,by show (0:Nat)≤2;decide,by show (0:Nat)<2 ^ 64;decide,by show (0:Nat)<2 ^ 64;decide⟩
 cases m with
 | false =>
  rw [if_neg (of_decide_eq_false hm)] at hk
  conv=>whnf
  refine wr_intro (by exact p2.st 8 sizI4 (by show 8<14;decide) rfl rfl) (fun h3 at_h3 ot_h3=>cw_ ?_)
  refine ⟨_,loadA0 (n:=14) aggWk sizWk at_h3 rfl,cw_ ?_⟩
  exact ⟨h,Hp.le_st n_b le_b fun c hc=>by rw [ot_h3 c hc,ot_h2 c hc],hk⟩
 | true =>
  rw [if_pos (of_decide_eq_true hm)] at hk
  conv=>whnf
  refine wstart_x p2 hZ fun h3 p3 o3=>(cw_ ?_)
  have r3:=p3.row
  rw [List.append_nil] at r3
  refine ⟨_,loadA0 (n:=14) aggWk sizWk r3 rfl,cw_ ?_⟩
  exact ⟨h,Hp.le_st n_b le_b fun c hc=>by rw [o3 c hc,ot_h2 c hc],hk⟩
end
end Go.Proofs.YtdhlpighdlnohaaGreat
namespace Go.Proofs.YtdhlpighdlnohaaGreat.Tb
open Go Go.Mid Go.RowKit
abbrev rfXTbTlb20:Go.Mid.RF:=[(1,1),(4,1),(6,1),(8,1),(11,1),(14,1),(2,2),(3,3),(17,3)]
abbrev rfXTbTlb21:Go.Mid.RF:=[(2,2),(5,2),(8,2),(11,2),(20,2),(26,2),(3,3),(13,3),(15,3),(24,3),(30,3)]
attribute [local irreducible] mid structOk
structure En where
 asid:Int
 page:Int
 level:Int
 pte:Int
 deriving DecidableEq
structure Ky where
 asid:Int
 page:Int
 level:Int
 deriving DecidableEq
structure Rq where
 set:Bool
 byVa:Bool
 byAsid:Bool
 va:Int
 asid:Int
def En.cells (e:En):List Value:=[.int .i64 e.asid,.int .u64 e.page,.int .i64 e.level,.int .u64 e.pte]
def En.v (e:En):Value:=.agg e.cells.toArray
def Ky.cells (k:Ky):List Value:=[.int .i64 k.asid,.int .u64 k.page,.int .i64 k.level]
def Ky.v (k:Ky):Value:=.agg k.cells.toArray
def Rq.cells (r:Rq):List Value:=[.bool r.set,.bool r.byVa,.bool r.byAsid,.int .u64 r.va,.int .i64 r.asid]
def Rq.v (r:Rq):Value:=.agg r.cells.toArray
def En.ok (e:En):Prop:=(0≤e.page∧e.page<2 ^ 64)∧0≤e.pte∧e.pte<2 ^ 64
def Rq.ok (r:Rq):Prop:=0≤r.va∧r.va<2 ^ 64
def keyI (e:En):Ky:=⟨if globI e.pte then -1 else e.asid,pageI e.page e.level,e.level⟩
def forgI (r:Rq) (e:En):Bool:=r.set && (!r.byVa || decide (pageI r.va e.level=pageI e.page e.level)) && (!r.byAsid || (decide (e.asid=r.asid) && !globI e.pte))
theorem and1 (x:Int) (hx:0≤x∧x<2 ^ 64):IntKind.u64.wrap (BitVec.ofInt IntKind.u64.bits x &&& BitVec.ofInt IntKind.u64.bits 1).toNat=x % 2:=by
 obtain ⟨n,rfl⟩:∃ n:Nat,x=n:=⟨x.toNat,by omega⟩
 have hn:n<2 ^ 64:=by omega
 have e1:(BitVec.ofInt IntKind.u64.bits (n:Int) &&& BitVec.ofInt IntKind.u64.bits 1).toNat=n % 2:=by
  show (BitVec.ofInt 64 (n:Int) &&& BitVec.ofInt 64 1).toNat=_
  have h1:BitVec.ofInt 64 (n:Int)=BitVec.ofNat 64 n:=by apply BitVec.eq_of_toNat_eq;simp
  have h2:BitVec.ofInt 64 1=BitVec.ofNat 64 1:=by decide
  rw [h1,h2,BitVec.toNat_and,BitVec.toNat_ofNat,BitVec.toNat_ofNat,Nat.mod_eq_of_lt hn]
  exact Nat.and_one_is_mod n
 rw [e1,IntWalk.u64_in _ (by omega)]
 simp
section
variable {h:Hp} {K:Value→Hp→Prop}
theorem glob_x (p:Int) (hp:0≤p∧p<2 ^ 64) (hk:K (.bool (globI p)) h):X Tryz.prog 62 #[.int .u64 p] h K:=by
 refine fnv (args:=_) mixed [] [] [] Tryz.func62 rfl (by kernel_rfl) (cw_ ?_)
 refine fnv (args:=_) mixed [] [] [] Tryz.func63 rfl (by kernel_rfl) (cw_ ?_)
 refine n_ ?_
 refine val_by (Int.fdiv_eq_ediv_of_nonneg p (by decide)) (cw_ ?_)
 refine val_by (and1 (p / 2 ^ 5) (by omega)) (cw_ ?_)
 exact kq hk (bI (by rw [Bool.eq_iff_iff];simp [globI]))
theorem vsame_x (a b l:Int) (ha:0≤a∧a<2 ^ 64) (hb:0≤b∧b<2 ^ 64) (hk:K (.bool (decide (pageI a l=pageI b l))) h):X Tryz.prog 61 #[.int .u64 a,.int .u64 b,.int .i64 l] h K:=by
 refine fnv (args:=_) mixed [] [] [] Tryz.func61 rfl (by kernel_rfl) (cw_ ?_)
 refine page_x _ _ ha (cw_ ?_)
 refine page_x _ _ hb (cw_ ?_)
 exact kq hk (bI (by rw [Bool.eq_iff_iff];simp))
theorem keyOf_x (e:En) (he:e.ok) (hk:K (keyI e).v h):X Tryz.prog 136 #[e.v] h K:=by
 refine fnv (args:=_) mixed rfXTbTlb20 [] [] Tryz.func136 rfl (by kernel_rfl) (cw_ ?_)
 refine page_x _ _ he.1 ?_
 refine ⟨trivial,cw_ ?_⟩
 refine glob_x _ he.2 (cw_ ?_)
 unfold keyI at hk
 refine br_ (fun h1=>?_) fun h1=>?_
 ·conv=>whnf
  rw [if_pos h1] at hk
  exact hk
 ·conv=>whnf
  rw [if_neg (by simp [h1])] at hk
  exact hk
theorem forgets_x (r:Rq) (e:En) (hr:r.ok) (he:e.ok) (hk:K (.bool (forgI r e)) h):X Tryz.prog 16 #[r.v,e.v] h K:=by
 obtain ⟨s,bv,ba,va,asd⟩:=r
 unfold forgI at hk
 cases s <;> cases bv <;> cases ba
 all_goals
  refine fnv (args:=_) mixed rfXTbTlb21 [] [] Tryz.func16 rfl (by kernel_rfl) (cw_ ?_)
 iterate 4 exact hk
 ·exact hk
 ·refine br_ (fun h1=>?_) fun h1=>?_
  ·conv=>whnf
   refine glob_x _ he.2 (cw_ ?_)
   exact kq hk (bI (by simp [h1]))
  ·conv=>whnf
   exact kq hk (bI (by simp [h1]))
 ·refine vsame_x _ _ _ hr he.1 (cw_ ?_)
  refine br_ (fun h1=>?_) fun h1=>?_
  ·conv=>whnf
   exact kq hk (bI (by simp [h1]))
  ·conv=>whnf
   exact kq hk (bI (by simp [h1]))
 ·refine vsame_x _ _ _ hr he.1 (cw_ ?_)
  refine br_ (fun h1=>?_) fun h1=>?_
  ·conv=>whnf
   exact kq hk (bI (by simp [h1]))
  ·conv=>whnf
   refine br_ (fun h2=>?_) fun h2=>?_
   ·conv=>whnf
    refine glob_x _ he.2 (cw_ ?_)
    exact kq hk (bI (by simp [h1,h2]))
   ·conv=>whnf
    exact kq hk (bI (by simp [h1,h2]))
end
end Go.Proofs.YtdhlpighdlnohaaGreat.Tb
namespace Go.Proofs.YtdhlpighdlnohaaGreat.Tb
open Go Go.Mid Go.RowKit
attribute [local irreducible] mid structOk
theorem aRunK_call {P:Program} {ρ:Operand→Value} {o:Oper} {g:FuncId} {args:List Value} {h:Hp} {K:Value→Hp→Prop} (hA:actOf P ρ o=if callable P g=true then .call g args else .sem (execOp ρ o)) (hc:callable P g=true) (hx:X P g args.toArray h K):aRunK P (actOf P ρ o) h K:=by
 rw [hA,if_pos hc];exact hx
theorem kyLen (k:Ky):k.cells.length=3:=rfl
theorem enLen (e:En):e.cells.length=4:=rfl
theorem tKyA:isAggT Tryz.prog 192 = some true:=by kernel_rfl
theorem tKyS:sizeT Tryz.prog 192 = some 3:=by kernel_rfl
theorem tEnA:isAggT Tryz.prog 78 = some true:=by kernel_rfl
theorem tEnS:sizeT Tryz.prog 78 = some 4:=by kernel_rfl
structure Calls1 (g:FuncId) (first captured:Array Value) (ks:List Ky) (p:Ky→Bool) (b:Nat) (Inv:Nat→Hp→Prop):Prop where
 call:callable Tryz.prog g=true
 stab:∀ i h o,Inv i h→Inv i (h.set b o)
 run:∀ i k h ob K,ks[i]? = some k→Inv i h→h b=some ob→(∀ h',Inv (i+1) h'→h' b=some ob→K (.bool (p k)) h')→X Tryz.prog g (first.toList++([k.v]++captured.toList)).toArray h K
theorem flat_split {α:Type} (f:α→List Value) {l:List α} {i:Nat} (hi:i<l.length):l.flatMap f=(l.take i).flatMap f++(f l[i]++(l.drop (i+1)).flatMap f):=by
 have e:l=l.take i++l[i] :: l.drop (i+1):=by rw [← List.drop_eq_getElem_cons hi,List.take_append_drop]
 rw [← List.flatMap_cons,← List.flatMap_append,← e]
set_option maxHeartbeats 4000000 in
set_option maxRecDepth 10000 in
theorem indexFunc_x {g:FuncId} {first captured:Array Value} {ks:List Ky} {p:Ky→Bool} {b cap:Nat} {Inv:Nat→Hp→Prop} (c:Calls1 g first captured ks p b Inv) {ob:Obj} {rest:List Value} (ho:ob=rowO 192 (ks.flatMap Ky.cells++rest)) (hl:ks.length≤2 ^ 40) (h:Hp) (K:Value→Hp→Prop) (hi:Inv 0 h) (hb:h b=some ob)
  (hno:(∀ k ∈ ks,p k=false)→∀ h',Inv ks.length h'→h' b=some ob→K (.int .i64 (-1)) h')
  (hyes:∀ i,(hi:i<ks.length)→(∀ k ∈ ks.take i,p k=false)→p ks[i]=true→∀ h',Inv (i+1) h'→h' b=some ob→K (.int .i64 i) h') :
  X Tryz.prog 332 #[.slice (some ⟨b,0,none⟩) ks.length cap,.func (.func g) first captured] h K:=by
 refine fnv (args:=_) mixed [] [] [] Tryz.func332 rfl (by kernel_rfl) (cw_ ?_)
 refine loop_at [8] [] (fun r vs _ h'=>∃ j:Nat,j≤ks.length∧r=ks.length - j∧vs=[.v (.int .i64 j)]∧Inv j h'∧h' b=some ob∧∀ k ∈ ks.take j,p k=false) ks.length ⟨0,by omega,by omega,rfl,hi,hb,by simp⟩ ?_
 rintro r vs cs mm bx h' ⟨j,hj,rfl,rfl,hinv,hb',hp⟩
 conv=>whnf
 refine br_ (fun h1=>?_) fun h1=>?_
 ·have hjl:j<ks.length:=by omega
  conv=>whnf
  refine n_ ?_
  refine ⟨_,loadH_agg tKyA tKyS kyLen (by rw [hb',ho]) (List.getElem?_eq_getElem hjl),?_⟩;conv=>whnf
  refine aRunK_call (args:=first.toList++([Ky.v ks[j]]++captured.toList)) rfl c.call ?_
  refine c.run j ks[j] h' ob _ (List.getElem?_eq_getElem hjl) hinv hb' (fun h2 i2 b2=>?_)
  conv=>whnf
  refine br_ (fun h2=>?_) fun h2=>?_
  ·conv=>whnf
   exact hyes j hjl hp h2 _ i2 b2
  ·conv=>whnf
   refine n_ ?_
   refine ⟨ks.length - (j+1),by omega,j+1,by omega,rfl,rfl,i2,b2,fun k hk=>?_⟩
   rw [List.take_succ_eq_append_getElem hjl] at hk
   rcases List.mem_append.1 hk with hk | hk
   ·exact hp k hk
   ·simp only [List.mem_singleton] at hk;subst hk;exact h2
 ·obtain rfl:j=ks.length:=by omega
  conv=>whnf
  rw [List.take_length] at hp
  exact hno hp _ hinv hb'
abbrev left (p:Ky→Bool) (ks:List Ky) (j:Nat):List Ky:=(ks.take j).filter (fun k=>!p k)
theorem left_succ {p:Ky→Bool} {ks:List Ky} {j:Nat} (hj:j<ks.length):left p ks (j+1)=if p ks[j] then left p ks j else left p ks j++[ks[j]]:=by
 unfold left
 rw [List.take_succ_eq_append_getElem hj,List.filter_append]
 cases hp:p ks[j] <;> simp [hp]
set_option maxHeartbeats 4000000 in
set_option maxRecDepth 10000 in
theorem deleteFunc_x {g:FuncId} {first captured:Array Value} {ks:List Ky} {p:Ky→Bool} {b cap:Nat} {Inv:Nat→Hp→Prop} (c:Calls1 g first captured ks p b Inv) {n:Nat} (hkn:ks.length=n) {rest:List Value} (hcap:ks.length≤cap) (hr:rest.length=(cap - ks.length)*3) (hl:ks.length≤2 ^ 40) (h:Hp) (K:Value→Hp→Prop) (hi:Inv 0 h) (hb:h b=some (rowO 192 (ks.flatMap Ky.cells++rest)))
  (hk:∀ s h',Inv ks.length h'→Gr h' 192 3 s (ks.filter (fun k=>!p k)).length ((ks.filter (fun k=>!p k)).flatMap Ky.cells) (some b)→K s h') :
  X Tryz.prog 249 #[.slice (some ⟨b,0,none⟩) n cap,.func (.func g) first captured] h K:=by
 subst hkn
 refine fnv (args:=_) mixed [(7,7)] [] [] Tryz.func249 rfl (by kernel_rfl) (cw_ ?_)
 refine indexFunc_x c rfl hl h _ hi hb (fun hno h1 i1 b1=>?_) (fun i hil hno hyes h1 i1 b1=>?_)
 ·conv=>whnf
  refine hk _ _ i1 ?_
  have e:ks.filter (fun k=>!p k)=ks:=List.filter_eq_self.2 fun k hk=>by rw [hno k hk];rfl
  rw [e]
  exact ⟨flat_length kyLen _,.inr ⟨b,cap,rest,rfl,rfl,hcap,hr,b1⟩⟩
 ·conv=>whnf
  skip
  refine n_ ?_
  have hl0:left p ks i=ks.take i:=List.filter_eq_self.2 fun k hk=>by rw [hno k hk];rfl
  refine loop_at [6,5] [] (fun r vs _ h'=>∃ j:Nat,i+1≤j∧j≤ks.length∧r=ks.length - j∧vs=[.v (.int .i64 j),.v (.int .i64 (left p ks j).length)]∧Inv j h'∧(left p ks j).length<j∧∃ mid:List Value,mid.length=(j - (left p ks j).length)*3∧h' b=some (rowO 192 ((left p ks j).flatMap Ky.cells++(mid++((ks.drop j).flatMap Ky.cells++rest))))) (ks.length - (i+1))
   ⟨i+1,by omega,by omega,by omega,?_,i1,?_,Ky.cells ks[i],?_,?_⟩ ?_
  ·show [MV.v _,MV.v _]=_
   rw [show left p ks (i+1)=ks.take i by rw [left_succ hil,if_pos hyes,hl0],List.length_take,Nat.min_eq_left (by omega)]
   rfl
  ·rw [show left p ks (i+1)=ks.take i by rw [left_succ hil,if_pos hyes,hl0],List.length_take];omega
  ·rw [show left p ks (i+1)=ks.take i by rw [left_succ hil,if_pos hyes,hl0],List.length_take,Nat.min_eq_left (by omega),show i+1 - i=1 by omega];rfl
  ·rw [show left p ks (i+1)=ks.take i by rw [left_succ hil,if_pos hyes,hl0],b1,flat_split Ky.cells hil]
   simp only [List.append_assoc]
  rintro r vs cs mm bx h' ⟨j,hj1,hj2,rfl,rfl,hinv,hlt,mid,hmid,hb'⟩
  conv=>whnf
  refine br_ (fun h3=>?_) fun h3=>?_
  ·have hjl:j<ks.length:=by omega
   have hls:=left_succ (p:=p) hjl
   conv=>whnf
   refine n_ ?_
   have e1:h' b=some (rowO 192 (((left p ks j).flatMap Ky.cells++mid)++(Ky.cells ks[j]++((ks.drop (j+1)).flatMap Ky.cells++rest)))):=by
    rw [hb',List.drop_eq_getElem_cons hjl,List.flatMap_cons];simp only [List.append_assoc]
   have hA:((left p ks j).flatMap Ky.cells++mid).length=j*3:=by rw [List.length_append,flat_length kyLen,hmid];omega
   refine ⟨_,loadH_at tKyA tKyS e1 hA (kyLen _),cw_ ?_⟩
   refine aRunK_call (args:=first.toList++([Ky.v ks[j]]++captured.toList)) rfl c.call ?_
   refine c.run j ks[j] h' _ _ (List.getElem?_eq_getElem hjl) hinv e1 (fun h2 i2 b2=>?_)
   conv=>whnf
   cases hpk:p ks[j] with
   | true =>
    rw [if_pos hpk] at hls
    conv=>whnf
    refine n_ ?_
    refine ⟨ks.length - (j+1),by omega,j+1,by omega,by omega,rfl,?_,i2,by rw [hls];omega,mid++Ky.cells ks[j],?_,?_⟩
    ·show [MV.v _,MV.v _]=_
     rw [hls];rfl
    ·rw [hls,List.length_append,hmid,kyLen];omega
    ·rw [hls,b2];simp only [List.append_assoc]
   | false =>
    rw [if_neg (by simp [hpk])] at hls
    conv=>whnf
    refine n_ ?_
    obtain ⟨m3,mid',hm3,rfl⟩:∃ m3 mid':List Value,m3.length=3∧mid=m3++mid':=⟨mid.take 3,mid.drop 3,by rw [List.length_take];omega,(List.take_append_drop 3 mid).symm⟩
    have e2:h2 b=some (rowO 192 ((left p ks j).flatMap Ky.cells++(m3++(mid'++(Ky.cells ks[j]++((ks.drop (j+1)).flatMap Ky.cells++rest)))))):=by rw [b2];simp only [List.append_assoc]
    refine ⟨_,storeH_at (z:=Ky.v ks[j]) tKyS e2 (flat_length kyLen _) hm3 (kyLen _) rfl,cw_ ?_⟩
    refine n_ ?_
    refine n_ ?_
    refine ⟨ks.length - (j+1),by omega,j+1,by omega,by omega,rfl,?_,c.stab _ _ _ i2,by rw [hls,List.length_append];simp;omega,mid'++Ky.cells ks[j],?_,?_⟩
    ·show [MV.v _,MV.v _]=_
     rw [hls,List.length_append];rfl
    ·rw [hls,List.length_append,List.length_append,kyLen]
     rw [List.length_append,hm3] at hmid
     simp only [List.length_singleton];omega
    ·rw [hls,Hp.set_same,List.flatMap_append]
     simp only [List.append_assoc]
     rfl
  ·obtain rfl:j=ks.length:=by omega
   have hfl:left p ks ks.length=ks.filter (fun k=>!p k):=by unfold left;rw [List.take_length]
   rw [hfl] at hb' hmid hlt
   rw [List.drop_length,List.flatMap_nil,List.nil_append] at hb'
   conv=>whnf
   rw [hfl]
   obtain ⟨Z,hZ,hclr⟩:=clrH_at (P:=Tryz.prog) (t := 177) (e := 192) (z:=.agg #[.int .i64 0,.int .u64 0,.int .i64 0]) (n:=ks.length - (ks.filter (fun k=>!p k)).length) (c:=cap - (ks.filter (fun k=>!p k)).length) (by kernel_rfl) (by kernel_rfl) rfl hb' (flat_length kyLen _) hmid (by omega)
   refine n_ ?_
   refine bf_ ?_ (by rw [decide_eq_false_iff_not];omega)
   refine io_intro (by
    show clrH Tryz.prog 177 h' (.slice (some ((⟨b,0,none⟩:Addr).add ((ks.filter (fun k=>!p k)).length*3))) (ks.length - (ks.filter (fun k=>!p k)).length) (cap - (ks.filter (fun k=>!p k)).length))=_
    rw [addr_add,Nat.zero_add];exact hclr) (fun h6 at6 ot6=>?_)
   conv=>whnf
   refine n_ ?_
   refine bf_ ?_ (by rw [decide_eq_false_iff_not];omega)
   have e6:h6=h'.set b (rowO 192 ((ks.filter (fun k=>!p k)).flatMap Ky.cells++(Z++rest))):=by
    funext x
    by_cases hx:x=b
    ·subst hx;rw [at6,Hp.set_same]
    ·rw [ot6 x hx,Hp.set_other _ _ hx]
   refine hk _ _ (by rw [e6];exact c.stab _ _ _ hinv) ⟨flat_length kyLen _,.inr ⟨b,cap,Z++rest,rfl,rfl,by omega,?_,at6⟩⟩
   rw [List.length_append,hZ,hmid,hr,← Nat.add_mul]
   congr 1;omega
set_option maxHeartbeats 4000000 in
set_option maxRecDepth 10000 in
theorem cloneK_x (a:Addr) (ks:List Ky) (n cap:Nat) (hkn:ks.length=n) (h:Hp) (K:Value→Hp→Prop) (hl:n≤2 ^ 30)
  (hx:∀ j v,(ks.flatMap Ky.cells)[j]? = some v→h.cell? (a.add j)=some v)
  (hk:∀ s h' b,h.le h'→h b=none→Gr h' 192 3 s ks.length (ks.flatMap Ky.cells) (some b)→K s h'):X Tryz.prog 139 #[.slice (some a) n cap] h K:=by
 subst hkn
 refine fnv (args:=_) mixed [] [] [] Tryz.func139 rfl (by kernel_rfl) (cw_ ?_)
 intro b hb
 conv=>whnf
 have hle:=Hp.le_set (o:=rowO 192 []) hb
 refine appMany (t := 177) (e := 192) (i:=Tryz.prog.types[192]) (z:=.agg #[.int .i64 0,.int .u64 0,.int .i64 0]) (size:=3) (bytes:=24) (by kernel_rfl) (by kernel_rfl) (by kernel_rfl) (by kernel_rfl) (by kernel_rfl) rfl (by decide)
  (h:=h.set b (rowO 192 [])) (cs:=[]) (n:=0) (ob:=some b) (base:=some a) rfl rfl rfl ⟨rfl,.inr ⟨b,0,[],rfl,rfl,Nat.le_refl _,rfl,Hp.set_same _ _ _⟩⟩ (flat_length kyLen _) (fun j v hj=>⟨a,rfl,cell_le hle (hx j v hj)⟩) (fun hh=>by cases hh) ?_ (by omega) (fun s' h' ob' hg ht=>?_)
 ·rw [List.all_eq_true]
  intro v hv
  obtain ⟨k,_,hv⟩:=List.mem_flatMap.1 hv
  simp only [Ky.cells,List.mem_cons,List.not_mem_nil,or_false] at hv
  rcases hv with rfl | rfl | rfl <;> rfl
 ·have ht2:=ht.le hle fun c hc=>by cases hc;exact hb
  conv=>whnf
  rw [Nat.zero_add,List.nil_append] at hg
  obtain ⟨b',hb'⟩:∃ b',ob'=some b':=by
   rcases ht with ⟨_,rfl⟩ | ⟨b',_,rfl,_⟩
   ·exact ⟨b,rfl⟩
   ·exact ⟨b',rfl⟩
  subst hb'
  exact hk s' h' b' ht2.1 (ht2.2 b' rfl) hg
end Go.Proofs.YtdhlpighdlnohaaGreat.Tb
