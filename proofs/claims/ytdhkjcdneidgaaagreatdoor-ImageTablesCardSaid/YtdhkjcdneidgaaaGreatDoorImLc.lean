/-
  Images: the laws of their arguments as data.
-/
import Derived.Test.YtdhkjcdneidgaaaGreatDoorImBf
import Derived.Test.YtdhkjcdneidgaaaGreatDoorImO
import Derived.Test.YtdhkjcdneidgaaaGreatDoorRgRegA
import Derived.Test.YtdhkjcdneidgaaaGreatDoorTrK
import Derived.LaidMore
import Derived.LaidSub
import Derived.MakeChecks
import Derived.Lib.LaidTab
import Derived.Stop.LaidErr
import Derived.Test.YtdhkjcdneidgaaaGreatDoorBitX
import Derived.Test.YtdhkjcdneidgaaaGreatDoorRows
namespace Go.Proofs.YtdhkjcdneidgaaaGreatDoor
set_option linter.unusedSimpArgs false
set_option linter.unusedVariables false
set_option linter.unusedSimpArgs false
set_option linter.unusedVariables false
open Go Go.Mid Go.RowKit Go.Bits
attribute [local irreducible] mid
structure Pg where
 va:Nat
 pa:Nat
 lv:Int
 fl:Nat
def Pg.cs (p:Pg):List Value:=[ux p.va,ux p.pa,.int .i64 p.lv,ux p.fl]
structure Pg.ok (p:Pg):Prop where
 va:p.va<2 ^ 64
 pa:p.pa<2 ^ 64
 lv0 : -9223372036854775808≤p.lv
 lv1:p.lv≤9223372036854775807
 fl:p.fl<2 ^ 64
theorem tbNe {h:Hp} {b m:Nat} {t:Tb} (o:TbO h b m t):b≠m:=by
 obtain ⟨x,n,h1,hM,_⟩:=o.map
 exact mapNe o.row h1 hM
section
set_option maxHeartbeats 8000000
set_option maxRecDepth 10000
variable {h:Hp} {K:Value→Hp→Prop} {E:List PanicEntry→Hp→Prop}
theorem itables_x (hmx:Mx h) (her:Er h) (hpw:Pow h) (root:Nat) (hr:root<2 ^ 64) {base:Option Addr} {cap:Nat} {L:List Pg} (okL:∀ p ∈ L,p.ok) (fL:∀ i p,L[i]? = some p→∃ a,base=some a∧∀ k v,p.cs[k]? = some v→h.cell? ((a.add (i*4)).add k)=some v) (va:Nat) (hva:va<2 ^ 64) (hk:∀ h',h.le h'→K (.bool true) h'):XE Tryz.prog 4 #[ux root,.slice base L.length cap,ux va] h K E:=by
 refine fnu (args:=_) mixed [(13,13),(182,13),(15,15)] [] [] [(20,[0,1,2,3,4,5,6,7,8,9,10,11,12,13,14,16,15,17,18,19,20,21,23,24,22,25,26,27,28,29,30]),(999998,[7,9,20])] Tryz.func4 rfl (by kernel_rfl) ?_;conv=>whnf
 refine pgfind0_x va ?_
 conv=>whnf
 refine pgmap0_x 0 0 15 0 ?_
 conv=>whnf
 refine pgents0_x ?_
 conv=>whnf
 refine pgframes0_x ?_
 conv=>whnf
 refine pgnewTables_x root hr (fun q=>?_) (fun q b m h1 nb nm le1 o1=>?_)
 ·conv=>whnf
  rw [show ((root:Int)).tmod 4096=((root % 4096:Nat):Int) from rfl]
  refine bsel_true (by simp;omega) ?_;conv=>whnf
  refine ilive_x hmx her hpw fun h' le'=>?_
  conv=>whnf
  exact hk h' le'
 conv=>whnf
 rw [show ((root:Int)).tmod 4096=((root % 4096:Nat):Int) from rfl]
 refine bsel_false (by simp;omega) ?_;conv=>whnf
 refine bsel_intro (fun q30=>?_) (fun q30=>?_) <;> try simp only [bsL] at q30
 ·conv=>whnf
  refine bsel_true (by simp;omega) ?_;conv=>whnf
  refine ilive_x (hmx.le le1) (her.le le1) (hpw.le le1) fun h' le'=>?_
  conv=>whnf
  exact hk h' (Hp.le_trans le1 le')
 conv=>whnf
 refine rpgNew_x root ?_
 conv=>whnf
 have hbm:=tbNe o1
 have off1:∀ h2 h3:Hp,h.le h2→(∀ c,c≠b→c≠m→h3 c=h2 c)→h.le h3:=fun h2 h3 l2 e c o hc=>by
  rw [e c (Hp.ne nb hc) (Hp.ne nm hc)];exact l2 _ _ hc
 refine loop_at [14] [13] (fun q vs cs h'=>∃ (i:Nat) (t:Tb) (lev:Nat→Nat) (s:Value) (ob:Option Nat),i≤L.length∧q=L.length - i∧vs=[.v (.int .i64 i)]∧cs=[some [.bool true,ux t.root,.int .i64 t.frames,s]]∧TbO h' b m t∧TInv t lev∧t.L.length≤3*i∧h.le h'∧Gr h' enT 4 s t.L.length (t.L.flatMap TE.cs) ob∧∀ c,ob=some c→c≠b∧c≠m) L.length ⟨0,⟨root,1,[]⟩,_,_,none,by omega,by omega,rfl,rfl,o1,TInv.new root hr q,Nat.le_refl _,le1,Gr.nil,fun c e=>(by cases e)⟩ ?_
 rintro q vs cs mm bx h2 ⟨i,t,lev,s,ob,hi,rfl,rfl,rfl,o2,i2,hl2,le2,g2,n2⟩
 obtain ⟨sa,sc,rfl⟩:=g2.shape
 have rd2:Rd Tryz.prog enT 4 h2 (.slice sa t.L.length sc) (t.L.map TE.v):=g2.rdN (P:=Tryz.prog) (f:=TE.cs) aggEn sizEn (fun _=>rfl)
 conv=>whnf
 refine bsel_intro (fun q1=>?_) (fun q1=>?_) <;> try simp only [bsL] at q1
 ·have hil:i<L.length:=by omega
  obtain ⟨p,hp⟩:∃ p,L[i]? = some p:=⟨_,List.getElem?_eq_getElem hil⟩
  obtain ⟨a,rfl,ca⟩:=fL i p hp
  have okp:=okL p (List.mem_of_getElem? hp)
  have ca:∀ k v,p.cs[k]? = some v→h.cell? ((a.add (((i:Int)).toNat*4)).add k)=some v:=fun k v hv=>by rw [Int.toNat_natCast];exact ca k v hv
  conv=>whnf
  (first | refine need_intro (⟨by omega,by omega⟩) ?_ | refine must.mk (⟨by omega,by omega⟩) ?_);conv=>whnf
  refine ⟨_,(loadH_cell aggU6 _ _).trans (cell_le le2 (ca 0 _ rfl)),?_⟩;conv=>whnf
  (first | refine need_intro (⟨by omega,by omega⟩) ?_ | refine must.mk (⟨by omega,by omega⟩) ?_);conv=>whnf
  refine ⟨_,(loadH_cell aggU6 _ _).trans (cell_le le2 (ca 1 _ rfl)),?_⟩;conv=>whnf
  (first | refine need_intro (⟨by omega,by omega⟩) ?_ | refine must.mk (⟨by omega,by omega⟩) ?_);conv=>whnf
  refine ⟨_,(loadH_cell aggIn _ _).trans (cell_le le2 (ca 2 _ rfl)),?_⟩;conv=>whnf
  (first | refine need_intro (⟨by omega,by omega⟩) ?_ | refine must.mk (⟨by omega,by omega⟩) ?_);conv=>whnf
  refine ⟨_,(loadH_cell aggU6 _ _).trans (cell_le le2 (ca 3 _ rfl)),?_⟩;conv=>whnf
  refine rpgmap_x true t i2 (.slice sa t.L.length sc) rd2 (by omega) p.va p.pa p.lv p.fl okp.va okp.pa okp.fl fun s3 h3 le3 rd3 hOw=>?_
  obtain ⟨sa3,sc3,rfl⟩:=rdSl rd3
  have le03:=Hp.le_trans le2 le3
  obtain ⟨⟨lev3,i3⟩,_,hl3⟩:=mapT_inv (va:=p.va) (pa:=p.pa) (l:=p.lv) (fl:=p.fl) i2
  obtain ⟨ob3,g3,n3⟩:∃ ob3,Gr h3 enT 4 (.slice sa3 (mapT t (mapP t p.va p.pa p.lv p.fl)).L.length sc3) (mapT t (mapP t p.va p.pa p.lv p.fl)).L.length ((mapT t (mapP t p.va p.pa p.lv p.fl)).L.flatMap TE.cs) ob3∧∀ c,ob3=some c→c≠b∧c≠m:=by
   cases hm:mapP t p.va p.pa p.lv p.fl with
   | error e =>
    rw [hm] at hOw
    have:=hOw.2 e rfl
    exact ⟨ob,by rw [this];exact g2.le le3,n2⟩
   | ok u =>
    rw [hm] at hOw
    obtain ⟨ob3,g3,_,hn3⟩:=hOw.1 u rfl
    obtain ⟨x,n,hx,_,_⟩:=o2.map
    refine ⟨ob3,g3,fun c hc=>⟨fun e=>?_,fun e=>?_⟩⟩
    ·subst e;have:=hn3 _ hc;rw [o2.row] at this;cases this
    ·subst e;have:=hn3 _ hc;rw [hx] at this;cases this
  refine ⟨trivial,?_⟩;conv=>whnf
  (first | refine need_intro (⟨by omega,by omega⟩) ?_ | refine must.mk (⟨by omega,by omega⟩) ?_);conv=>whnf
  refine ⟨_,(loadH_cell aggU6 _ _).trans (cell_le le03 (ca 0 _ rfl)),?_⟩;conv=>whnf
  (first | refine need_intro (⟨by omega,by omega⟩) ?_ | refine must.mk (⟨by omega,by omega⟩) ?_);conv=>whnf
  refine ⟨_,(loadH_cell aggU6 _ _).trans (cell_le le03 (ca 1 _ rfl)),?_⟩;conv=>whnf
  (first | refine need_intro (⟨by omega,by omega⟩) ?_ | refine must.mk (⟨by omega,by omega⟩) ?_);conv=>whnf
  refine ⟨_,(loadH_cell aggIn _ _).trans (cell_le le03 (ca 2 _ rfl)),?_⟩;conv=>whnf
  (first | refine need_intro (⟨by omega,by omega⟩) ?_ | refine must.mk (⟨by omega,by omega⟩) ?_);conv=>whnf
  refine ⟨_,(loadH_cell aggU6 _ _).trans (cell_le le03 (ca 3 _ rfl)),?_⟩;conv=>whnf
  refine pgmap_x (o2.le le3) hbm i2 (by omega) p.va p.pa p.lv p.fl okp.va okp.pa okp.fl fun h4 o4 e4=>?_
  refine ⟨trivial,?_⟩;conv=>whnf
  refine bsel_false (by simp) ?_;conv=>whnf
  (first | refine ov_c (by simp only [loK,hiK];omega) ?_ | refine ov_c (by decide) ?_);conv=>whnf
  exact ⟨L.length - (i+1),by omega,i+1,_,lev3,_,ob3,by omega,rfl,rfl,rfl,o4,i3,by omega,off1 _ _ le03 e4,g3.agree fun c hc=>e4 c (n3 c hc).1 (n3 c hc).2,n3⟩
 have hiL:i=L.length:=by omega
 subst hiL
 refine pgfind_x o2 i2 (by omega) va hva ?_
 obtain ⟨r,hr2⟩:∃ r,lookP t va=r:=⟨_,rfl⟩
 rw [hr2]
 cases r with
 | none =>
  conv=>whnf
  refine rpgFind_x true t i2 (.slice sa t.L.length sc) rd2 (by omega) va hva ?_
  rw [hr2]
  conv=>whnf
  refine X.toE (pgents_x o2 i2 (by omega) fun s3 h3 P le3 rd3 ok3 k3=>?_)
  obtain ⟨b3,c3,e3,_⟩:=id rd3
  rw [List.length_map] at e3
  subst e3
  refine ⟨trivial,?_⟩;conv=>whnf
  refine X.toE (rpgents_x true t i2 (.slice sa t.L.length sc) (rd2.le le3) (by omega) fun s4 h4 Q le4 rd4 ok4 k4=>?_)
  obtain ⟨b4,c4,e4,_⟩:=id rd4
  rw [List.length_map] at e4
  subst e4
  refine ⟨trivial,?_⟩;conv=>whnf
  refine X.toE (pgparts_x P Q _ _ (rd3.le le4) rd4 (fun p hp=>((ok3 p hp).le le4).ok) (fun p hp=>(ok4 p hp).ok) (by have e1:=congrArg List.length k3;have e2:=(ents_perm t).length_eq;simp only [List.length_map] at e1;omega) ?_)
  rw [decide_eq_true (k3.trans k4.symm)]
  refine ⟨trivial,?_⟩;conv=>whnf
  refine X.toE (pgframes_x ((o2.le le3).le le4) ?_)
  refine ⟨trivial,?_⟩;conv=>whnf
  refine bsel_true (by simp) ?_;conv=>whnf
  refine ilive_x (hmx.le (Hp.le_trans le2 (Hp.le_trans le3 le4))) (her.le (Hp.le_trans le2 (Hp.le_trans le3 le4))) (hpw.le (Hp.le_trans le2 (Hp.le_trans le3 le4))) fun h5 le5=>?_
  refine ⟨trivial,?_⟩;conv=>whnf
  exact hk h5 (Hp.le_trans (Hp.le_trans le2 (Hp.le_trans le3 le4)) le5)
 | some r =>
  obtain ⟨p,l⟩:=r
  conv=>whnf
  refine rpgFind_x true t i2 (.slice sa t.L.length sc) rd2 (by omega) va hva ?_
  rw [hr2]
  conv=>whnf
  refine bsel_true (by simp) ?_;conv=>whnf
  refine bsel_true (by simp) ?_;conv=>whnf
  refine X.toE (pgents_x o2 i2 (by omega) fun s3 h3 P le3 rd3 ok3 k3=>?_)
  obtain ⟨b3,c3,e3,_⟩:=id rd3
  rw [List.length_map] at e3
  subst e3
  refine ⟨trivial,?_⟩;conv=>whnf
  refine X.toE (rpgents_x true t i2 (.slice sa t.L.length sc) (rd2.le le3) (by omega) fun s4 h4 Q le4 rd4 ok4 k4=>?_)
  obtain ⟨b4,c4,e4,_⟩:=id rd4
  rw [List.length_map] at e4
  subst e4
  refine ⟨trivial,?_⟩;conv=>whnf
  refine X.toE (pgparts_x P Q _ _ (rd3.le le4) rd4 (fun p hp=>((ok3 p hp).le le4).ok) (fun p hp=>(ok4 p hp).ok) (by have e1:=congrArg List.length k3;have e2:=(ents_perm t).length_eq;simp only [List.length_map] at e1;omega) ?_)
  rw [decide_eq_true (k3.trans k4.symm)]
  refine ⟨trivial,?_⟩;conv=>whnf
  refine X.toE (pgframes_x ((o2.le le3).le le4) ?_)
  refine ⟨trivial,?_⟩;conv=>whnf
  refine bsel_true (by simp) ?_;conv=>whnf
  refine ilive_x (hmx.le (Hp.le_trans le2 (Hp.le_trans le3 le4))) (her.le (Hp.le_trans le2 (Hp.le_trans le3 le4))) (hpw.le (Hp.le_trans le2 (Hp.le_trans le3 le4))) fun h5 le5=>?_
  refine ⟨trivial,?_⟩;conv=>whnf
  exact hk h5 (Hp.le_trans (Hp.le_trans le2 (Hp.le_trans le3 le4)) le5)
end
end Go.Proofs.YtdhkjcdneidgaaaGreatDoor

namespace Go.Proofs.YtdhkjcdneidgaaaGreatDoor
set_option linter.unusedSimpArgs false
set_option linter.unusedVariables false
set_option linter.unusedSimpArgs false
set_option linter.unusedVariables false
open Go Go.Mid Go.RowKit Go.Bits
attribute [local irreducible] mid
structure RW (h:Hp) (K:Value→Hp→Prop) (r:Except (Int×Int) (List (Nat×Str)×List (Str×Nat)×Nat)):Prop where
 err:∀ n e h',r=.error (n,e)→K (.tuple #[.slice none 0 0,.slice none 0 0,ux 0,.int .i64 n,.int .i64 e]) h'
 ok:∀ o l q sP sL (P:List Pp) h',r=.ok (o,l,q)→h.le h'→Rd Tryz.prog 92 2 h' sP (P.map Pp.v)→(∀ p ∈ P,PpB h' p)→P.map Pp.key=o→P.length≤256→Rd Tryz.prog 38 2 h' sL (l.map fun x=>.agg (lbC x).toArray)→K (.tuple #[sP,sL,ux q,.int .i64 0,.int .i64 0]) h'
section
set_option maxHeartbeats 8000000
set_option maxRecDepth 10000
variable {h:Hp} {K:Value→Hp→Prop}
end
end Go.Proofs.YtdhkjcdneidgaaaGreatDoor

namespace Go.Proofs.YtdhkjcdneidgaaaGreatDoor
set_option linter.unusedSimpArgs false
set_option linter.unusedVariables false
set_option linter.unusedSimpArgs false
set_option linter.unusedVariables false
open Go Go.Mid Go.RowKit
attribute [local irreducible] mid
theorem errRow (u : TypeId) (h : Tryz.prog.typeName? 3 u = some "*errors.errorString") : u = 275 :=
 typeName_ptr_named (nm := "errors.errorString") (by rw [show "*" ++ "errors.errorString" = "*errors.errorString" by decide]; kernel_rfl) (by kernel_rfl) (by decide) u (by rw [show "*" ++ "errors.errorString" = "*errors.errorString" by decide]; exact h)
theorem sent_of {w : World} {l : List (String × DataW Unit)} {n : String} {g : Nat} {text : List UInt8} (hm : laidMetH Tryz.prog l w) (hl : l.filter (fun x => x.1 == n) = [(n, .iface "*errors.errorString" (.ptr (.agg [.lit (.string text)])))]) (hg : Tryz.prog.globalNamed n = some g) (ht : (Tryz.prog.globals[g]?).map (·.type) = some 200) : ∃ p, w.var? Tryz.prog n = some #[.iface 275 p] := by
 have h1:=laidMetH.filter (fun x=>x.1==n) hm
 rw [hl,MakeChecks.laidMetH_plain _ _ _ (by rfl)] at h1
 obtain ⟨a,s,h2,_⟩:=laid_sentinel h1 hg ht Tryz.underlying200 errRow Tryz.underlying275 Tryz.underlying277 rfl rfl Tryz.underlying9 (by kernel_rfl) (by kernel_rfl)
 exact ⟨_,h2⟩
theorem pow_of {w : World} {l : List (String × DataW Unit)} (hm : laidMetH Tryz.prog l w) (hl : l.filter (fun x => x.1 == "internal/strconv.uint64pow10") = [("internal/strconv.uint64pow10", Lib.tabData .u64 Lib.pow10Tab)]) : Pow (whole w) := by
 have h1 := laidMetH.filter (fun x => x.1 == "internal/strconv.uint64pow10") hm
 rw [hl,MakeChecks.laidMetH_plain _ _ _ (by decide +kernel)] at h1
 exact Pow.of (Lib.tabIs_of_head powG (t:=(Tryz.prog.globals[5]?.map (·.type)).getD 0) (e:=25) (n:=20) (by kernel_rfl) (by kernel_rfl) (by kernel_rfl) (by kernel_rfl) (by kernel_rfl) h1)
theorem er_of {w : World} {l : List (String × DataW Unit)} (hL : laidMetH Tryz.prog l w) (h1 : l.filter (fun x => x.1 == "strconv.ErrSyntax") = [("strconv.ErrSyntax", .iface "*errors.errorString" (.ptr (.agg [.lit (.string [105, 110, 118, 97, 108, 105, 100, 32, 115, 121, 110, 116, 97, 120])])))]) (h2 : l.filter (fun x => x.1 == "strconv.ErrRange") = [("strconv.ErrRange", .iface "*errors.errorString" (.ptr (.agg [.lit (.string [118, 97, 108, 117, 101, 32, 111, 117, 116, 32, 111, 102, 32, 114, 97, 110, 103, 101])])))]) : Er (whole w) := by
 obtain ⟨e1, g1⟩ := sent_of hL (n := "strconv.ErrSyntax") (g := 3) h1 (by kernel_rfl) (by kernel_rfl)
 obtain ⟨e2, g2⟩ := sent_of hL (n := "strconv.ErrRange") (g := 4) h2 (by kernel_rfl) (by kernel_rfl)
 exact Er.of g1 g2
end Go.Proofs.YtdhkjcdneidgaaaGreatDoor

namespace Go.Proofs.YtdhkjcdneidgaaaGreatDoor
set_option linter.unusedSimpArgs false
set_option linter.unusedVariables false
set_option linter.unusedSimpArgs false
set_option linter.unusedVariables false
open Go Go.Mid Go.RowKit Go.Bits
attribute [local irreducible] mid
section
set_option maxHeartbeats 8000000
set_option maxRecDepth 10000
variable {h:Hp}
abbrev shPg:Sh:=.struct [(.int .u64),(.int .u64),(.int .i64),(.int .u64)]
theorem pg_of {cs:List Value} (w:Wf h shPg cs):∃ p:Pg,p.ok∧cs=p.cs:=by
 obtain ⟨a1,b1,rfl,w1,w⟩:=wfC (wfS w)
 obtain ⟨a2,b2,rfl,w2,w⟩:=wfC w
 obtain ⟨a3,b3,rfl,w3,w⟩:=wfC w
 obtain ⟨a4,b4,rfl,w4,w⟩:=wfC w
 obtain rfl:=wfN w
 obtain ⟨x1,rfl,p1⟩:=wfU w1
 obtain ⟨x2,rfl,p2⟩:=wfU w2
 obtain ⟨x3,rfl,p3,q3⟩:=wfI w3
 obtain ⟨x4,rfl,p4⟩:=wfU w4
 exact ⟨⟨x1,x2,x3,x4⟩,⟨p1,p2,p3,q3,p4⟩,rfl⟩
theorem aggPgT:isAggT Tryz.prog 56=some true:=by kernel_rfl
theorem sizPgT:sizeT Tryz.prog 56=some 4:=by kernel_rfl
theorem imageTables_w (w:World) (hsh:w.ShapedOpen Tryz.prog) (hL:laidMetH Tryz.prog Rows.imageTablesRow.laid w) {cs0 cs1 cs2:List Value} (w0:Wf (whole w) (.int .u64) cs0) (l0:cs0.length=Sh.n (.int .u64)) (w1:Wf (whole w) (.slice shPg) cs1) (l1:cs1.length=Sh.n (.slice shPg)) (w2:Wf (whole w) (.int .u64) cs2) (l2:cs2.length=Sh.n (.int .u64)) :
  X Tryz.prog 4 #[Sh.v (.int .u64) cs0,Sh.v (.slice shPg) cs1,Sh.v (.int .u64) cs2] (whole w) fun v h'=>v=.bool true∧(whole w).le h':=by
 obtain ⟨r,rfl,hr⟩:=wfU w0
 obtain ⟨v,rfl,hv⟩:=wfU w2
 obtain ⟨a,cap,L,rfl,hl,okL,fL⟩:=slice_of (P:=Tryz.prog) (t:=56) (n:=4) (ok:=Pg.ok) (cells:=Pg.cs) aggPgT sizPgT (by decide) rfl (fun es hw=>pg_of hw) w1
 refine XE.noE (itables_x (E:=fun _ _=>False) (Mx.of hsh) (er_of hL (by rfl) (by rfl)) (pow_of hL (by rfl)) r hr okL (fun i p hp=>?_) v hv fun h' hle=>⟨rfl,hle⟩)
 obtain ⟨b,eb,hb⟩:=fL i p hp
 exact ⟨b,eb,fun k x hx=>loadH_cellOf aggPgT sizPgT hb (by simpa using hx)⟩
end
end Go.Proofs.YtdhkjcdneidgaaaGreatDoor
