/-
  The names of registers: the plain law.
-/
import Derived.Test.YtdhkjcdneidgaaaGreatDoorMidUb
import Derived.Test.YtdhkjcdneidgaaaGreatDoorLinS
import Derived.Lib.SplitLaws
import Derived.Shelf.Vars
import Derived.Test.YtdhkjcdneidgaaaGreatDoorProg
import Derived.KernelRfl
set_option linter.unusedSimpArgs false
set_option linter.unusedVariables false
set_option maxHeartbeats 8000000
set_option maxRecDepth 10000
set_option linter.unusedSimpArgs false
set_option linter.unusedVariables false
namespace Go.Proofs.YtdhkjcdneidgaaaGreatDoor
open Go Go.Mid Go.RowKit
attribute [local irreducible] mid
def stopV (n:Int):Value:=.iface 205 (.agg #[.int .i64 n])
section
variable {h:Hp} {K:FrameMode→Hp→Prop}
theorem parse1_ret {a b:Addr} (hk:K .returning h):XD Tryz.prog 143 #[.pointer (some a),.pointer (some b)] .returning h K:=by
 refine xd_of mixed [(3,3),(17,3)] [] [5] [] Tryz.func143 rfl (by kernel_rfl) (by kernel_rfl) (cw_ ?_)
 exact hk
def insn0:List Value:=[.int .i64 0,.int .i64 0,.int .i64 0,.int .i64 0,.int .i64 0,.int .i64 0,.bool false,.bool false]
theorem sizAi:sizeT Tryz.prog 89=some 8:=by kernel_rfl
theorem sizAe:sizeT Tryz.prog 28=some 1:=by kernel_rfl
theorem parse1_pan {a b:Nat} {xl:List Value} {ev:Value} {n:Int} {r:List PanicEntry} (hab:a≠b) (hx:h a=some (rowO 89 xl)) (he:h b=some (rowO 28 [ev])) (hxs:xl.length=8)
  (hk:∀ h',h' a=some (rowO 89 insn0)→h' b=some (rowO 28 [.int .i64 n])→(∀ c,c≠a→c≠b→h' c=h c)→K (.panicking ({ v:=stopV n,recovered:=true } :: r)) h'):XD Tryz.prog 143 #[.pointer (some ⟨a,0,none⟩),.pointer (some ⟨b,0,none⟩)] (.panicking ({ v:=stopV n,recovered:=false } :: r)) h K:=by
 refine xd_of mixed [(3,3),(17,3)] [] [5] [] Tryz.func143 rfl (by kernel_rfl) (by kernel_rfl) (cw_ ?_)
 refine sem_ta (v:=.agg #[.int .i64 n]) Tryz.underlying205 (fun _ hh=>by cases hh) rfl rfl (cw_ ?_)
 refine wr_intro (by exact storeA0 sizAi hx hxs (by kernel_rfl) (by kernel_rfl)) (fun h1 at_h1 ot_h1=>cw_ ?_)
 refine ⟨trivial,cw_ ?_⟩
 have he1:h1 b=some (rowO 28 [ev]):=(ot_h1 _ (Ne.symm hab)).trans he
 conv=>whnf
 refine wr_intro (by exact storeC0 sizAe he1 (show (0:Nat)<1 by decide) rfl rfl) (fun h2 at_h2 ot_h2=>cw_ ?_)
 refine ⟨trivial,cw_ ?_⟩
 exact hk h2 ((ot_h2 _ hab).trans at_h1) at_h2 fun c hc hd=>(ot_h2 c hd).trans (ot_h1 c hc)
end
end Go.Proofs.YtdhkjcdneidgaaaGreatDoor
namespace Go.Proofs.YtdhkjcdneidgaaaGreatDoor
open Go Go.Mid Go.RowKit
attribute [local irreducible] mid
def sp (sep s:Str):List Str:=Lib.splitK sep 0 (Lib.count s sep) s
theorem sp_miss {sep s:Str} (h:Lib.index s sep = -1):sp sep s=[s]:=by
 unfold sp
 rw [Lib.count_miss h]
 rfl
theorem sp_hit {sep s:Str} {i:Nat} (hs:sep≠[]) (h:Lib.index s sep=i):sp sep s=s.take i :: sp sep (s.drop (i+sep.length)):=by
 unfold sp
 rw [Lib.count_hit hs h,Nat.add_comm,Lib.splitK,if_neg (by rw [h];simp),h]
 rfl
theorem sp_ne (sep s:Str):sp sep s≠[]:=by
 unfold sp
 cases Lib.count s sep with
 | zero=>simp [Lib.splitK]
 | succ k=>unfold Lib.splitK;split <;> simp
theorem sp_B (sep s:Str):(Lib.splitB (bs sep) 0 (Lib.countB (bs s) (bs sep)) (bs s)).map Value.string=(sp sep s).map sv:=by
 have h:sp sep s=(Lib.splitB (bs sep) 0 (Lib.countB (bs s) (bs sep)) (bs s)).map (·.data.toList):=(Lib.splitB_data (bs sep) 0 _ (bs s)).symm
 rw [h,List.map_map]
 rfl
theorem sp_len (sep s:Str) (h:sep≠[]):(sp sep s).length=Lib.countB (bs s) (bs sep)+1:=by
 have e:=congrArg List.length (sp_B sep s)
 rw [List.length_map,List.length_map] at e
 rw [← e,Lib.splitB_all (bs sep) (by rw [bs_size];exact List.length_pos_iff.2 h) 0 _ (bs s) rfl]
theorem X.ofAlloc {P:Program} {f:FuncId} {args:Array Value} {v:Nat→Value} {o:Obj} {h:Hp} {K:Value→Hp→Prop} (hc:∀ w0 w,Sat w0 h w→Calls P f args w fun e w'=>e=.returned (v w.heap.size)∧w'=w.alloc o) (hk:∀ b,h b=none→K (v b) (h.set b o)):X P f args h K :=
 ⟨fun w0 w s=>(hc w0 w s).mono fun _ w' ⟨he,hb⟩=>⟨v w.heap.size,h.set w.heap.size o,he,by
  subst hb
  have hh:(w.alloc o).heap=w.heap.push o:=rfl
  refine ⟨⟨s.os,s.tape,s.output,Nat.le_trans s.size ?_,fun b o' e=>?_⟩,?_,fun b hb e=>⟨?_,?_⟩⟩
  ·rw [hh,Array.size_push];omega
  ·by_cases hbs:b=w.heap.size
   ·subst hbs
    rw [Hp.set_same] at e
    cases e
    rw [hh,Array.getElem?_push_size]
   ·rw [Hp.set_other _ _ hbs] at e
    have:=s.known b o' e
    have hlt:=s.lt e
    rw [hh,Array.getElem?_push_lt hlt]
    rw [Array.getElem?_eq_getElem hlt] at this
    exact this
  ·rw [hh,Array.size_push];omega
  ·rw [hh,Array.getElem?_push_lt hb,Array.getElem?_eq_getElem hb]
  ·rw [Hp.set_other _ _ (by omega)];exact e,hk _ s.fresh⟩⟩
section
variable {h:Hp} {K:Value→Hp→Prop}
def Mx (h:Hp):Prop:=∃ m,h.cell? ⟨0,0,none⟩=some (.int .i64 m)
theorem Mx.le {h h':Hp} (p:Mx h) (hle:h.le h'):Mx h':=by
 obtain ⟨m,hm⟩:=p
 exact ⟨m,cell_le hle hm⟩
theorem Mx.of {w:World} (h:w.ShapedOpen Tryz.prog):Mx (whole w) :=
 Go.Proofs.cell_of_shapedOpen_int (zero:=#[.int .i64 0]) (t:=3) h (of_decide_eq_true (by kernel_rfl)) (by kernel_rfl) rfl (by kernel_rfl) (by kernel_rfl) Tryz.underlying3
theorem split_x (hm:Mx h) (s sep:Str) (hs:s.length<4294967281) (hp:sep≠[]) (hk:∀ b h',h b=none→h'=h.set b (rowO 9 ((sp sep s).map sv))→K (.slice (some ⟨b,0,none⟩) (sp sep s).length (sp sep s).length) h'):X Tryz.prog 74 #[.string (bs s),.string (bs sep)] h K:=by
 refine X.ofAlloc (v:=fun b=>.slice (some ⟨b,0,none⟩) (sp sep s).length (sp sep s).length) (o:=rowO 9 ((sp sep s).map sv)) (fun w0 w t=>?_) fun b hb=>hk b _ hb rfl
 obtain ⟨m,hm⟩:=hm
 have:=Tryz.strings_Split (bs s) (bs sep) m w (by rw [bs_size];exact hs) (t.cell hm) (by rw [bs_size];exact List.length_pos_iff.2 hp)
 rw [sp_B,← sp_len sep s hp] at this
 exact this
theorem cut_x (hm:Mx h) (s sep:Str) (hs:s.length<4294967281) (hk:K (.tuple #[.string (bs (Lib.cut s sep).1),.string (bs (Lib.cut s sep).2.1),.bool (Lib.cut s sep).2.2]) h):X Tryz.prog 45 #[.string (bs s),.string (bs sep)] h K:=by
 obtain ⟨m,hm⟩:=hm
 refine X.ofGrow (v:=.tuple #[.string (bs (Lib.cut s sep).1),.string (bs (Lib.cut s sep).2.1),.bool (Lib.cut s sep).2.2]) (fun w0 w t=>?_) hk
 refine (Tryz.strings_Cut (bs s) (bs sep) m w (by rw [bs_size];exact hs) (t.cell hm)).mono fun e w' ⟨he,n,hn⟩=>⟨he,n,#[],?_⟩
 rw [hn]
 exact (Sort.grow_empty _).symm
end
end Go.Proofs.YtdhkjcdneidgaaaGreatDoor
namespace Go.Proofs.YtdhkjcdneidgaaaGreatDoor
open Go Go.Mid Go.RowKit
attribute [local irreducible] mid
theorem X.ofBelowE {P:Program} {f:FuncId} {args:Array Value} {Q:Value→Prop} {h:Hp} {K:Value→Hp→Prop} (hc:∀ w0 w,Sat w0 h w→Calls P f args w fun e w'=>∃ v,e=.returned v∧Q v∧Below w.heap.size w w') (hk:∀ v,Q v→K v h):X P f args h K :=
 ⟨fun w0 w s=>(hc w0 w s).mono fun _ _ ⟨v,he,hq,hb⟩=>⟨v,h,he,Ext.ofBelow s hb,hk v hq⟩⟩
section
variable {h:Hp} {K:Value→Hp→Prop}
def Er (h:Hp):Prop:=(∃ ev,h.cell? ⟨3,0,none⟩=some ev∧(ev=.nilIface∨∃ te pe,ev=.iface te pe))∧∃ ev,h.cell? ⟨4,0,none⟩=some ev∧(ev=.nilIface∨∃ te pe,ev=.iface te pe)
theorem Er.le {h h':Hp} (p:Er h) (hle:h.le h'):Er h':=by
 obtain ⟨⟨a,h1,h2⟩,b,h3,h4⟩:=p
 exact ⟨⟨a,cell_le hle h1,h2⟩,b,cell_le hle h3,h4⟩
theorem Er.of {w : World} {t1 t2 : TypeId} {p1 p2 : Value} (h1 : w.var? Tryz.prog "strconv.ErrSyntax" = some #[.iface t1 p1]) (h2 : w.var? Tryz.prog "strconv.ErrRange" = some #[.iface t2 p2]) : Er (whole w) :=
 ⟨⟨.iface t1 p1, by have h0 := World.var?_cell (show Tryz.prog.globalNamed "strconv.ErrSyntax" = some 3 by kernel_rfl) h1 0; rw [whole_cell]; simpa using h0, .inr ⟨_, _, rfl⟩⟩, ⟨.iface t2 p2, by have h0 := World.var?_cell (show Tryz.prog.globalNamed "strconv.ErrRange" = some 4 by kernel_rfl) h2 0; rw [whole_cell]; simpa using h0, .inr ⟨_, _, rfl⟩⟩⟩
theorem parseInt_x (he:Er h) (s:Str) (hs:s.length≤2 ^ 40)
  (hk0:∀ v,Lib.parseIntB 64 s=.ok v→K (.tuple #[.int .i64 v,.nilIface]) h)
  (hk:∀ v T p,(∀ v',Lib.parseIntB 64 s≠.ok v')→K (.tuple #[.int .i64 v,.iface T p]) h):X Tryz.prog 139 #[.string (bs s),.int .i64 10,.int .i64 64] h K:=by
 have hl:(bs s).size≤281474976710656:=by rw [bs_size];exact Nat.le_trans hs (by decide)
 cases hp:Lib.parseIntB 64 s with
 | ok v =>
  refine X.ofBelow (v:=.tuple #[.int .i64 v,.nilIface]) (fun w0 w t=>?_) (hk0 v hp)
  refine (Tryz.strconv_ParseInt_10_at64_ok (bs s) (Nat.le_trans hl (by decide)) v hp w).mono fun e w' ⟨he,hw⟩=>⟨he,?_⟩
  rcases hw with rfl | ⟨t,rfl⟩
  ·exact Below.refl _ _
  ·exact Lib.bytesWorld_below _ _ _
 | range =>
  refine X.ofBelowE (Q:=fun v=>∃ n T p,v=.tuple #[.int .i64 n,.iface T p]) (fun w0 w t=>?_) (fun v ⟨n,T,p,e⟩=>e ▸ hk n T p fun v' hv=>by rw [hp] at hv;cases hv)
  obtain ⟨_,ev,h1,h2⟩:=he
  refine (Tryz.strconv_ParseInt_10_at64_range (bs s) hl hp ev w (t.cell h1) h2).mono fun e w' ⟨N,he,_,_,hb⟩=>⟨_,he,⟨_,_,_,rfl⟩,hb⟩
 | _ =>
  refine X.ofBelowE (Q:=fun v=>∃ n T p,v=.tuple #[.int .i64 n,.iface T p]) (fun w0 w t=>?_) (fun v ⟨n,T,p,e⟩=>e ▸ hk n T p fun v' hv=>by rw [hp] at hv;cases hv)
  obtain ⟨⟨ev,h1,h2⟩,_⟩:=he
  refine (Any.strconv_ParseInt_10_at64_syntax Tryz.laysC174 (bs s) hl hp ev w (t.cell h1) h2).mono fun e w' ⟨N,he,_,_,hb⟩=>⟨_,he,⟨_,_,_,rfl⟩,hb⟩
end
end Go.Proofs.YtdhkjcdneidgaaaGreatDoor
namespace Go.Proofs.YtdhkjcdneidgaaaGreatDoor
open Go Go.Mid Go.RowKit
attribute [local irreducible] mid
section
variable {h:Hp} {K:Value→Hp→Prop} {E:List PanicEntry→Hp→Prop}
abbrev oIn (l:List Value):Obj:=rowO 89 l
abbrev oEr (n:Int):Obj:=rowO 28 [.int .i64 n]
theorem aggAi:isAggT Tryz.prog 89=some true:=by kernel_rfl
theorem aggAe:isAggT Tryz.prog 28=some false:=by kernel_rfl
theorem parse_long (s:Str) (hs:200<s.length) (hl:s.length≤2 ^ 40) (hk:∀ h',h.le h'→K (.tuple #[.agg insn0.toArray,.int .i64 4]) h'):XE Tryz.prog 111 #[.string (bs s)] h K E:=by
 refine fnd (args:=_) mixed [] [] [] [(999998,[13,16,23,25,27,29,31,33,35,39])] Tryz.func111 rfl (by kernel_rfl) (cw_ ?_)
 refine new_intro (o:=oIn insn0) (fun bx h1 n_bx le_bx at_bx ot_bx=>cw_ ?_)
 refine new_intro (o:=oEr 0) (fun be h2 n_be le_be at_be ot_be=>cw_ ?_)
 refine ⟨rfl,?_⟩
 have hsz:(bs s).size=s.length:=bs_size s
 have a2:h2 bx=some (oIn insn0):=le_be _ _ at_bx
 have hne:bx≠be:=fun e=>by rw [e,n_be] at at_bx;cases at_bx
 conv=>whnf
 rw [hsz]
 refine bt_ ?_
 refine ⟨_,loadA0 aggAi sizAi a2 rfl,cw_ ?_⟩
 refine wr_intro (by exact storeA0 sizAi a2 rfl (by kernel_rfl) (by kernel_rfl)) (fun h3 at_h3 ot_h3=>cw_ ?_)
 have b3:h3 be=some (oEr 0):=(ot_h3 _ (Ne.symm hne)).trans at_be
 refine wr_intro (by exact storeC0 sizAe b3 (show (0:Nat)<1 by decide) rfl rfl) (fun h4 at_h4 ot_h4=>cw_ ?_)
 have b4:h4 be=some (oEr 4):=at_h4
 have a4:h4 bx=some (oIn insn0):=(ot_h4 _ hne).trans at_h3
 refine ⟨by kernel_rfl,XD.arg (args':=#[.pointer (some ⟨bx,0,none⟩),.pointer (some ⟨be,0,none⟩)]) rfl (parse1_ret ⟨settle_ret,?_⟩)⟩
 conv=>whnf
 refine ⟨_,loadA0 aggAi sizAi a4 rfl,cw_ ?_⟩
 refine ⟨_,loadC0 aggAe b4 rfl,cw_ ?_⟩
 refine hk h4 fun c o hc=>?_
 have c1:c≠bx:=fun e=>by rw [e,n_bx] at hc;cases hc
 have c2:c≠be:=fun e=>by have:=le_bx _ _ hc;rw [e,n_be] at this;cases this
 rw [ot_h4 c c2,ot_h3 c c1]
 exact le_be _ _ (le_bx _ _ hc)
end
end Go.Proofs.YtdhkjcdneidgaaaGreatDoor
namespace Go.Proofs.YtdhkjcdneidgaaaGreatDoor.Rg
open Go Go.Mid Go.RowKit
theorem mixed:Tryz.prog.follows .mixedOrders=true:=by kernel_rfl
abbrev Str:=List UInt8
section
def has (c:Str) (i:Nat):Bool:=c.any fun b=>b.toNat==i
def asC (c:Str):List Value:=(List.range 256).map fun i=>.bool (has c i)
theorem asC_length (c:Str):(asC c).length=256:=by simp [asC]
theorem asC_get (c:Str) {i:Nat} (hi:i<256):(asC c)[i]? = some (.bool (has c i)):=by simp [asC,hi]
theorem asC_set (c:Str) (b:UInt8):(asC c).set b.toNat (.bool true)=asC (c++[b]):=by
 apply List.ext_getElem?
 intro i
 have hb:=b.toNat_lt
 rw [List.getElem?_set]
 by_cases hi:i<256
 ·rw [asC_get _ hi]
  by_cases e:b.toNat=i
  ·subst e;rw [if_pos rfl,asC_length,if_pos hi,asC_get _ hi];simp [has]
  ·rw [if_neg e,asC_get _ hi];simp [has,e]
 ·rw [if_neg (by omega),List.getElem?_eq_none (by rw [asC_length];omega),List.getElem?_eq_none (by rw [asC_length];omega)]
theorem asC_one (c:Str):(asC c).all Value.oneCell'=true:=by simp [asC,Value.oneCell']
theorem asC_nil:asC []=List.replicate 256 (.bool false):=by
 apply List.ext_getElem?
 intro i
 by_cases hi:i<256
 ·rw [asC_get _ hi,List.getElem?_replicate,if_pos hi];rfl
 ·rw [List.getElem?_eq_none (by rw [asC_length];omega),List.getElem?_eq_none (by simp;omega)]
attribute [local irreducible] asC
theorem makeSet_x (c:Str) (hc:∀ b ∈ c,b.toNat<128) (hl:c.length≤2 ^ 40) (h:Hp) (K:Value→Hp→Prop) (hk:K (.tuple #[.agg (asC c).toArray,.bool true]) h):X Tryz.prog 170 #[.string (bs c)] h K:=by
 refine fnv (args:=_) mixed [(2,2),(19,2)] [] [] Tryz.func170 rfl (by kernel_rfl) (cw_ ?_)
 refine loop_at [4] [2] (fun r vs cs h'=>h'=h∧∃ j:Nat,j≤c.length∧r=c.length - j∧vs=[.v (.int .i64 j)]∧cs=[some (asC (c.take j))]) c.length ⟨rfl,0,by omega,by omega,rfl,?_⟩ ?_
 ·rw [List.take_zero,asC_nil];rfl
 rintro r vs cs mm bx _ ⟨rfl,j,hj,rfl,rfl,rfl⟩
 conv=>whnf
 refine br_ (fun q1=>?_) fun q1=>?_
 ·have hjl:j<c.length:=by omega
  have hm:c[j] ∈ c:=List.getElem_mem hjl
  have hlt:=hc _ hm
  conv=>whnf
  refine ch_intro c[j] (by omega) (by simp) (cw_ ?_)
  refine bf_ ?_
  refine need_intro (by omega) (cw_ ?_)
  refine need_intro (by rw [asC_length];show 0+(c[j].toNat:Int).toNat*1+1≤256;omega) (cw_ ?_)
  refine ov_i64 (by omega) (cw_ ?_)
  refine ⟨c.length - (j+1),by omega,rfl,j+1,by omega,rfl,rfl,?_⟩
  show [some ((asC (c.take j)).set (0+(c[j].toNat:Int).toNat*1) (.bool true))]=_
  rw [show 0+(c[j].toNat:Int).toNat*1=c[j].toNat by omega,asC_set,List.take_append_getElem hjl]
 ·obtain rfl:j=c.length:=by omega
  rw [List.take_length]
  conv=>whnf
  refine need_intro (by rw [asC_length];decide) ?_
  have e:((asC c).drop 0).take Tryz.prog.types[231].size=asC c:=by rw [List.drop_zero,List.take_of_length_le (by rw [asC_length];decide)]
  rw [e]
  conv=>whnf
  refine bsel_true (by
   have h1:(Value.agg (asC c).toArray).cells.size=256:=by show (asC c).toArray.size=256;simp [asC_length]
   have h2:(Value.agg (asC c).toArray).cells.toList.all Value.oneCell'=true:=asC_one c
   rw [h1,h2];rfl) ?_
  conv=>whnf
  refine need_intro (by rw [asC_length];decide) ?_
  rw [show setL (asC c) 0 (Value.agg (asC c).toArray).cells.toList=asC c from setL_all rfl]
  conv=>whnf
  refine need_intro (by rw [asC_length];decide) ?_
  rw [e]
  conv=>whnf
  exact hk
end
end Go.Proofs.YtdhkjcdneidgaaaGreatDoor.Rg
namespace Go.Proofs.YtdhkjcdneidgaaaGreatDoor.Rg
open Go Go.Mid Go.RowKit
attribute [local irreducible] asC mid
section
variable {h:Hp} {K:Value→Hp→Prop}
def isOf (c:Str) (b:UInt8):Bool:=has c b.toNat
theorem aggBool:isAggT Tryz.prog 4=some false:=by kernel_rfl
theorem aggStr:isAggT Tryz.prog 9=some false:=by kernel_rfl
theorem aggU8:isAggT Tryz.prog 5=some false:=by kernel_rfl
theorem contains_x {a:Nat} {c:Str} (b:UInt8) (ha:h a=some (rowO 231 (asC c))) (hk:K (.bool (isOf c b)) h):X Tryz.prog 194 #[.pointer (some ⟨a,0,none⟩),.int .u8 b.toNat] h K:=by
 have hb:=b.toNat_lt
 refine fnv (args:=_) mixed [] [] [] Tryz.func194 rfl (by kernel_rfl) (cw_ ?_)
 refine need_intro (by omega) (cw_ ?_)
 refine ⟨_,loadC1 (i:=b.toNat) aggBool ha (asC_get c (by omega)),cw_ ?_⟩
 exact hk
theorem trimL_x {a:Nat} {c:Str} (ha:h a=some (rowO 231 (asC c))) (l:Str) (hl:l.length≤2 ^ 62) (hk:K (.string (bs (l.dropWhile (isOf c)))) h):X Tryz.prog 171 #[.string (bs l),.pointer (some ⟨a,0,none⟩)] h K:=by
 refine fnv (args:=_) mixed [] [] [] Tryz.func171 rfl (by kernel_rfl) (cw_ ?_)
 refine loop_at [0] [] (fun r vs _ h'=>h'=h∧∃ m:Str,m.length≤2 ^ 62∧r=m.length∧m.dropWhile (isOf c)=l.dropWhile (isOf c)∧vs=[.v (.string (bs m))]) l.length ⟨rfl,l,hl,rfl,rfl,rfl⟩ ?_
 rintro r vs cs mm bx _ ⟨rfl,m,hm,rfl,he,rfl⟩
 conv=>whnf
 refine br_ (fun q1=>?_) fun q1=>?_
 ·obtain ⟨b,m,rfl⟩:∃ b m',m=b :: m':=by
   cases m with
   | nil=>simp at q1
   | cons b m'=>exact ⟨b,m',rfl⟩
  conv=>whnf
  refine ch_intro (b) (by omega) (by rfl) (cw_ ?_)
  refine contains_x b ha (cw_ ?_)
  rw [List.dropWhile_cons] at he
  refine br_ (fun q2=>?_) fun q2=>?_
  ·conv=>whnf
   rw [if_neg (by simp [q2])] at he
   exact kq hk (sI he)
  ·conv=>whnf
   refine need_intro (by rw [bs_size,List.length_cons];omega) (cw_ ?_)
   refine sub_from (rfl) (cw_ ?_)
   rw [if_pos q2] at he
   exact ⟨m.length,by rw [List.length_cons];omega,rfl,m,by rw [List.length_cons] at hm;omega,rfl,he,rfl⟩
 ·conv=>whnf
  cases m with
  | nil=>exact kq hk (sI he)
  | cons b m'=>exfalso;rw [List.length_cons] at q1;omega
def trimB (p:UInt8→Bool) (l:Str):Str:=(l.reverse.dropWhile p).reverse
theorem trimB_snoc (p:UInt8→Bool) (l:Str) (b:UInt8):trimB p (l++[b])=if p b=true then trimB p l else l++[b]:=by
 unfold trimB
 rw [List.reverse_append,List.reverse_singleton,List.singleton_append,List.dropWhile_cons]
 by_cases h:p b=true <;> simp [h]
theorem trimR_x {a:Nat} {c:Str} (ha:h a=some (rowO 231 (asC c))) (l:Str) (hl:l.length≤2 ^ 62) (hk:K (.string (bs (trimB (isOf c) l))) h):X Tryz.prog 172 #[.string (bs l),.pointer (some ⟨a,0,none⟩)] h K:=by
 refine fnv (args:=_) mixed [] [] [] Tryz.func172 rfl (by kernel_rfl) (cw_ ?_)
 refine loop_at [0] [] (fun r vs _ h'=>h'=h∧∃ m:Str,m.length≤2 ^ 62∧r=m.length∧trimB (isOf c) m=trimB (isOf c) l∧vs=[.v (.string (bs m))]) l.length ⟨rfl,l,hl,rfl,rfl,rfl⟩ ?_
 rintro r vs cs mm bx _ ⟨rfl,m,hm,rfl,he,rfl⟩
 conv=>whnf
 refine br_ (fun q1=>?_) fun q1=>?_
 ·obtain ⟨m,b,rfl⟩:∃ m' b,m=m'++[b]:=⟨m.dropLast,m.getLast (fun e=>by subst e;simp at q1),(List.dropLast_concat_getLast _).symm⟩
  have hsz:(bs (m++[b])).size=m.length+1:=by rw [bs_size];simp
  rw [List.length_append,List.length_singleton] at hm
  conv=>whnf
  refine ov_i64 (by rw [hsz];omega) (cw_ ?_)
  refine ch_intro b (by rw [hsz];omega) (by rw [hsz,show (((m.length+1:Nat):Int) - 1).toNat=m.length by omega];simp) (cw_ ?_)
  refine contains_x b ha (cw_ ?_)
  rw [trimB_snoc] at he
  refine br_ (fun q2=>?_) fun q2=>?_
  ·conv=>whnf
   rw [if_neg (by simp [q2])] at he
   exact kq hk (sI he)
  ·conv=>whnf
   refine ov_i64 (by rw [hsz];omega) (cw_ ?_)
   refine need_intro (by rw [hsz];omega) (cw_ ?_)
   refine sub_by (m:=m) (by rw [hsz,show (((m.length+1:Nat):Int) - 1).toNat=m.length by omega,List.drop_zero,List.take_left'];rfl) (cw_ ?_)
   rw [if_pos q2] at he
   exact ⟨m.length,by rw [List.length_append,List.length_singleton];omega,rfl,m,by omega,rfl,he,rfl⟩
 ·conv=>whnf
  cases m with
  | nil=>exact kq hk (sI he)
  | cons b m'=>exfalso;rw [List.length_cons] at q1;omega
theorem trim_x (l c:Str) (hl:l.length≤2 ^ 61) (hc:∀ b ∈ c,b.toNat<128) (hc1:1<c.length) (hc2:c.length≤2 ^ 40) (hk:K (.string (bs ((trimB (isOf c) l).dropWhile (isOf c)))) h):X Tryz.prog 138 #[.string (bs l),.string (bs c)] h K:=by
 refine X.forget ?_
 refine fnv (args:=_) mixed [] [] [] Tryz.func138 rfl (by kernel_rfl) (cw_ ?_)
 refine seq_intro (cw_ ?_)
 refine br_ (fun q1=>?_) fun q1=>?_
 ·conv=>whnf
  subst q1
  exact ⟨h,Hp.le_refl _,hk⟩
 conv=>whnf
 refine seq_false (fun e=>by subst e;simp at hc1) ?_;conv=>whnf
 refine bf_ ?_ (by rw [bs_size];simp;omega)
 refine makeSet_x c hc hc2 _ _ (cw_ ?_)
 refine new_intro (o:=rowO 231 (List.replicate 256 (.bool false))) (fun a H0 n_a le_a at_a ot_a=>cw_ ?_)
 refine wr_intro (by exact storeA0 (z:=.agg (asC c).toArray) (by kernel_rfl) at_a rfl (asC_length c) (asC_one c)) (fun H at_H ot_H=>cw_ ?_)
 have hle:=Hp.le_st n_a le_a ot_H
 refine trimR_x at_H l (by omega) (cw_ ?_)
 refine trimL_x at_H _ (by have:=(List.dropWhile_sublist (isOf c) (l:=l.reverse)).length_le;rw [List.length_reverse] at this;show (trimB _ _).length≤_;unfold trimB;rw [List.length_reverse];omega) (cw_ ?_)
 exact ⟨h,hle,hk⟩
end
end Go.Proofs.YtdhkjcdneidgaaaGreatDoor.Rg
namespace Go.Proofs.YtdhkjcdneidgaaaGreatDoor.Rg
open Go Go.Mid Go.RowKit
attribute [local irreducible] asC mid
section
variable {h:Hp} {K:Value→Hp→Prop}
theorem valL_take (l:Str) {j:Nat} (hj:j<l.length):valL (l.take (j+1))=valL (l.take j)*10+((l[j].toNat:Int) - 48):=by
 rw [List.take_succ_eq_append_getElem hj,valL_snoc]
theorem atoi0_x (l:Str) (hd:∀ b ∈ l,dig b=true) (h0:0<l.length) (hl:l.length<19) (hk:K (.tuple #[.int .i64 (valL l),.nilIface]) h):X Tryz.prog 222 #[.string (bs l)] h K:=by
 have hdig:∀ j (hj:j<l.length),48≤(l[j].toNat:Int)∧(l[j].toNat:Int)≤57:=fun j hj=>by
  have:=hd _ (List.getElem_mem hj)
  unfold dig at this
  simp only [decide_eq_true_eq] at this
  omega
 have hval:∀ j,j≤18→0≤valL (l.take j)∧valL (l.take j)<10 ^ 18:=fun j hj=>by
  have h1:=valL_le (l.take j) fun b hb=>hd b (List.mem_of_mem_take hb)
  have h2:(10:Int) ^ (l.take j).length≤10 ^ 18:=by
   have:(10:Nat) ^ (l.take j).length≤10 ^ 18:=Nat.pow_le_pow_right (by decide) (by rw [List.length_take];omega)
   exact_mod_cast this
  omega
 have hg0:l[0]? = some l[0]:=List.getElem?_eq_getElem h0
 refine X.forget ?_
 refine fnv (args:=_) mixed [] [] [] Tryz.func222 rfl (by kernel_rfl) (cw_ ?_)
 refine bt_ ?_ (by rw [bs_size];simp;omega)
 refine bt_ ?_ (by rw [bs_size];simp;omega)
 refine ch_intro l[0] (by omega) hg0 (cw_ ?_)
 refine bf_ ?_ (by have:=hdig 0 h0;simp;omega)
 refine ch_intro l[0] (by omega) hg0 (cw_ ?_)
 refine bf_ ?_ (by have:=hdig 0 h0;simp;omega)
 refine toBytes (l:=l) rfl rfl rfl rfl rfl (fun b cap h1 hn hle ho hc=>cw_ ?_)
 refine loop_at [49,6] [] (fun r vs _ h'=>h'=h1∧∃ j:Nat,j≤l.length∧r=l.length - j∧vs=[.v (.int .i64 j),.v (.int .i64 (valL (l.take j)))]) l.length ⟨rfl,0,by omega,by omega,rfl⟩ ?_
 rintro r vs cs mm bx _ ⟨rfl,j,hj,rfl,rfl⟩
 conv=>whnf
 refine br_ (fun q1=>?_) fun q1=>?_
 ·have hjl:j<l.length:=by omega
  have hv:=hval j (by omega)
  have hv2:=hval (j+1) (by omega)
  rw [valL_take l hjl] at hv2
  have hdj:=hdig j hjl
  have hcj:=hc j _ (List.getElem?_eq_getElem hjl)
  conv=>whnf
  refine need_intro (by omega) (cw_ ?_)
  refine ⟨_,(by rw [loadH_cell aggU8,addr_add,Nat.zero_add,Nat.mul_one];exact hcj:loadH Tryz.prog 5 _ ((⟨b,0,none⟩:Addr).add (j*1))=some (byV l[j])),cw_ ?_⟩
  refine ov_u8 (by omega) (cw_ ?_)
  refine bf_ ?_
  refine ov_i64 (by omega) (cw_ ?_)
  refine ov_i64 (by omega) (cw_ ?_)
  refine ov_i64 (by omega) (cw_ ?_)
  refine ov_i64 (by omega) (cw_ ?_)
  refine ⟨l.length - (j+1),by omega,rfl,j+1,by omega,rfl,?_⟩
  rw [valL_take l hjl]
  rfl
 ·obtain rfl:j=l.length:=by omega
  rw [List.take_length]
  conv=>whnf
  refine ch_intro l[0] (by omega) hg0 (cw_ ?_)
  refine bf_ ?_ (by have:=hdig 0 h0;simp;omega)
  exact ⟨h,hle,hk⟩
theorem atoi_x (l:Str) (hd:∀ b ∈ l,dig b=true) (h0:0<l.length) (hl:l.length<19) (hk:K (.tuple #[.int .i64 (valL l),.nilIface]) h):X Tryz.prog 209 #[.string (bs l)] h K:=by
 refine fnv (args:=_) mixed [] [] [] Tryz.func209 rfl (by kernel_rfl) (cw_ ?_)
 refine atoi0_x l hd h0 hl (cw_ ?_)
 exact hk
def dgt (n:Nat):UInt8:=UInt8.ofNat (48+n)
def digN (n:Nat):Str:=if n<10 then [dgt n] else [dgt (n / 10),dgt (n % 10)]
theorem small1:∀ n:Nat,n<10→(([48,49,50,51,52,53,54,55,56,57,97,98,99,100,101,102,103,104,105,106,107,108,109,110,111,112,113,114,115,116,117,118,119,120,121,122]:Str).take ((n:Int)+1).toNat).drop (n:Int).toNat=digN n:=by decide +kernel
def smalls:Str:=(List.range 100).flatMap fun n=>[dgt (n / 10),dgt (n % 10)]
theorem small2:∀ n:Nat,n<100→10≤n→(smalls.take ((n:Int)*2+2).toNat).drop ((n:Int)*2).toNat=digN n:=by decide +kernel
theorem small_x (n:Nat) (hn:n<100) (hk:K (.string (bs (digN n))) h):X Tryz.prog 202 #[.int .i64 n] h K:=by
 refine fnv (args:=_) mixed [] [] [] Tryz.func202 rfl (by kernel_rfl) (cw_ ?_)
 refine br_ (fun q1=>?_) fun q1=>?_
 ·have hn:n<10:=by omega
  conv=>whnf
  refine n_ ?_
  refine need_intro ⟨by omega,by show _≤((36:Nat):Int);omega⟩ ?_
  conv=>whnf
  refine need_intro (by omega) (cw_ ?_)
  refine sub_by (small1 n hn) (cw_ ?_)
  exact hk
 ·conv=>whnf
  refine n_ ?_
  refine n_ ?_
  refine n_ ?_
  refine need_intro ⟨by omega,by show _≤((200:Nat):Int);omega⟩ ?_
  conv=>whnf
  refine need_intro (by omega) (cw_ ?_)
  refine sub_by (m:=digN n) ?_ ?_
  ·exact small2 n hn (by omega)
  conv=>whnf
  exact hk
end
end Go.Proofs.YtdhkjcdneidgaaaGreatDoor.Rg
namespace Go.Proofs.YtdhkjcdneidgaaaGreatDoor.Rg
open Go Go.Mid Go.RowKit
def numI (l:Str) (most:Int):Option Int :=
 if l=[]∨2<l.length∨(l.head? = some 48∧l≠[48])∨¬ (∀ b ∈ l,dig b=true) then none else if valL l>most then none else some (valL l)
def sZero:Str:=[122,101,114,111]
def sRa:Str:=[114,97]
def sSp:Str:=[115,112]
def sGp:Str:=[103,112]
def sTp:Str:=[116,112]
def sFp:Str:=[102,112]
def ofX (k:Int):Int:=k
def ofA (k:Int):Int:=10+k
def ofS (k:Int):Int:=if k<2 then 8+k else 16+k
def ofT (k:Int):Int:=if k<3 then 5+k else 25+k
def findI (l:Str):Option Int :=
 if l=sZero then some 0 else if l=sRa then some 1 else if l=sSp then some 2 else if l=sGp then some 3 else if l=sTp then some 4 else if l=sFp then some 8 else
 match l with
 | []=>none
 | c :: r=>if c=120 then (numI r 31).map ofX else if c=97 then (numI r 7).map ofA else if c=115 then (numI r 11).map ofS else if c=116 then (numI r 6).map ofT else none
def nameN (i:Nat):Str :=
 if i<5 then [sZero,sRa,sSp,sGp,sTp].getD i [] else if i<8 then 116 :: digN (i - 5) else if i<10 then 115 :: digN (i - 8) else if i<18 then 97 :: digN (i - 10) else if i<28 then 115 :: digN (i - 16) else 116 :: digN (i - 25)
def keys (i:Nat):List Str:=[nameN i,120 :: digN i]++if i=8 then [sFp] else []
def refI (l:Str):Option Nat:=(List.range 32).find? fun i=>decide (l ∈ keys i)
theorem dig_num {b:UInt8} (h:dig b=true):∃ n,n<10∧b=dgt n∧((b.toNat:Int) - 48)=n:=by
 unfold dig at h
 simp only [decide_eq_true_eq] at h
 refine ⟨b.toNat - 48,by omega,?_,by omega⟩
 unfold dgt
 rw [show 48+(b.toNat - 48)=b.toNat by omega]
 simp
theorem numI_some {l:Str} {m n:Int} (h:numI l m=some n):∃ k:Nat,k<100∧n=k∧n≤m∧l=digN k:=by
 unfold numI at h
 split at h
 ·cases h
 rename_i hc
 split at h
 ·cases h
 rename_i hm
 cases h
 match l with
 | []=>exact absurd (.inl rfl) hc
 | [a] =>
  have hd:∀ b ∈ [a],dig b=true:=Classical.byContradiction fun hx=>hc (.inr (.inr (.inr hx)))
  obtain ⟨x,hx,ha,hv⟩:=dig_num (hd a (by simp))
  have e:valL [a]=x:=by unfold valL;simp only [List.foldl_cons,List.foldl_nil];omega
  refine ⟨x,by omega,e,by omega,?_⟩
  unfold digN;rw [if_pos hx,ha]
 | [a,b] =>
  have hd:∀ y ∈ [a,b],dig y=true:=Classical.byContradiction fun hx=>hc (.inr (.inr (.inr hx)))
  obtain ⟨x,hx,ha,hv⟩:=dig_num (hd a (by simp))
  obtain ⟨y,hy,hb,hw⟩:=dig_num (hd b (by simp))
  have h0:x≠0:=fun h0=>by
   subst h0
   exact hc (.inr (.inr (.inl ⟨by rw [ha];rfl,by simp⟩)))
  have e:valL [a,b]=10*x+y:=by unfold valL;simp only [List.foldl_cons,List.foldl_nil];omega
  refine ⟨10*x+y,by omega,by rw [e];omega,by omega,?_⟩
  unfold digN
  rw [if_neg (by omega),show (10*x+y) / 10=x by omega,show (10*x+y) % 10=y by omega,ha,hb]
 | a :: b :: c :: r=>exact absurd (.inr (.inl (by simp only [List.length_cons];omega))) hc
set_option maxRecDepth 100000 in
theorem refX:∀ k:Nat,k<100→(k:Int)≤31→refI (120 :: digN k)=some k:=by decide +kernel
set_option maxRecDepth 100000 in
theorem refA:∀ k:Nat,k<100→(k:Int)≤7→refI (97 :: digN k)=some (10+k):=by decide +kernel
set_option maxRecDepth 100000 in
theorem refS:∀ k:Nat,k<100→(k:Int)≤11→refI (115 :: digN k)=some (if k<2 then 8+k else 16+k):=by decide +kernel
set_option maxRecDepth 100000 in
theorem refT:∀ k:Nat,k<100→(k:Int)≤6→refI (116 :: digN k)=some (if k<3 then 5+k else 25+k):=by decide +kernel
set_option maxRecDepth 100000 in
theorem findKeys:∀ i:Nat,i<32→∀ k ∈ keys i,findI k=some (i:Int):=by decide +kernel
theorem find_some {l:Str} {n:Int} (h:findI l=some n):∃ k:Nat,n=k∧refI l=some k:=by
 unfold findI at h
 (repeat' split at h) <;> first
  | (cases h;done)
  | (rename_i hx;subst hx;cases h;exact ⟨_,rfl,by decide +kernel⟩)
  | skip
 ·rename_i hx;rename_i c;subst hx
  obtain ⟨y,hy,rfl⟩:=Option.map_eq_some_iff.1 h
  obtain ⟨k,hk,rfl,hm,rfl⟩:=numI_some hy
  exact ⟨k,rfl,refX k hk hm⟩
 ·rename_i hx;subst hx
  obtain ⟨y,hy,rfl⟩:=Option.map_eq_some_iff.1 h
  obtain ⟨k,hk,rfl,hm,rfl⟩:=numI_some hy
  exact ⟨10+k,rfl,refA k hk hm⟩
 ·rename_i hx;subst hx
  obtain ⟨y,hy,rfl⟩:=Option.map_eq_some_iff.1 h
  obtain ⟨k,hk,rfl,hm,rfl⟩:=numI_some hy
  refine ⟨_,?_,refS k hk hm⟩
  unfold ofS;split <;> split <;> omega
 ·rename_i hx;subst hx
  obtain ⟨y,hy,rfl⟩:=Option.map_eq_some_iff.1 h
  obtain ⟨k,hk,rfl,hm,rfl⟩:=numI_some hy
  refine ⟨_,?_,refT k hk hm⟩
  unfold ofT;split <;> split <;> omega
theorem find_ref (l:Str):findI l=(refI l).map fun (k:Nat)=>(k:Int):=by
 cases h:findI l with
 | some n =>
  obtain ⟨k,rfl,hk⟩:=find_some h
  rw [hk];rfl
 | none =>
  cases hr:refI l with
  | none=>rfl
  | some k =>
   have hm:=List.mem_of_find?_eq_some hr
   have hp:=List.find?_some hr
   rw [findKeys k (List.mem_range.1 hm) l (of_decide_eq_true hp)] at h
   cases h
end Go.Proofs.YtdhkjcdneidgaaaGreatDoor.Rg
