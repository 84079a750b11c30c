/-
  The parts of mstatus.
-/
import Derived.Test.YtdhlpighdlnohaaGreatLib0
import Derived.Test.YtdhlpighdlnohaaGreatWoCn
import Derived.Test.YtdhlpighdlnohaaGreatBitP
set_option linter.unusedSimpArgs false
set_option linter.unusedVariables false
set_option maxHeartbeats 8000000
set_option maxRecDepth 10000
set_option linter.unusedSimpArgs false
set_option linter.unusedVariables false
namespace Go.Proofs.YtdhlpighdlnohaaGreat
open Go Go.Bits
structure Sho where
 req:Rq
 mask:Nat
 next:Int
structure Tn where
 at_:Int
 lines:Nat
 wk:Wk
 word:Nat
 x:Ins
 e:Ef
 ask:Ak
 shot:Sho
def Ins.zero:Ins:=⟨0,0,0,0,0,0,false,false⟩
def Sho.zero:Sho:=⟨.zero,0,0⟩
def Tn.zero:Tn:=⟨0,0,.zero,0,.zero,.zero,.zero,.zero⟩
structure Hd where
 id:Int
 c:Cn
 r:List Nat
 f:Csf
 pc:Nat
 priv:Int
 L:List En
 live:Bool
 parked:Bool
 turns:Int
 retired:Int
 t:Tn
 told:List Ak
structure TlbF where
 find:List En→Int→Nat→Option En
 add:Int→List En→En→List En
 forgets:Rq→En→Bool
section
variable (T:TlbF)
def setR (r:List Nat) (i:Int) (v:Nat):List Nat:=if 1≤i∧i<32 then r.set i.toNat v else r
def Hd.note (h:Hd) (a:Ak):Hd:={ h with told:=h.told++[a] }
def Hd.forget (h:Hd) (q:Rq):Hd:=({ h with L:=h.L.filter fun e=>!T.forgets q e }).note { Ak.zero with kind:=17,req:=q }
def Hd.drain (h:Hd) (m:List Rq):Hd:=m.foldl (fun h q=>if q.s then h.forget T q else h) h
def Hd.fin (h:Hd) (ret:Bool):Hd:={ h with f:=h.f.turn ret,turns:=IntKind.i64.wrap (h.turns+1),retired:=if ret then IntKind.i64.wrap (h.retired+1) else h.retired,t:=.zero }
def Hd.retire (h:Hd) (next:Nat):Hd:=({ h with pc:=next }).fin true
def Hd.trap (h:Hd) (c:Cau) (tval:Nat):Hd:=({ h with priv:=trapTo h.f c h.priv,pc:=trapPc h.f c h.priv h.pc tval,f:=trapF h.f c h.priv h.pc tval,live:=false }).fin false
def Hd.illegal (h:Hd):Hd:=h.trap ⟨false,2⟩ h.t.word
def rootN (satp:Nat):Nat:=satp % 2 ^ 44
def asidN (satp:Nat):Nat:=satp / 2 ^ 44 % 65536
def transB (satp:Nat) (priv:Int):Bool:=decide (satp / 2 ^ 60=8) && decide (priv=0∨priv=1)
def Hd.quest (h:Hd) (va:Nat) (access priv:Int):Qu:=⟨h.c.lines,rootN (h.f.at 384),va,access,priv,bitB (h.f.at 768) 18,bitB (h.f.at 768) 19⟩
def usableB (e:En) (q:Qu):Bool:=decide (markN e.pte q.access=e.pte) && letsP e.pte q.access q.priv q.sum q.mxr
def frameN (p:Nat) (l:Int) (va:Nat):Nat:=if 0≤l∧l≤2 then ppnN p*2 ^ 12 / 2 ^ (12+9*l.toNat)*2 ^ (12+9*l.toNat)+va % 2 ^ (12+9*l.toNat) else 0
def Hd.use (h:Hd) (e:En) (va:Nat):Hd:=h.note { Ak.zero with kind:=16,addr:=va,ent:=e }
def Hd.beginW (h:Hd) (va:Nat) (access priv:Int):Hd:={ h with t:={ h.t with wk:=.begin (h.quest va access priv) } }
def Hd.translate (h:Hd) (va:Nat) (access priv:Int):Hd×Option Nat :=
 if !transB (h.f.at 384) priv then (h,some va)
 else match T.find h.L (asidN (h.f.at 384)) va with
  | some e=>if usableB e (h.quest va access priv) then (h.use e va,some (frameN e.pte e.level va)) else (h.beginW va access priv,none)
  | none=>(h.beginW va access priv,none)
def accCode (access:Int) (a b c:Int):Cau:=⟨false,if access=0 then a else if access=1 then b else c⟩
def Hd.filled (h:Hd):En:={ h.t.wk.found with asid:=asidN (h.f.at 384) }
def Hd.walked (h:Hd):Hd×Option Nat :=
 if h.t.wk.end_=0 then (h,none)
 else if h.t.wk.end_=2 then (h.trap (accCode h.t.wk.q.access 12 13 15) h.t.wk.q.va,none)
 else if h.t.wk.end_=3 then (h.trap (accCode h.t.wk.q.access 1 5 7) h.t.wk.q.va,none)
 else ((({ h with L:=T.add h.c.tlb h.L h.filled }).note { Ak.zero with kind:=15,addr:=h.t.wk.q.va,ent:=h.filled }).use h.filled h.t.wk.q.va,some (frameN h.filled.pte h.filled.level h.t.wk.q.va))
def memB (lines:Int) (addr:Nat) (n:Int):Bool:=decide (2147483648≤addr∧(addr:Int) - 2147483648<64*lines∧n≤64*lines - ((addr:Int) - 2147483648))
def Hd.fetchAt (h:Hd) (pa:Nat):Hd :=
 if memB h.c.lines pa 4 then { h with t:={ h.t with at_:=3,ask:={ Ak.zero with kind:=1,addr:=pa,size:=4 } } } else h.trap ⟨false,1⟩ h.pc
def Hd.fetchWalked (h:Hd):Hd:=match h.walked T with
 | (h,some pa)=>h.fetchAt pa
 | (h,none)=>h
def Hd.fetch (h:Hd):Hd:=match h.translate T h.pc 0 h.priv with
 | (h,some pa)=>h.fetchAt pa
 | (h,none)=>({ h with t:={ h.t with at_:=2 } }).fetchWalked T
def splN (va:Nat) (size:Int):Nat:=if size<1∨8<size∨size≤((4096 - va % 4096:Nat):Int) then 0 else 4096 - va % 4096
def fitsB (fits:Int→Nat→Int→Bool) (c:Cn) (a:Ak):Bool:=decide (a.cut=0) && fits c.harts a.addr a.size
variable (fits:Int→Nat→Int→Bool)
def Hd.inMem (h:Hd):Bool:=memB h.c.lines h.t.ask.addr (if 0<h.t.ask.cut then h.t.ask.cut else h.t.ask.size) && (decide (h.t.ask.cut=0) || memB h.c.lines h.t.ask.next (h.t.ask.size - h.t.ask.cut))
def Hd.opAsk (h:Hd):Ak:=if h.t.ask.kind=6 then { h.t.ask with live:=h.live,op:=h.t.x.op } else if h.t.ask.kind=4∨h.t.ask.kind=5 then { h.t.ask with op:=h.t.x.op } else h.t.ask
def Hd.reach (h:Hd):Hd :=
 let a:=h.t.ask
 if h.inMem then
  { h with t:={ h.t with at_:=5,ask:=h.opAsk } }
 else if a.kind=2∧fitsB fits h.c a=true then { h with t:={ h.t with at_:=5,ask:={ a with kind:=9 } } }
 else if a.kind=3∧fitsB fits h.c a=true then { h with t:={ h.t with at_:=5,ask:={ a with kind:=10 } } }
 else h.trap (accCode h.t.e.access 1 5 7) h.t.e.va
def Hd.partAt2 (h:Hd) (pa:Nat):Hd:=({ h with t:={ h.t with ask:={ h.t.ask with next:=pa } } }).reach fits
def Hd.dataWalked2 (h:Hd):Hd:=match h.walked T with
 | (h,some pa)=>h.partAt2 fits pa
 | (h,none)=>h
def Hd.part2 (h:Hd) (va:Nat):Hd:=match h.translate T va h.t.e.access (dataP (h.f.at 768) h.priv) with
 | (h,some pa)=>h.partAt2 fits pa
 | (h,none)=>({ h with t:={ h.t with at_:=4 } }).dataWalked2 T fits
def Hd.partAt (h:Hd) (pa:Nat):Hd :=
 if 0<h.t.ask.cut then h.partAt2 fits pa
 else if 0<splN h.t.e.va h.t.e.size then ({ h with t:={ h.t with ask:={ h.t.ask with addr:=pa,cut:=splN h.t.e.va h.t.e.size } } }).part2 T fits ((h.t.e.va+splN h.t.e.va h.t.e.size) % 18446744073709551616)
 else ({ h with t:={ h.t with ask:={ h.t.ask with addr:=pa } } }).reach fits
def Hd.dataWalked (h:Hd):Hd:=match h.walked T with
 | (h,some pa)=>h.partAt T fits pa
 | (h,none)=>h
def Hd.part (h:Hd) (va:Nat):Hd:=match h.translate T va h.t.e.access (dataP (h.f.at 768) h.priv) with
 | (h,some pa)=>h.partAt T fits pa
 | (h,none)=>({ h with t:={ h.t with at_:=4 } }).dataWalked T fits
def Hd.access (h:Hd):Hd:=({ h with t:={ h.t with ask:={ Ak.zero with kind:=h.t.e.ask,size:=h.t.e.size,data:=h.t.e.data } } }).part T fits h.t.e.va
def Hd.landed (h:Hd) (data:Nat) (good:Bool):Hd :=
 let h1:={ h with r:=setR h.r h.t.e.rd (landsN h.t.x.op data good),live:=if h.t.ask.kind=5 then true else if h.t.ask.kind=6 then false else h.live }
 h1.retire h.t.e.next
def afterN (mask:Nat):Nat→Nat→Option Nat
 | 0,_=>none
 | f+1,g=>if mask / 2 ^ g % 2=1 then some g else afterN mask f (g+1)
def Sho.after (s:Sho) (g:Nat):Option Nat:=afterN s.mask (8 - g) g
def Hd.hit (h:Hd):Hd:=({ h with r:=setR h.r h.t.x.rd 0 }).retire (n4 h.pc)
def plainQ (r:Rq):Rq:={ r with va:=if r.v then r.va else 0,asid:=if r.a then r.asid else 0 }
def Hd.operand (h:Hd):Nat:=if 92≤h.t.x.op∧h.t.x.op≤94 then (h.t.x.rs1 % 18446744073709551616).toNat else regN h.r h.t.x.rs1
def Hd.shootM (h:Hd):Nat:=if h.t.x.op=91∨h.t.x.op=94 then 0 else h.operand
def Hd.shootR (h:Hd):Rq:=plainQ ⟨true,decide (h.shootM / 2 ^ 8 % 2=1),decide (h.shootM / 2 ^ 9 % 2=1),h.f.at 1472,IntKind.i64.wrap (h.f.at 1473:Nat)⟩
def Hd.shoot (h:Hd):Hd :=
 let h1:=if h.shootM / 2 ^ h.id.toNat % 2=1 then h.forget T h.shootR else h
 let s:Sho:=⟨h.shootR,andN (h.shootM % 2 ^ h.c.harts.toNat) (2 ^ h.id.toNat),0⟩
 match s.after 0 with
 | none=>({ h1 with t:={ h1.t with shot:=s } }).hit
 | some g=>{ h1 with t:={ h1.t with shot:={ s with next:=g },at_:=7 } }
def Hd.posted (h:Hd):Hd:=match h.t.shot.after (h.t.shot.next+1).toNat with
 | some g=>{ h with t:={ h.t with shot:={ h.t.shot with next:=g } } }
 | none=>match h.t.shot.after 0 with
  | some g=>{ h with t:={ h.t with shot:={ h.t.shot with next:=g },at_:=8 } }
  | none=>{ h with t:={ h.t with at_:=8 } }
def Hd.checked (h:Hd) (good:Bool):Hd :=
 if good then match h.t.shot.after (h.t.shot.next+1).toNat with
  | some g=>{ h with t:={ h.t with shot:={ h.t.shot with next:=g },at_:=8 } }
  | none=>h.hit
 else { h with t:={ h.t with at_:=8 } }
def Hd.control (h:Hd):Hd :=
 let wr:=writesB h.t.x.op h.t.x.rs1
 if !h.f.may h.t.x.csr h.priv wr then h.illegal
 else if h.t.x.csr=3073 then { h with t:={ h.t with at_:=6,ask:={ Ak.zero with kind:=9,addr:=33603576,size:=8 } } }
 else if h.t.x.csr=1474∧wr=true then h.shoot T
 else ({ h with r:=setR h.r h.t.x.rd (h.f.doR h.t.x.op h.t.x.csr h.t.lines),f:=h.f.doF h.t.x.op h.t.x.csr h.t.x.rs1 h.operand }).retire (n4 h.pc)
def Hd.leave (h:Hd) (a:Int):Hd :=
 let f:=h.f.set 768 (leaveW (h.f.at 768) a)
 ({ h with priv:=leaveP (h.f.at 768) a,f:=f,pc:=f.at (if a=1 then 321 else 833) }).fin true
def Hd.fence (h:Hd):Hd:=(h.forget T (plainQ ⟨true,decide (h.t.x.rs1≠0),decide (h.t.x.rs2≠0),regN h.r h.t.x.rs1,(regN h.r h.t.x.rs2 % 65536:Nat)⟩)).retire (n4 h.pc)
def Hd.lets (h:Hd) (bit:Nat):Bool:=decide (h.priv=3) || (decide (h.priv=1) && !bitB (h.f.at 768) bit)
def Hd.system (h:Hd):Hd :=
 if csrOpB h.t.x.op then h.control T
 else if h.t.x.op=95∧h.priv=3 then h.leave 3
 else if h.t.x.op=96∧h.lets 22=true then h.leave 1
 else if h.t.x.op=97∧h.lets 21=true then ({ h with parked:=true }).retire (n4 h.pc)
 else if h.t.x.op=98∧h.lets 20=true then h.fence T
 else h.illegal
variable (dec:Nat→Option Ins)
def Hd.decode (h:Hd):Hd:=match dec h.t.word with
 | none=>h.illegal
 | some x =>
  let e:=execE x h.pc h.r h.priv
  let h1:={ h with t:={ h.t with x:=x,e:=e } }
  if e.kind=1 then ({ h1 with r:=setR h.r e.rd e.value }).retire e.next
  else if e.kind=2 then h1.trap e.cause e.tval
  else if e.kind=3 then h1.access T fits
  else h1.system T
def Hd.wake (h:Hd):Hd :=
 if h.parked && decide (waitN h.f h.t.lines=0) then { h with t:=.zero }
 else match irqN h.f h.priv h.t.lines with
  | some c=>({ h with parked:=false }).trap c 0
  | none=>({ h with parked:=false }).fetch T
def Hd.ask (h:Hd):Ak :=
 if h.t.at_=0∨h.t.at_=8 then { Ak.zero with kind:=12 }
 else if h.t.at_=1 then { Ak.zero with kind:=11 }
 else if h.t.at_=2∨h.t.at_=4 then h.t.wk.ask
 else if h.t.at_=7 then { Ak.zero with kind:=13,hart:=h.t.shot.next,req:=h.t.shot.req }
 else if h.t.at_=9 then { Ak.zero with kind:=14,hart:=h.t.shot.next }
 else h.t.ask
def Hd.go (h:Hd) (b:An):Hd :=
 if h.t.at_=0 then (let h1:=h.drain T b.ms;{ h1 with t:={ h1.t with at_:=1 } })
 else if h.t.at_=1 then ({ h with t:={ h.t with lines:=b.data } }).wake T
 else if h.t.at_=2 then ({ h with t:={ h.t with wk:=h.t.wk.tell b.data b.good } }).fetchWalked T
 else if h.t.at_=3 then ({ h with t:={ h.t with word:=b.data % 4294967296 } }).decode T fits dec
 else if h.t.at_=4 then ({ h with t:={ h.t with wk:=h.t.wk.tell b.data b.good } }).dataWalked T fits
 else if h.t.at_=5 then h.landed b.data b.good
 else if h.t.at_=6 then ({ h with r:=setR h.r h.t.x.rd b.data }).retire (n4 h.pc)
 else if h.t.at_=7 then h.posted
 else if h.t.at_=8 then (let h1:=h.drain T b.ms;{ h1 with t:={ h1.t with at_:=9 } })
 else h.checked b.good
def Hd.tell (h:Hd) (b:An):Hd×List Ak:=let h1:=h.go T fits dec b;({ h1 with told:=[] },h1.told)
end
end Go.Proofs.YtdhlpighdlnohaaGreat
namespace Go.Proofs.YtdhlpighdlnohaaGreat
open Go Go.Mid Go.RowKit
attribute [local irreducible] mid
structure Pa (h:Hp) (b o:Nat) (el:TypeId) (A cs B:List Value):Prop where
 row:h b=some (rowO el (A++(cs++B)))
 len:A.length=o
theorem Pa.le {h h':Hp} {b o:Nat} {el:TypeId} {A cs B:List Value} (p:Pa h b o el A cs B) (hle:h.le h'):Pa h' b o el A cs B:=⟨hle _ _ p.row,p.len⟩
theorem pa_get {A cs B:List Value} {o i:Nat} {v:Value} (hA:A.length=o) (hi:cs[i]? = some v):(A++(cs++B))[o+i]? = some v:=by
 subst hA
 rw [List.getElem?_append_right (by omega),Nat.add_sub_cancel_left,List.getElem?_append_left (List.getElem?_eq_some_iff.1 hi).1,hi]
theorem pa_set {A cs B:List Value} {o i:Nat} {v:Value} (hA:A.length=o) (hi:i<cs.length):(A++(cs++B)).set (o+i) v=A++(cs.set i v++B):=by
 subst hA
 rw [List.set_append_right _ _ (by omega),Nat.add_sub_cancel_left,List.set_append_left _ _ hi]
theorem pa_cut {A cs B x:List Value} {o i n:Nat} (hA:A.length=o) (hx:(cs.drop i).take n=x) (hl:x.length=n):((A++(cs++B)).drop (o+i)).take n=x:=by
 subst hA
 rw [← List.drop_drop,List.drop_left,List.drop_append,List.take_append]
 have h1:(cs.drop i).length=cs.length - i:=List.length_drop ..
 by_cases hn:i≤cs.length
 ·have:n≤cs.length - i:=by rw [← hx,List.length_take,h1] at hl;omega
  rw [hx,show n - (cs.drop i).length=0 by omega,List.take_zero,List.append_nil]
 ·have h0:n=0:=by rw [← hx,List.length_take,h1] at hl;omega
  subst h0
  rw [List.take_zero] at hx
  rw [← hx]
  simp
theorem setL_in {A cs B y:List Value} {i:Nat} (h:i+y.length≤cs.length):setL (A++(cs++B)) (A.length+i) y=A++(setL cs i y++B):=by
 induction y generalizing i cs with
 | nil=>rfl
 | cons v y ih =>
  simp only [List.length_cons] at h
  rw [setL,setL,pa_set rfl (by omega),Nat.add_assoc,ih (by rw [List.length_set];omega)]
theorem pa_setL {A cs B y cs':List Value} {o i:Nat} (hA:A.length=o) (h:i+y.length≤cs.length) (e:setL cs i y=cs'):setL (A++(cs++B)) (o+i) y=A++(cs'++B):=by
 subst hA
 rw [setL_in h,e]
section
variable {P:Program} {t el:TypeId} {h:Hp} {b o:Nat} {A cs B:List Value}
theorem Pa.ld (p:Pa h b o el A cs B) (i:Nat) {v:Value} {a:Addr} (ht:isAggT P t=some false) (hi:cs[i]? = some v) (ha:a=⟨b,o+i,none⟩:=by first | rfl | (simp [addr_add];done) | (simp [addr_add];omega)):loadH P t h a=some v :=
 loadCA ha ht p.row (pa_get p.len hi)
theorem Pa.ldA (p:Pa h b o el A cs B) (i:Nat) {n:Nat} {x:List Value} {a:Addr} (ht:isAggT P t=some true) (hn:sizeT P t=some n) (hx:(cs.drop i).take n=x) (hl:x.length=n) (hpos:0<n:=by decide) (ha:a=⟨b,o+i,none⟩:=by first | rfl | (simp [addr_add];done) | (simp [addr_add];omega)):loadH P t h a=some (.agg x.toArray) :=
 loadPA ha ht hn p.row (pa_cut p.len hx hl) hl hpos
theorem Pa.st (p:Pa h b o el A cs B) (i:Nat) {z:Value} {a:Addr} (ht:sizeT P t=some 1) (hi:i<cs.length) (hz:z.cells.toList=[z]) (h1:z.oneCell'=true) (ha:a=⟨b,o+i,none⟩:=by first | rfl | (simp [addr_add];done) | (simp [addr_add];omega)):storeH P t h a z=some (b,rowO el (A++(cs.set i z++B))) :=
 storeCA ha ht p.row (by rw [List.length_append,List.length_append,p.len];omega) (pa_set p.len hi) hz h1
theorem Pa.stA (p:Pa h b o el A cs B) (i:Nat) {n:Nat} {z:Value} {cs':List Value} {a:Addr} (hn:sizeT P t=some n) (hi:i+n≤cs.length) (e:setL cs i z.cells.toList=cs') (hz:z.cells.toList.length=n) (h1:z.cells.toList.all Value.oneCell'=true) (ha:a=⟨b,o+i,none⟩:=by first | rfl | (simp [addr_add];done) | (simp [addr_add];omega)):storeH P t h a z=some (b,rowO el (A++(cs'++B))) :=
 storePA ha hn p.row (by rw [List.length_append,List.length_append,p.len];omega) (pa_setL p.len (by rw [hz];exact hi) e) hz h1
end
end Go.Proofs.YtdhlpighdlnohaaGreat
namespace Go.Bits
def placesL:Nat→List Int
 | 2=>[20,21,22,23,24,25,26,27,28,29,30,31]
 | 3=>[7,8,9,10,11,25,26,27,28,29,30,31]
 | 4=>[-1,8,9,10,11,25,26,27,28,29,30,7,31]
 | 5=>[-1,-1,-1,-1,-1,-1,-1,-1,-1,-1,-1,-1,12,13,14,15,16,17,18,19,20,21,22,23,24,25,26,27,28,29,30,31]
 | 6=>[-1,21,22,23,24,25,26,27,28,29,30,20,12,13,14,15,16,17,18,19,31]
 | 7=>[20,21,22,23,24,25]
 | 8=>[20,21,22,23,24]
 | _=>[]
def signedB:Nat→Bool
 | 2 | 3 | 4 | 5 | 6=>true
 | _=>false
def immBits (ps:List Int) (w:Nat):List Nat:=ps.map fun p=>if 0≤p then bitN w p.toNat else 0
def immN (f w:Nat):Nat:=if signedB f then signN (ofL (immBits (placesL f) w)) (placesL f).length else ofL (immBits (placesL f) w)
def once:List Int→Bool
 | []=>true
 | p :: ps=>(decide (p<0) || !(ps.contains p)) && decide (p<64) && once ps
theorem immBits_lt (ps:List Int) (w:Nat):ofL (immBits ps w)<2 ^ ps.length:=by
 have:=ofL_lt (immBits ps w) (fun b hb=>by obtain ⟨p,_,rfl⟩:=List.mem_map.1 hb;split <;> first | exact bitN_lt _ _ | decide)
 unfold immBits at this ⊢
 rwa [List.length_map] at this
def i64N (w:Nat):Int:=if w<9223372036854775808 then w else (w:Int) - 18446744073709551616
def fits (f:Nat) (n:Int):Bool:=match f with
 | 2 | 3=>decide (-2048≤n∧n≤2047)
 | 4=>decide (-4096≤n∧n≤4095∧n % 2=0)
 | 5=>decide (-2147483648≤n∧n≤2147483647∧n % 4096=0)
 | 6=>decide (-1048576≤n∧n<1048576∧n % 2=0)
 | 7=>decide (0≤n∧n≤63)
 | 8=>decide (0≤n∧n≤31)
 | _=>true
end Go.Bits
namespace Go.Proofs.YtdhlpighdlnohaaGreat
open Go Go.Mid Go.RowKit Go.Bits
attribute [local irreducible] mid
abbrev ux (n:Nat):Value:=.int .u64 n
abbrev wx (n:Nat):Value:=.int .u32 n
theorem ov_is {x y:Int} {K:Int→Prop} (e:x=y) (h : -9223372036854775808≤y∧y≤9223372036854775807) (hk:K y):ovK .i64 x K:=by
 subst e;exact ov_i64 h hk
theorem wrapI64N (w:Nat) (hw:w<2 ^ 64):IntKind.i64.wrap (w:Int)=i64N w:=by
 unfold i64N
 rw [IntKind.wrap_i64]
 split <;> omega
section
variable {h:Hp} {K:Value→Hp→Prop}
theorem bspan_x (a s:Nat) (ha:a≤63) (hs:1≤s∧a+s≤64) (hk:K (.tuple #[.int .i64 a,.int .i64 (a+s:Nat)]) h):X Tryz.prog 197 #[.int .i64 a,.int .i64 s] h K:=by
 refine fnv (args:=_) mixed [] [] [] Tryz.func197 rfl (by kernel_rfl) (cw_ ?_)
 refine bf_ ?_
 refine bf_ ?_
 refine n_ ?_
 have e:(a:Int)+(if (64 - (a:Int))<(s:Int) then (64 - (a:Int)) else (s:Int))=((a+s:Nat):Int):=by split <;> omega
 refine ov_is e (by omega) (cw_ ?_)
 exact hk
theorem ones_eq (s:Nat) (hs:1≤s∧s≤64):18446744073709551615 / 2 ^ (64 - s)=2 ^ s - 1:=by
 have e:2 ^ s*2 ^ (64 - s)=18446744073709551616:=by rw [← Nat.pow_add,show s+(64 - s)=64 by omega]
 have hp:0<2 ^ (64 - s):=Nat.pow_pos (by decide)
 have h1:1≤2 ^ s:=Nat.pow_pos (by decide)
 rw [Nat.div_eq_iff hp]
 have e2:(2 ^ s - 1)*2 ^ (64 - s)=18446744073709551616 - 2 ^ (64 - s):=by rw [Nat.sub_mul,e,Nat.one_mul]
 omega
theorem bones_x (a s:Nat) (ha:a≤63) (hs:1≤s∧a+s≤64) (hk:K (ux ((2 ^ s - 1)*2 ^ a)) h):X Tryz.prog 110 #[.int .i64 a,.int .i64 s] h K:=by
 have hlt:(2 ^ s - 1)*2 ^ a<18446744073709551616:=by
  have e:2 ^ s*2 ^ a≤2 ^ 64:=by rw [← Nat.pow_add];exact Nat.pow_le_pow_right (by decide) (by omega)
  have h1:1≤2 ^ s:=Nat.pow_pos (by decide)
  have h2:1≤2 ^ a:=Nat.pow_pos (by decide)
  rw [Nat.sub_mul]
  omega
 refine fnv (args:=_) mixed [] [] [] Tryz.func110 rfl (by kernel_rfl) (cw_ ?_)
 refine bspan_x a s ha hs (cw_ ?_)
 refine bf_ ?_
 refine ov_is (y:=s) (by omega) (by omega) (cw_ ?_)
 refine ov_is (y:=(64 - s:Nat)) (by omega) (by omega) (cw_ ?_)
 refine ov_u64 (by omega) (cw_ ?_)
 refine val_by (shr64 18446744073709551615 (64 - s) (by omega)) (cw_ ?_)
 rw [ones_eq s (by omega)]
 refine ov_u64 (by omega) (cw_ ?_)
 refine ov_by (shl64 (2 ^ s - 1) a (by omega)) ?_
 rw [Nat.mod_eq_of_lt hlt]
 conv=>whnf
 exact hk
theorem bdown_x (w k:Nat) (hw:w<2 ^ 64) (hkk:k≤63) (hk:K (ux (w / 2 ^ k)) h):X Tryz.prog 198 #[ux w,.int .i64 (-(k:Int))] h K:=by
 rcases Nat.eq_zero_or_pos k with rfl | h0
 ·refine fnv (args:=_) mixed [] [] [] Tryz.func198 rfl (by kernel_rfl) (cw_ ?_)
  refine ov_by (y:=((0:Nat):Int)) (by decide) (cw_ ?_)
  refine ov_by (shl64 w 0 (by decide)) ?_
  rw [Nat.pow_zero,Nat.mul_one,Nat.mod_eq_of_lt hw]
  rw [Nat.pow_zero,Nat.div_one] at hk
  conv=>whnf
  exact hk
 ·refine fnv (args:=_) mixed [] [] [] Tryz.func198 rfl (by kernel_rfl) (cw_ ?_)
  refine bf_ ?_
  refine bf_ ?_
  refine bt_ ?_
  rw [show IntKind.i64.wrap (0 - -(k:Int))=(k:Int) by rw [IntWalk.i64_in _ (by omega)];omega]
  refine ov_u64 (by omega) (cw_ ?_)
  refine val_by (shr64 w k (by omega)) (cw_ ?_)
  exact hk
theorem bup_x (w k:Nat) (hkk:k≤63) (hk:K (ux (w*2 ^ k % 18446744073709551616)) h):X Tryz.prog 198 #[ux w,.int .i64 k] h K:=by
 refine fnv (args:=_) mixed [] [] [] Tryz.func198 rfl (by kernel_rfl) (cw_ ?_)
 refine bf_ ?_
 refine bf_ ?_
 refine ov_u64 (by omega) (cw_ ?_)
 refine ov_by (shl64 w k (by omega)) (cw_ ?_)
 exact hk
theorem bcut_x (w a s:Nat) (hw:w<2 ^ 64) (ha:a≤63) (hs:1≤s∧s≤64) (hk:K (ux (w / 2 ^ a % 2 ^ s)) h):X Tryz.prog 111 #[ux w,.int .i64 a,.int .i64 s] h K:=by
 have h1:w / 2 ^ a<2 ^ 64:=Nat.lt_of_le_of_lt (Nat.div_le_self _ _) hw
 have h2:(2 ^ s - 1)*2 ^ 0<2 ^ 64:=by
  have e:2 ^ s≤2 ^ 64:=Nat.pow_le_pow_right (by decide) hs.2
  have h1:1≤2 ^ s:=Nat.pow_pos (by decide)
  omega
 refine fnv (args:=_) mixed [] [] [] Tryz.func111 rfl (by kernel_rfl) (cw_ ?_)
 refine bf_ ?_
 refine bf_ ?_
 refine bf_ ?_
 rw [show IntKind.i64.wrap (0 - (a:Int)) = -(a:Int) by rw [IntWalk.i64_in _ (by omega)];omega]
 refine bdown_x w a hw ha (cw_ ?_)
 refine bones_x 0 s (by decide) (by omega) (cw_ ?_)
 refine val_by (and64 h1 h2) (cw_ ?_)
 rw [Nat.pow_zero,Nat.mul_one,Nat.and_two_pow_sub_one_eq_mod]
 exact hk
theorem sign_shift (w s:Nat) (hs:1≤s∧s≤63):IntKind.u64.wrap ((i64N (w*2 ^ (64 - s) % 18446744073709551616)).fdiv (2 ^ (64 - s)))=((signN (w % 2 ^ s) s:Nat):Int):=by
 have hm:w % 2 ^ s<2 ^ s:=Nat.mod_lt _ (Nat.pow_pos (by decide))
 rw [sign_eq hm hs.1 (by omega)]
 have e:2 ^ s*2 ^ (64 - s)=18446744073709551616:=by rw [← Nat.pow_add,show s+(64 - s)=64 by omega]
 have e2:2 ^ (s - 1)*2 ^ (64 - s)=9223372036854775808:=by rw [← Nat.pow_add,show s - 1+(64 - s)=63 by omega]
 have es:2 ^ s=2 ^ (s - 1)*2:=by rw [← Nat.pow_succ];congr 1;omega
 have hle:2 ^ s≤2 ^ 63:=Nat.pow_le_pow_right (by decide) hs.2
 have hp:0<2 ^ (64 - s):=Nat.pow_pos (by decide)
 have hmm:w*2 ^ (64 - s) % 18446744073709551616=w % 2 ^ s*2 ^ (64 - s):=by
  rw [← e,Nat.mul_mod_mul_right]
 rw [hmm]
 generalize w % 2 ^ s=m at hm ⊢
 have hc:((2:Int) ^ (64 - s))=((2 ^ (64 - s):Nat):Int):=by push_cast;rfl
 rw [hc,Int.fdiv_eq_ediv_of_nonneg _ (Int.natCast_nonneg _)]
 generalize 2 ^ (64 - s)=q at *
 generalize 2 ^ (s - 1)=r at *
 unfold i64N
 by_cases hlt:m<r
 ·have h1:m*q<9223372036854775808:=by rw [← e2];exact Nat.mul_lt_mul_of_pos_right hlt hp
  rw [if_pos h1,if_pos hlt]
  have:((m*q:Nat):Int) / (q:Int)=m:=by
   rw [Int.natCast_mul];exact Int.mul_ediv_cancel _ (by omega)
  rw [this,toU64]
  omega
 ·have h1:9223372036854775808≤m*q:=by rw [← e2];exact Nat.mul_le_mul_right _ (by omega)
  rw [if_neg (by omega),if_neg hlt]
  have:(((m*q:Nat):Int) - 18446744073709551616) / (q:Int)=(m:Int) - (2 ^ s:Nat):=by
   have e3:((m*q:Nat):Int) - 18446744073709551616=((m:Int) - ((2 ^ s:Nat):Int))*(q:Int):=by
    rw [Int.sub_mul,← Int.natCast_mul,← Int.natCast_mul,e];rfl
   rw [e3];exact Int.mul_ediv_cancel _ (by omega)
  rw [this,toU64]
  omega
theorem bsign_x (w s:Nat) (hw:w<2 ^ 64) (hs:1≤s∧s≤63) (hk:K (ux (signN (w % 2 ^ s) s)) h):X Tryz.prog 192 #[ux w,.int .i64 s] h K:=by
 have hlt:w*2 ^ (64 - s) % 18446744073709551616<2 ^ 64:=Nat.mod_lt _ (by decide)
 refine fnv (args:=_) mixed [] [] [] Tryz.func192 rfl (by kernel_rfl) (cw_ ?_)
 refine bf_ ?_
 refine bf_ ?_
 refine ov_is (y:=(64 - s:Nat)) (by omega) (by omega) (cw_ ?_)
 refine ov_u64 (by omega) (cw_ ?_)
 refine ov_by (shl64 w (64 - s) (by omega)) (cw_ ?_)
 refine ov_by (wrapI64N _ hlt) (cw_ ?_)
 refine val_by (y:=(i64N (w*2 ^ (64 - s) % 18446744073709551616)).fdiv (2 ^ (64 - s))) (by rw [Int.toNat_natCast,show min (64 - s) IntKind.i64.bits=64 - s from Nat.min_eq_left (by show 64 - s≤64;omega)]) (cw_ ?_)
 refine ov_by (sign_shift w s hs) (cw_ ?_)
 exact hk
end
end Go.Proofs.YtdhlpighdlnohaaGreat
namespace Go.Proofs.YtdhlpighdlnohaaGreat
open Go Go.Mid Go.RowKit Go.Bits
attribute [local irreducible] mid
abbrev wcs (x:List Nat):List Value:=x.map fun n:Nat=>Value.int .u64 n
theorem wcs_at {x:List Nat} {i:Nat} (hi:i<x.length):(wcs x)[i]? = some (ux (x.getD i 0)):=by
 rw [List.getElem?_map,List.getElem?_eq_getElem hi,List.getD_eq_getElem?_getD,List.getElem?_eq_getElem hi];rfl
theorem regN_lt {x:List Nat} (hx:∀ n ∈ x,n<2 ^ 64) (i:Int):regN x i<2 ^ 64:=by
 unfold regN
 split
 ·rw [List.getD_eq_getElem?_getD]
  cases e:x[i.toNat]? with
  | none=>decide
  | some n=>exact hx n (List.mem_of_getElem? e)
 ·decide
def setN (x:List Nat) (i:Int) (w:Nat):List Nat:=if i≠0∧0≤i∧i<32 then x.set i.toNat w else x
section
variable {h:Hp} {K:Value→Hp→Prop}
theorem rgin_x (i:Int) (hk:K (.bool (decide (0≤i∧i<32))) h):X Tryz.prog 78 #[.int .i64 i] h K:=by
 refine fnv (args:=_) mixed [] [] [] Tryz.func78 rfl (by kernel_rfl) (cw_ ?_)
 refine br_ (fun q1=>?_) fun q1=>?_
 ·conv=>whnf
  exact kq hk (bI (by rw [Bool.eq_iff_iff];simp;omega))
 ·conv=>whnf
  exact kq hk (bI (by rw [Bool.eq_iff_iff];simp;omega))
theorem rgget_x {b o:Nat} {el:TypeId} {A B:List Value} {x:List Nat} (p:Pa h b o el A (wcs x) B) (hx:x.length=32) (i:Int) (hk:K (ux (regN x i)) h):X Tryz.prog 172 #[.pointer (some ⟨b,o,none⟩),.int .i64 i] h K:=by
 unfold regN at hk
 refine fnv (args:=_) mixed [] [] [] Tryz.func172 rfl (by kernel_rfl) (cw_ ?_)
 refine rgin_x i ?_
 by_cases q:0≤i∧i<32
 ·rw [if_pos q] at hk
  rw [decide_eq_true q]
  obtain ⟨j,rfl⟩:∃ j:Nat,i=j:=⟨i.toNat,by omega⟩
  rw [Int.toNat_natCast] at hk
  have hj:j<x.length:=by omega
  conv=>whnf
  refine n_ ?_ (hc:=by exact ⟨by omega,by show _<((32:Nat):Int);omega⟩)
  rw [show Tryz.prog.types[25].size=1 by kernel_rfl]
  refine ⟨_,p.ld j aggU (wcs_at hj),cw_ ?_⟩
  exact hk
 ·rw [if_neg q] at hk
  rw [decide_eq_false q]
  conv=>whnf
  exact hk
theorem rgset_x {b o:Nat} {el:TypeId} {A B:List Value} {x:List Nat} (p:Pa h b o el A (wcs x) B) (hx:x.length=32) (i:Int) (w:Nat) (hk:∀ h':Hp,(∀ c,c≠b→h' c=h c)→Pa h' b o el A (wcs (setN x i w)) B→K (.tuple #[]) h'):X Tryz.prog 36 #[.pointer (some ⟨b,o,none⟩),.int .i64 i,ux w] h K:=by
 unfold setN at hk
 refine fnv (args:=_) mixed [] [] [] Tryz.func36 rfl (by kernel_rfl) (cw_ ?_)
 refine br_ (fun q0=>?_) fun q0=>?_
 ·conv=>whnf
  refine rgin_x i ?_
  by_cases q:0≤i∧i<32
  ·rw [if_pos ⟨by omega,q⟩] at hk
   rw [decide_eq_true q]
   obtain ⟨j,rfl⟩:∃ j:Nat,i=j:=⟨i.toNat,by omega⟩
   rw [Int.toNat_natCast] at hk
   have hj:j<(wcs x).length:=by rw [List.length_map];omega
   conv=>whnf
   refine n_ ?_ (hc:=by exact ⟨by omega,by show _<((32:Nat):Int);omega⟩)
   rw [show Tryz.prog.types[25].size=1 by kernel_rfl]
   refine wr_intro (by exact p.st j sizU hj rfl rfl) (fun h1 at_h1 ot_h1=>cw_ ?_)
   exact hk _ ot_h1 ⟨at_h1.trans (by rw [show wcs (x.set j w)=(wcs x).set j (ux w) from List.map_set];rfl),p.len⟩
  ·rw [if_neg (fun e=>q e.2)] at hk
   rw [decide_eq_false q]
   conv=>whnf
   exact hk _ (fun _ _=>rfl) p
 ·rw [if_neg (by omega)] at hk
  conv=>whnf
  exact hk _ (fun _ _=>rfl) p
end
end Go.Proofs.YtdhlpighdlnohaaGreat
namespace Go.Proofs.YtdhlpighdlnohaaGreat
open Go Go.Mid Go.RowKit Go.Bits
attribute [local irreducible] mid
theorem bit_is (w i:Nat):decide (((w / 2 ^ i % 2:Nat):Int)=1)=bitB w i:=by
 unfold bitB bitN
 rw [decide_eq_decide]
 omega
theorem with_lt {w i:Nat} {on:Bool} (hw:w<2 ^ 64) (hi:i≤63):withN w i on<2 ^ 64:=by
 unfold withN
 split
 ·exact Nat.or_lt_two_pow hw (Nat.pow_lt_pow_right (by decide) (by omega))
 ·exact andN_lt _ _
section
variable {h:Hp} {K:Value→Hp→Prop}
theorem sbit_x (w i:Nat) (hw:w<2 ^ 64) (hi:i≤63) (hk:K (.bool (bitB w i)) h):X Tryz.prog 261 #[ux w,.int .u64 i] h K:=by
 have h1:w / 2 ^ i<2 ^ 64:=Nat.lt_of_le_of_lt (Nat.div_le_self _ _) hw
 refine fnv (args:=_) mixed [] [] [] Tryz.func261 rfl (by kernel_rfl) (cw_ ?_)
 refine val_by (shr64 w i (by omega)) (cw_ ?_)
 refine val_by (and64 h1 (show 1<2 ^ 64 by decide)) (cw_ ?_)
 rw [Nat.and_one_is_mod]
 exact kq hk (bI (by rw [← bit_is,Bool.eq_iff_iff];simp))
theorem swith_x (w i:Nat) (on:Bool) (hw:w<2 ^ 64) (hi:i≤63) (hk:K (ux (withN w i on)) h):X Tryz.prog 334 #[ux w,.int .u64 i,.bool on] h K:=by
 have hp:2 ^ i<2 ^ 64:=Nat.pow_lt_pow_right (by decide) (by omega)
 unfold withN at hk
 cases on with
 | true =>
  refine fnv (args:=_) mixed [] [] [] Tryz.func334 rfl (by kernel_rfl) (cw_ ?_)
  refine ov_by ((shl64 1 i (by omega)).trans (by rw [Nat.one_mul,Nat.mod_eq_of_lt hp])) (cw_ ?_)
  refine val_by (or64 hw hp) (cw_ ?_)
  exact hk
 | false =>
  refine fnv (args:=_) mixed [] [] [] Tryz.func334 rfl (by kernel_rfl) (cw_ ?_)
  refine ov_by ((shl64 1 i (by omega)).trans (by rw [Nat.one_mul,Nat.mod_eq_of_lt hp])) (cw_ ?_)
  refine val_by (andNot64 hw hp) (cw_ ?_)
  exact hk
end
end Go.Proofs.YtdhlpighdlnohaaGreat
