/-
  THE MIDDLE LAYER: strings put into rows of bytes, and rows read as strings (what a builder does).
-/
import Derived.Test.YtnjlneefddlaoaaGreatMidR
import Derived.Laws.Strings
import Derived.Lib.UnsafeStr
import Derived.Sort.Grow
import Derived.Deep.Draws
import Derived.Below
set_option linter.unusedSimpArgs false
set_option linter.unusedVariables false
set_option maxHeartbeats 8000000
set_option maxRecDepth 10000
set_option linter.unusedSimpArgs false
set_option linter.unusedVariables false
namespace Go.Mid
open Go Go.RowKit
abbrev byV (b:UInt8):Value:=.int .u8 b.toNat
end Go.Mid
namespace Go.Mid
open Go Go.RowKit
theorem kq {K:Value→Hp→Prop} {v v':Value} {h:Hp} (hk:K v h) (e:v'=v):K v' h:=e ▸ hk
theorem bI {a b:Bool} (h:a=b):Value.bool a=Value.bool b:=by rw [h]
theorem iI {k:IntKind} {a b:Int} (h:a=b):Value.int k a=Value.int k b:=by rw [h]
theorem loadC {P:Program} {t el:TypeId} (ht:isAggT P t=some false) {h:Hp} {b i:Nat} {l:List Value} {v:Value} (hb:h b=some (rowO el l)) (hi:l[i]? = some v):loadH P t h ((⟨b,0,none⟩:Addr).add i)=some v:=by
 rw [addr_add,Nat.zero_add,loadH_cell ht]
 exact cell_row hb hi
theorem loadC0 {P:Program} {t el:TypeId} (ht:isAggT P t=some false) {h:Hp} {b:Nat} {l:List Value} {v:Value} (hb:h b=some (rowO el l)) (hi:l[0]? = some v):loadH P t h ⟨b,0,none⟩=some v:=by
 rw [loadH_cell ht]
 exact cell_row hb hi
theorem storeC {P:Program} {t el:TypeId} (ht:sizeT P t=some 1) {h:Hp} {b i:Nat} {l:List Value} {z:Value} (hb:h b=some (rowO el l)) (hi:i<l.length) (hz:z.cells.toList=[z]) (h1:z.oneCell'=true):storeH P t h ((⟨b,0,none⟩:Addr).add i) z=some (b,rowO el (l.set i z)):=by
 rw [addr_add,Nat.zero_add]
 exact storeH_row ht hb hi hz h1
theorem storeC0 {P:Program} {t el:TypeId} (ht:sizeT P t=some 1) {h:Hp} {b:Nat} {l:List Value} {z:Value} (hb:h b=some (rowO el l)) (hi:0<l.length) (hz:z.cells.toList=[z]) (h1:z.oneCell'=true):storeH P t h ⟨b,0,none⟩ z=some (b,rowO el (l.set 0 z)):=storeH_row ht hb hi hz h1
theorem loadC1 {P:Program} {t el:TypeId} (ht:isAggT P t=some false) {h:Hp} {b i:Nat} {l:List Value} {v:Value} (hb:h b=some (rowO el l)) (hi:l[i]? = some v):loadH P t h ((⟨b,0,none⟩:Addr).add (i*1))=some v:=by
 rw [Nat.mul_one];exact loadC ht hb hi
theorem storeC1 {P:Program} {t el:TypeId} (ht:sizeT P t=some 1) {h:Hp} {b i:Nat} {l:List Value} {z:Value} (hb:h b=some (rowO el l)) (hi:i<l.length) (hz:z.cells.toList=[z]) (h1:z.oneCell'=true):storeH P t h ((⟨b,0,none⟩:Addr).add (i*1)) z=some (b,rowO el (l.set i z)):=by
 rw [Nat.mul_one];exact storeC ht hb hi hz h1
def Hp.one (b:Nat) (o:Obj):Hp:=fun x=>if x=b then some o else none
theorem Hp.le_st {h h1 H:Hp} {b:Nat} (hn:h b=none) (hle:h.le h1) (ho:∀ c,c≠b→H c=h1 c):h.le H:=fun x o e=>by
 rw [ho x (Hp.ne hn e)];exact hle x o e
theorem zeroRow_one (v:Value) (n:Nat):zeroRow #[v] n=(List.replicate n v).toArray:=by
 unfold zeroRow
 congr 1
 apply List.ext_getElem
 ·simp
 ·intro i h1 h2
  simp [Nat.mod_one]
theorem Rd.get {P:Program} {t n:Nat} {h:Hp} {base:Option Addr} {m cap:Nat} {vs:List Value} (r:Rd P t n h (.slice base m cap) vs):m=vs.length∧∀ i v,vs[i]? = some v→∃ a,base=some a∧loadH P t h (a.add (i*n))=some v:=by
 obtain ⟨b,c,e,f⟩:=r
 cases e
 exact ⟨rfl,f⟩
theorem ov_eq {x y:Int} {K:Int→Prop} (e:x=y) (h : -9223372036854775808≤y∧y≤9223372036854775807) (hk:K y):ovK .i64 x K:=by
 subst e
 exact ov_i64 h hk
end Go.Mid
namespace Go.Mid
open Go Go.RowKit
theorem Ext.ofBelow {w0 w w':World} {h:Hp} (s:Sat w0 h w) (b:Below w.heap.size w w'):Ext w0 h w h w' :=
 ⟨⟨b.os.trans s.os,b.tape.trans s.tape,b.output.trans s.output,Nat.le_trans s.size b.size,fun c o e=>(b.block c (s.lt e)).trans (s.known c o e)⟩,b.size,fun c hc e=>⟨b.block c hc,e⟩⟩
theorem X.ofBelow {P:Program} {f:FuncId} {args:Array Value} {v:Value} {h:Hp} {K:Value→Hp→Prop} (hc:∀ w0 w,Sat w0 h w→Calls P f args w fun e w'=>e=.returned v∧Below w.heap.size w w') (hk:K v h):X P f args h K :=
 ⟨fun w0 w s=>(hc w0 w s).mono fun _ _ ⟨he,hb⟩=>⟨v,h,he,Ext.ofBelow s hb,hk⟩⟩
theorem YV.mono {P:Program} {y:Value} {args:List Value} {h:Hp} {K K':Value→Hp→Prop} (x:YV P y args h K) (hk:∀ v h',K v h'→K' v h'):YV P y args h K' :=
 ⟨fun ρ o z xs tys h1 h2 h3=>aRun_mono (fun v h' hh=>hk v h' hh) (x.go ρ o z xs tys h1 h2 h3)⟩
end Go.Mid
