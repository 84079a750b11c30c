/-
  The names of ops.
-/
import Derived.Test.YtdhkjcdneidgaaaGreatDoorLib0
import Derived.Test.YtdhkjcdneidgaaaGreatDoorShelf
import Derived.Lib.ItoaMem
import Derived.Lib.Join
namespace Go.Mid
set_option linter.unusedSimpArgs false
set_option linter.unusedVariables false
set_option linter.unusedSimpArgs false
set_option linter.unusedVariables false
open Go Go.RowKit
def Owns (k h:Hp) (el size:Nat) (s:Value) (n:Nat) (cs:List Value):Prop:=∃ ob,Gr h el size s n cs ob∧k.le h∧∀ c,ob=some c→k c=none
theorem Owns.nil {k h:Hp} {el size:Nat} (hle:k.le h):Owns k h el size (.slice none 0 0) 0 []:=⟨none,Gr.nil,hle,fun c e=>by cases e⟩
theorem Owns.new {k h h':Hp} {el size n:Nat} {s:Value} {cs:List Value} {b:Nat} {o:Obj} (w:Owns k h el size s n cs) (hb:h b=none) (hle:h.le h') (hat:h' b=some o):Owns (k.set b o) h' el size s n cs:=by
 obtain ⟨ob,g,hk,ho⟩:=w
 refine ⟨ob,g.le hle,fun c x e=>?_,fun c hc=>?_⟩
 ·by_cases hcb:c=b
  ·subst hcb;rw [Hp.set_same] at e;cases e;exact hat
  ·rw [Hp.set_other _ _ hcb] at e;exact hle _ _ (hk _ _ e)
 ·have:c≠b:=fun e=>by
   subst e
   obtain ⟨_,⟨e,_⟩ | ⟨y,_,_,e,_,_,_,hy⟩⟩:=g
   ·rw [e] at hc;cases hc
   ·rw [e] at hc;cases hc;rw [hy] at hb;cases hb
  rw [Hp.set_other _ _ this];exact ho c hc
theorem Owns.weak {k k2 h:Hp} {el size n:Nat} {s:Value} {cs:List Value} (w:Owns k h el size s n cs) (hle:k2.le k):Owns k2 h el size s n cs:=by
 obtain ⟨ob,g,hk,ho⟩:=w
 exact ⟨ob,g,Hp.le_trans hle hk,fun c hc=>Hp.none_le hle (ho c hc)⟩
theorem Owns.up {k h h':Hp} {el size n:Nat} {s:Value} {cs:List Value} (w:Owns k h el size s n cs) (hle:h.le h'):Owns k h' el size s n cs:=by
 obtain ⟨ob,g,hk,ho⟩:=w
 exact ⟨ob,g.le hle,Hp.le_trans hk hle,ho⟩
theorem Owns.le {k h:Hp} {el size n:Nat} {s:Value} {cs:List Value} (w:Owns k h el size s n cs):k.le h:=by
 obtain ⟨ob,g,hk,ho⟩:=w
 exact hk
theorem Owns.rd {P:Program} {t el:TypeId} {k h:Hp} {s:Value} {n:Nat} {cs:List Value} (ht:isAggT P t=some false) (w:Owns k h el 1 s n cs):Rd P t 1 h s cs:=by
 obtain ⟨ob,g,hk,ho⟩:=w
 exact g.rd ht
theorem Owns.len {k h:Hp} {el size n:Nat} {s:Value} {cs:List Value} (w:Owns k h el size s n cs):cs.length=n*size:=by
 obtain ⟨ob,g,hk,ho⟩:=w
 exact g.1
theorem Owns.val {k h:Hp} {el size n:Nat} {s:Value} {cs:List Value} (w:Owns k h el size s n cs):s.cells.toList=[s]∧s.oneCell'=true:=by
 obtain ⟨_,⟨_,⟨_,rfl,_⟩ | ⟨b,cap,rest,_,rfl,_⟩⟩,_,_⟩:=w <;> exact ⟨rfl,rfl⟩
theorem Owns.shape {k h:Hp} {el size n:Nat} {s:Value} {cs:List Value} (w:Owns k h el size s n cs):∃ a c,s=.slice a n c:=by
 obtain ⟨ob,g,_⟩:=w
 exact g.shape
theorem Owns.row {k h:Hp} {el size n:Nat} {s:Value} {cs:List Value} (w:Owns k h el size s n cs) (hn:0<n):∃ b cap rest,s=.slice (some ⟨b,0,none⟩) n cap∧n≤cap∧h b=some (rowO el (cs++rest))∧k b=none:=by
 obtain ⟨ob,⟨_,⟨_,_,e⟩ | ⟨b,cap,rest,e1,e2,h1,_,h3⟩⟩,_,ho⟩:=w
 ·omega
 ·exact ⟨b,cap,rest,e2,h1,h3,ho b e1⟩
theorem Owns.app1 {P:Program} {t e:TypeId} {i:TypeInfo} {z:Value} {size bytes:Nat} (ht:P.underlying t=some (.slice e)) (hi:P.info? e=some i) (hz:i.zero=some z) (hsize:i.size=size) (hby:i.bytes=bytes) (hzs:z.cells.size=size) (hb2:bytes≤4096)
  {ρ:Operand→Value} {o:Oper} {a b:Operand} {s:Value} {news:List Value} {k h:Hp} {n x c:Nat} {cs:List Value} {K:Next→Hp→Prop}
  (ho:o.op=.call { callee:=.builtin .append,args:=#[a,b],argTypes:=#[t,t] }) (ha:ρ a=s) (hb:ρ b=.slice (some ⟨x,0,none⟩) 1 c) (hs:Owns k h e size s n cs) (hx:h x=some (rowO e news)) (hl:news.length=size) (h1:news.all Value.oneCell'=true) (hn:n≤2 ^ 30)
  (hk:∀ s' h',Owns k h' e size s' (n+1) (cs++news)→K (.value s') h'):semK P (execOp ρ o) h K:=by
 obtain ⟨ob,g,hle,hno⟩:=hs
 refine appOne ht hi hz hsize hby hzs hb2 ho ha hb g hx hl h1 hn fun s' h' ob' hg ht=>?_
 have:=ht.le hle hno
 exact hk s' h' ⟨ob',hg,this.1,this.2⟩
theorem Owns.appN {P:Program} {t e:TypeId} {i:TypeInfo} {z:Value} {size bytes:Nat} (ht:P.underlying t=some (.slice e)) (hi:P.info? e=some i) (hz:i.zero=some z) (hsize:i.size=size) (hby:i.bytes=bytes) (hzs:z.cells.size=size) (hb2:bytes≤4096)
  {ρ:Operand→Value} {o:Oper} {a b:Operand} {s:Value} {news:List Value} {k h:Hp} {n m c:Nat} {cs:List Value} {base:Option Addr} {K:Next→Hp→Prop}
  (ho:o.op=.call { callee:=.builtin .append,args:=#[a,b],argTypes:=#[t,t] }) (ha:ρ a=s) (hb:ρ b=.slice base m c) (hs:Owns k h e size s n cs) (hl:news.length=m*size) (hx:∀ j v,news[j]? = some v→∃ a,base=some a∧h.cell? (a.add j)=some v) (hnil:base=none→m=0) (h1:news.all Value.oneCell'=true) (hn:n+m≤2 ^ 31)
  (hk:∀ s' h',Owns k h' e size s' (n+m) (cs++news)→K (.value s') h'):semK P (execOp ρ o) h K:=by
 obtain ⟨ob,g,hle,hno⟩:=hs
 refine appMany ht hi hz hsize hby hzs hb2 ho ha hb g hl hx hnil h1 hn fun s' h' ob' hg ht=>?_
 have:=ht.le hle hno
 exact hk s' h' ⟨ob',hg,this.1,this.2⟩
theorem Hp.set_le {k h:Hp} {b:Nat} {o:Obj} (hle:k.le h) (hb:h b=some o):(k.set b o).le h:=fun c x e=>by
 by_cases hcb:c=b
 ·subst hcb;rw [Hp.set_same] at e;cases e;exact hb
 ·rw [Hp.set_other _ _ hcb] at e;exact hle _ _ e
theorem Hp.le_set' {k:Hp} {b:Nat} {o:Obj} (hb:k b=none):k.le (k.set b o):=Hp.le_set hb
theorem Hp.eq_set {h h':Hp} {b:Nat} {o:Obj} (hb:h' b=some o) (ho:∀ c,c≠b→h' c=h c):h'=h.set b o:=by
 funext c
 by_cases hc:c=b
 ·subst hc;rw [hb,Hp.set_same]
 ·rw [ho c hc,Hp.set_other _ _ hc]
theorem loadCA {P:Program} {t el:TypeId} {k:Nat} {a:Addr} {b:Nat} (ha:a=⟨b,k,none⟩) (ht:isAggT P t=some false) {h:Hp} {l:List Value} {v:Value} (hb:h b=some (rowO el l)) (hv:l[k]? = some v):loadH P t h a=some v:=by
 rw [ha,loadH_cell ht]
 exact cell_row hb hv
theorem loadI {P:Program} {t el:TypeId} (ht:isAggT P t=some false) {h:Hp} {b j:Nat} {i:Int} {l:List Value} {v:Value} (hb:h b=some (rowO el l)) (e:i=j) (hv:l[j]? = some v):loadH P t h ((⟨b,0,none⟩:Addr).add (i.toNat*1))=some v:=by
 subst e
 rw [Int.toNat_natCast]
 exact loadC1 ht hb hv
theorem storeI {P:Program} {t el:TypeId} (ht:sizeT P t=some 1) {h:Hp} {b j:Nat} {i:Int} {l:List Value} {z:Value} (hb:h b=some (rowO el l)) (e:i=j) (hj:j<l.length) (hz:z.cells.toList=[z]) (h1:z.oneCell'=true):storeH P t h ((⟨b,0,none⟩:Addr).add (i.toNat*1)) z=some (b,rowO el (l.set j z)):=by
 subst e
 rw [Int.toNat_natCast]
 exact storeC1 ht hb hj hz h1
end Go.Mid

namespace Go.Proofs.YtdhkjcdneidgaaaGreatDoor
set_option linter.unusedSimpArgs false
set_option linter.unusedVariables false
set_option linter.unusedSimpArgs false
set_option linter.unusedVariables false
open Go Go.Mid Go.RowKit
attribute [local irreducible] mid
section
set_option maxHeartbeats 8000000
set_option maxRecDepth 10000
variable {h:Hp} {K:Value→Hp→Prop}
def Pow (h:Hp):Prop:=∃ el fz,h 5=some (.cells (Lib.pow10Tab.map fun z=>Value.int .u64 z).toArray el fz)
theorem Pow.le {h h':Hp} (p:Pow h) (hle:h.le h'):Pow h':=by
 obtain ⟨el,fz,e⟩:=p
 exact ⟨el,fz,hle _ _ e⟩
theorem Pow.keep {h h':Hp} (p:Pow h) (hle:h' 5=h 5):Pow h':=by
 obtain ⟨el,fz,e⟩:=p
 exact ⟨el,fz,hle.trans e⟩
theorem powG : Tryz.prog.globalNamed "internal/strconv.uint64pow10" = some 5 := by kernel_rfl
theorem Pow.tab {w0 w : World} (p : Pow h) (s : Sat w0 h w) : Lib.TabIs Tryz.prog w "internal/strconv.uint64pow10" .u64 Lib.pow10Tab := by
 obtain ⟨el,fz,e⟩:=p
 unfold Lib.TabIs World.var?
 rw [powG,Option.bind_some,s.known _ _ e]
theorem Pow.of {w : World} (t : Lib.TabIs Tryz.prog w "internal/strconv.uint64pow10" .u64 Lib.pow10Tab) : Pow (whole w) := by
 unfold Lib.TabIs World.var? at t
 rw [powG,Option.bind_some] at t
 unfold Pow
 show ∃ el fz,w.heap[_]? = _
 generalize w.heap[5]? = x at t
 match x,t with
 | some (.cells cs el fz),t=>cases t;exact ⟨el,fz,rfl⟩
theorem nDig_le:∀ (k u:Nat),u<10 ^ (k+1)→Lib.nDigits u≤k+1
 | 0,u,h=>by rw [Lib.nDigits_small (by omega)];omega
 | k+1,u,h=>by
  by_cases hu:u<10
  ·rw [Lib.nDigits_small hu];omega
  ·rw [Lib.nDigits_big hu]
   have:=nDig_le k (u / 10) (by rw [Nat.pow_succ] at h;omega)
   omega
theorem nDig20 {u:Nat} (h:u<18446744073709551616):Lib.nDigits u≤20:=nDig_le 19 u (by omega)
theorem dec_len {u:Nat} (h:u<18446744073709551616):(Lib.decDigits u).length≤20:=by rw [Lib.decDigits_length];exact nDig20 h
end
end Go.Proofs.YtdhkjcdneidgaaaGreatDoor

namespace Go.Proofs.YtdhkjcdneidgaaaGreatDoor
set_option linter.unusedSimpArgs false
set_option linter.unusedVariables false
set_option linter.unusedSimpArgs false
set_option linter.unusedVariables false
open Go Go.Mid Go.RowKit
attribute [local irreducible] mid
section
set_option maxHeartbeats 8000000
set_option maxRecDepth 10000
variable {h:Hp} {K:Value→Hp→Prop}
abbrev sv (x:Str):Value:=.string (bs x)
theorem aggStr:isAggT Tryz.prog 9=some false:=by kernel_rfl
theorem app_len {xs ys:List Str} {n m:Nat} (a:xs.length≤n) (b:ys.length≤m):(xs++ys).length≤n+m:=by rw [List.length_append];omega
def tl (xs:List Str):Str:=xs.flatMap fun x=>32 :: x
theorem join_tl (x:Str) (xs:List Str):Lib.join (x :: xs) [32]=x++tl xs:=by
 rw [Lib.join_cons]
 rfl
theorem tl_len {xs:List Str} {n:Nat} (h:∀ x ∈ xs,x.length≤n):(tl xs).length≤(n+1)*xs.length:=by
 induction xs with
 | nil=>simp [tl]
 | cons x xs ih =>
  have h1:=h x (by simp)
  have h2:=ih fun y hy=>h y (by simp [hy])
  unfold tl at h2 ⊢
  rw [List.flatMap_cons,List.length_append,List.length_cons,List.length_cons,Nat.mul_succ]
  omega
def Sm (xs:List Str):Prop:=∀ x ∈ xs,x.length≤64
theorem Sm.app {xs ys:List Str} (a:Sm xs) (b:Sm ys):Sm (xs++ys):=fun x hx=>(List.mem_append.1 hx).elim (a x) (b x)
theorem Sm.nil:Sm []:=fun x hx=>by cases hx
theorem Sm.cons {x:Str} {ys:List Str} (a:x.length≤64) (b:Sm ys):Sm (x :: ys):=fun z hz=>by
 rcases List.mem_cons.1 hz with rfl | hz
 ·exact a
 ·exact b z hz
abbrev J (ws:List Str):Str:=Lib.join ws [32]
theorem J_len {ws:List Str} (h:Sm ws) (hn:ws.length≤200):(J ws).length≤13064:=by
 cases ws with
 | nil=>simp [J,Lib.join_nil]
 | cons x xs =>
  rw [J,join_tl,List.length_append]
  have h1:=h x (by simp)
  have h2:=tl_len (n:=64) (xs:=xs) fun y hy=>h y (by simp [hy])
  rw [List.length_cons] at hn
  have:(64+1)*xs.length≤65*200:=Nat.mul_le_mul_left 65 (by omega)
  omega
theorem ne_app {xs ys:List Str} (h:xs≠[]):xs++ys≠[]:=fun e=>h (List.append_eq_nil_iff.1 e).1
structure Wk (ws:List Str) (n:Nat):Prop where
 ne:ws≠[]
 sm:Sm ws
 len:ws.length≤n
theorem Wk.app {xs ys:List Str} {n m:Nat} (a:Wk xs n) (b:Sm ys) (c:ys.length≤m):Wk (xs++ys) (n+m):=⟨ne_app a.ne,a.sm.app b,app_len a.len c⟩
theorem Wk.J {xs:List Str} {n:Nat} (a:Wk xs n) (h:n≤200):(J xs).length≤13064:=J_len a.sm (Nat.le_trans a.len h)
end
end Go.Proofs.YtdhkjcdneidgaaaGreatDoor

namespace Go.Proofs.YtdhkjcdneidgaaaGreatDoor
set_option linter.unusedSimpArgs false
set_option linter.unusedVariables false
set_option linter.unusedSimpArgs false
set_option linter.unusedVariables false
open Go Go.Mid Go.RowKit
attribute [local irreducible] mid
section
set_option maxHeartbeats 8000000
set_option maxRecDepth 10000
variable {h:Hp} {K:Value→Hp→Prop}
def opNames:List Str:=[[108,117,105],[97,117,105,112,99],[106,97,108],[106,97,108,114],[98,101,113],[98,110,101],[98,108,116],[98,103,101],[98,108,116,117],[98,103,101,117],[108,98],[108,104],[108,119],[108,100],[108,98,117],[108,104,117],[108,119,117],[115,98],[115,104],[115,119],[115,100],[97,100,100,105],[115,108,116,105],[115,108,116,105,117],[120,111,114,105],[111,114,105],[97,110,100,105],[115,108,108,105],[115,114,108,105],[115,114,97,105],[97,100,100],[115,117,98],[115,108,108],[115,108,116],[115,108,116,117],[120,111,114],[115,114,108],[115,114,97],[111,114],[97,110,100],[97,100,100,105,119],[115,108,108,105,119],[115,114,108,105,119],[115,114,97,105,119],[97,100,100,119],[115,117,98,119],[115,108,108,119],[115,114,108,119],[115,114,97,119],[102,101,110,99,101],[102,101,110,99,101,46,105],[101,99,97,108,108],[101,98,114,101,97,107],[109,117,108],[109,117,108,104],[109,117,108,104,115,117],[109,117,108,104,117],[100,105,118],[100,105,118,117],[114,101,109],[114,101,109,117],[109,117,108,119],[100,105,118,119],[100,105,118,117,119],[114,101,109,119],[114,101,109,117,119],[108,114,46,119],[115,99,46,119],[97,109,111,115,119,97,112,46,119],[97,109,111,97,100,100,46,119],[97,109,111,120,111,114,46,119],[97,109,111,97,110,100,46,119],[97,109,111,111,114,46,119],[97,109,111,109,105,110,46,119],[97,109,111,109,97,120,46,119],[97,109,111,109,105,110,117,46,119],[97,109,111,109,97,120,117,46,119],[108,114,46,100],[115,99,46,100],[97,109,111,115,119,97,112,46,100],[97,109,111,97,100,100,46,100],[97,109,111,120,111,114,46,100],[97,109,111,97,110,100,46,100],[97,109,111,111,114,46,100],[97,109,111,109,105,110,46,100],[97,109,111,109,97,120,46,100],[97,109,111,109,105,110,117,46,100],[97,109,111,109,97,120,117,46,100],[99,115,114,114,119],[99,115,114,114,115],[99,115,114,114,99],[99,115,114,114,119,105],[99,115,114,114,115,105],[99,115,114,114,99,105],[109,114,101,116],[115,114,101,116],[119,102,105],[115,102,101,110,99,101,46,118,109,97]]
def opWords:Str:=[108,117,105,32,97,117,105,112,99,32,106,97,108,32,106,97,108,114,32,98,101,113,32,98,110,101,32,98,108,116,32,98,103,101,32,98,108,116,117,32,98,103,101,117,32,108,98,32,108,104,32,108,119,32,108,100,32,108,98,117,32,108,104,117,32,108,119,117,32,115,98,32,115,104,32,115,119,32,115,100,32,97,100,100,105,32,115,108,116,105,32,115,108,116,105,117,32,120,111,114,105,32,111,114,105,32,97,110,100,105,32,115,108,108,105,32,115,114,108,105,32,115,114,97,105,32,97,100,100,32,115,117,98,32,115,108,108,32,115,108,116,32,115,108,116,117,32,120,111,114,32,115,114,108,32,115,114,97,32,111,114,32,97,110,100,32,97,100,100,105,119,32,115,108,108,105,119,32,115,114,108,105,119,32,115,114,97,105,119,32,97,100,100,119,32,115,117,98,119,32,115,108,108,119,32,115,114,108,119,32,115,114,97,119,32,102,101,110,99,101,32,102,101,110,99,101,46,105,32,101,99,97,108,108,32,101,98,114,101,97,107,32,109,117,108,32,109,117,108,104,32,109,117,108,104,115,117,32,109,117,108,104,117,32,100,105,118,32,100,105,118,117,32,114,101,109,32,114,101,109,117,32,109,117,108,119,32,100,105,118,119,32,100,105,118,117,119,32,114,101,109,119,32,114,101,109,117,119,32,108,114,46,119,32,115,99,46,119,32,97,109,111,115,119,97,112,46,119,32,97,109,111,97,100,100,46,119,32,97,109,111,120,111,114,46,119,32,97,109,111,97,110,100,46,119,32,97,109,111,111,114,46,119,32,97,109,111,109,105,110,46,119,32,97,109,111,109,97,120,46,119,32,97,109,111,109,105,110,117,46,119,32,97,109,111,109,97,120,117,46,119,32,108,114,46,100,32,115,99,46,100,32,97,109,111,115,119,97,112,46,100,32,97,109,111,97,100,100,46,100,32,97,109,111,120,111,114,46,100,32,97,109,111,97,110,100,46,100,32,97,109,111,111,114,46,100,32,97,109,111,109,105,110,46,100,32,97,109,111,109,97,120,46,100,32,97,109,111,109,105,110,117,46,100,32,97,109,111,109,97,120,117,46,100,32,99,115,114,114,119,32,99,115,114,114,115,32,99,115,114,114,99,32,99,115,114,114,119,105,32,99,115,114,114,115,105,32,99,115,114,114,99,105,32,109,114,101,116,32,115,114,101,116,32,119,102,105,32,115,102,101,110,99,101,46,118,109,97]
def splitSp:Str→List Str
 | []=>[[]]
 | c :: r=>if c=32 then [] :: splitSp r else match splitSp r with
  | []=>[[c]]
  | x :: l=>(c :: x) :: l
theorem splitSp_at:∀ (u r:Str),(∀ c ∈ u,c≠32)→splitSp (u++32 :: r)=u :: splitSp r
 | [],r,_=>by simp [splitSp]
 | c :: u,r,hu=>by
  show splitSp (c :: (u++32 :: r))=_
  rw [splitSp,if_neg (hu c (by simp)),splitSp_at u r (fun x hx=>hu x (by simp [hx]))]
theorem splitSp_last:∀ (u:Str),(∀ c ∈ u,c≠32)→splitSp u=[u]
 | [],_=>by simp [splitSp]
 | c :: u,hu=>by
  rw [splitSp,if_neg (hu c (by simp)),splitSp_last u (fun x hx=>hu x (by simp [hx]))]
theorem opWords_split:splitSp opWords=opNames:=by decide +kernel
theorem opWords_len:opWords.length=558:=by decide +kernel
theorem opNames_len:opNames.length=98:=by decide +kernel
theorem opWords_ascii:∀ c ∈ opWords,c.toNat<128:=by decide +kernel
theorem dec_ascii {l:Str} {i:Nat} {c:UInt8} (hc:l[i]? = some c) (ha:c.toNat<128):Utf8.decode (bs l) i=(c.toNat,1):=by
 obtain ⟨hi,e⟩:=List.getElem?_eq_some_iff.1 hc
 have e0:((bs l).get! (i+0)).toNat=c.toNat:=by
  congr 1
  show (bs l).data[i+0]! = c
  rw [Nat.add_zero,getElem!_pos (bs l).data i (by show i<l.toArray.size;simpa using hi)]
  show l.toArray[i]=c
  rw [List.getElem_toArray];exact e
 unfold Utf8.decode
 simp only [e0]
 rw [if_pos (by omega)]
theorem aggY0:isAggT Tryz.prog 87=some false:=by kernel_rfl
theorem nextW {h:Hp} {it p:Nat} {l:Str} {c:UInt8} (hi:h it=some (.stringIter (bs l) p)) (hc:l[p]? = some c) (ha:c.toNat<128) :
  nextH h (.pointer (some ⟨it,0,none⟩))=some (.tuple #[.bool true,.int .i64 p,.int .i32 c.toNat],some (it,.stringIter (bs l) (p+1))):=by
 unfold nextH
 simp only [hi,dec_ascii hc ha]
 rw [if_pos (by rw [bs_size];exact (List.getElem?_eq_some_iff.1 hc).1)]
theorem nextE {h:Hp} {it:Nat} {l:Str} (hi:h it=some (.stringIter (bs l) l.length)):nextH h (.pointer (some ⟨it,0,none⟩))=some (.tuple #[.bool false],none):=by
 unfold nextH
 simp only [hi]
 rw [if_neg (by rw [bs_size];omega)]
attribute [irreducible] opNames
theorem all1_x (y:Value)
  (hs:∀ it,h it=none→∃ I:Nat→Hp→Prop,(∀ o,I 0 (h.set it o))∧(∀ i h' o,I i h'→I i (h'.set it o)) ∧
   (∀ i x h',opNames[i]? = some x→I i h'→YV Tryz.prog y [.int .i64 (i+1:Nat),sv x] h' fun v h''=>∃ go:Bool,v=.bool go∧(go=true→I (i+1) h''∧h'' it=h' it)∧(go=false→K (.tuple #[]) h''))∧(∀ h',I 98 h'→K (.tuple #[]) h')):X Tryz.prog 221 #[y] h K:=by
 have hasc:∀ (i:Nat) (c:UInt8),opWords[i]? = some c→c.toNat<128:=fun i c hc=>opWords_ascii c (List.mem_of_getElem? hc)
 have hlen:=opWords_len
 have hnl:=opNames_len
 have hspl:=opWords_split
 refine fnv (args:=_) mixed [] [] [] Tryz.func221 rfl (by kernel_rfl) ?_;conv=>whnf
 intro it hit
 obtain ⟨I,i0,i1,i2,i3⟩:=hs it hit
 have hi0:=i0 (.stringIter (bs opWords) 0)
 clear i0
 refine loop_at [2,3] [] (fun r vs _ h'=>∃ p f k:Nat,h' it=some (.stringIter (bs opWords) p)∧p≤558∧f≤p∧r=558 - p∧vs=[.v (.int .i64 (k+1:Nat)),.v (.int .i64 f)]∧opNames.drop k=splitSp (opWords.drop f)∧(∀ c ∈ (opWords.take p).drop f,c≠32)∧I k h') 558 ⟨0,0,0,Hp.set_same _ _ _,by omega,by omega,by omega,rfl,by rw [List.drop_zero,List.drop_zero,hspl],by simp,hi0⟩ ?_
 rintro r vs cs mm bx h1 ⟨p,f,k,hI,hp,hf,rfl,rfl,hsp,hno,hIk⟩
 by_cases hpl:p=558
 ·subst hpl
  rw [show (558:Nat)=opWords.length from hlen.symm] at hI
  have hu:(opWords.take 558).drop f=opWords.drop f:=by rw [List.take_of_length_le (Nat.le_of_eq hlen)]
  rw [hu] at hno
  rw [splitSp_last _ hno] at hsp
  have hk1:k+1=98:=by
   have:=congrArg List.length hsp
   simp [hnl] at this
   omega
  have hnk:opNames[k]? = some (opWords.drop f):=by
   have:=congrArg (fun l=>l[0]?) hsp
   simpa using this
  have hyk:=i2 k _ h1 hnk hIk
  conv=>whnf
  refine io_none (nextE hI) ?_
  conv=>whnf
  (first | refine need_intro (⟨by omega,by show _≤((558:Nat):Int);omega⟩) ?_ | refine must.mk (⟨by omega,by show _≤((558:Nat):Int);omega⟩) ?_);conv=>whnf
  refine sub_by (l:=opWords) (m:=opWords.drop f) (by rw [show ((f:Int)).toNat=f by omega];exact hu) ?_
  conv=>whnf
  refine aRunK_yv rfl rfl rfl (hyk.mono ?_)
  rintro v h2 ⟨go,rfl,g1,g2⟩
  cases go with
  | true =>
   conv=>whnf
   exact i3 _ (by rw [← hk1];exact (g1 rfl).1)
  | false =>
   conv=>whnf
   exact g2 rfl
 ·obtain ⟨c,hc⟩:∃ c,opWords[p]? = some c:=⟨_,List.getElem?_eq_getElem (by omega)⟩
  have hsplit:opWords.drop f=(opWords.take p).drop f++c :: opWords.drop (p+1):=by
   obtain ⟨hp2,rfl⟩:=List.getElem?_eq_some_iff.1 hc
   rw [← List.drop_eq_getElem_cons hp2,← List.drop_append_of_le_length (by rw [List.length_take];omega),List.take_append_drop]
  conv=>whnf
  refine io_intro (by exact nextW hI hc (hasc p c hc)) (fun h2 at_h2 ot_h2=>?_)
  try (conv=>whnf)
  have e2:=Hp.eq_set at_h2 ot_h2
  have hI2:I k h2:=by rw [e2];exact i1 _ _ _ hIk
  refine bsel_intro (fun q1=>?_) (fun q1=>?_) <;> try simp only [bsL] at q1
  ·have hc32:c≠32:=fun e=>by subst e;exact q1 rfl
   conv=>whnf
   refine ⟨558 - (p+1),by omega,p+1,f,k,at_h2,by omega,by omega,rfl,rfl,hsp,fun d hd=>?_,hI2⟩
   rw [List.take_add_one,hc,List.drop_append_of_le_length (by rw [List.length_take];omega)] at hd
   rcases List.mem_append.1 hd with hd | hd
   ·exact hno d hd
   ·simp at hd;subst hd;exact hc32
  ·have hc32:c=32:=by
    apply UInt8.toNat_inj.1
    show c.toNat=32
    omega
   subst hc32
   rw [hsplit,splitSp_at _ _ hno] at hsp
   have hnk:opNames[k]? = some ((opWords.take p).drop f):=by
    have:=congrArg (fun l=>l[0]?) hsp
    simpa using this
   have hyk:=i2 k _ h2 hnk hI2
   have hsp2:opNames.drop (k+1)=splitSp (opWords.drop (p+1)):=by
    have:=congrArg (fun l=>l.drop 1) hsp
    simpa [List.drop_drop] using this
   have hk98:k<98:=by
    have:=(List.getElem?_eq_some_iff.1 hnk).1
    omega
   conv=>whnf
   (first | refine need_intro (⟨by omega,by show _≤((558:Nat):Int);omega⟩) ?_ | refine must.mk (⟨by omega,by show _≤((558:Nat):Int);omega⟩) ?_);conv=>whnf
   (first | refine need_intro (⟨by omega,by omega⟩) ?_ | refine must.mk (⟨by omega,by omega⟩) ?_);conv=>whnf
   refine sub_by (l:=opWords) (m:=(opWords.take p).drop f) (by rw [show ((f:Int)).toNat=f by omega,show ((p:Int)).toNat=p by omega]) ?_
   conv=>whnf
   refine aRunK_yv rfl rfl rfl (hyk.mono ?_)
   rintro v h3 ⟨go,rfl,g1,g2⟩
   cases go with
   | true =>
    obtain ⟨g3,g4⟩:=g1 rfl
    conv=>whnf
    (first | refine ov_c (by simp only [loK,hiK];omega) ?_ | refine ov_c (by decide) ?_);conv=>whnf
    (first | refine ov_c (by simp only [loK,hiK];omega) ?_ | refine ov_c (by decide) ?_);conv=>whnf
    refine ⟨558 - (p+1),by omega,p+1,p+1,k+1,g4.trans at_h2,by omega,by omega,rfl,rfl,hsp2,fun d hd=>?_,g3⟩
    rw [List.drop_eq_nil_of_le (by rw [List.length_take];omega)] at hd
    cases hd
   | false =>
    conv=>whnf
    exact g2 rfl
theorem all_x (hk:K (.func (.func 221) #[] #[]) h):X Tryz.prog 206 #[] h K:=by
 refine fnv (args:=_) mixed [] [] [] Tryz.func206 rfl (by kernel_rfl) ?_;conv=>whnf
 exact hk
theorem aggSt:isAggT Tryz.prog 9=some false:=by kernel_rfl
end
end Go.Proofs.YtdhkjcdneidgaaaGreatDoor
