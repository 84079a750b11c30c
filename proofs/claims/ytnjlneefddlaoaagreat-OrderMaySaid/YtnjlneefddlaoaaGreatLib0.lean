/-
  What every text over a seat's program begins with.
-/
import Derived.Test.YtnjlneefddlaoaaGreatMidX
import Derived.Test.YtnjlneefddlaoaaGreatMidW
import Derived.Test.YtnjlneefddlaoaaGreatProg
import Derived.KernelRfl
set_option linter.unusedSimpArgs false
set_option linter.unusedVariables false
set_option maxHeartbeats 8000000
set_option maxRecDepth 10000
set_option linter.unusedSimpArgs false
set_option linter.unusedVariables false
namespace Go.Mid
open Go Go.RowKit
variable {h:Hp}
theorem wfS {fs:List Sh} {cs:List Value} (w:Wf h (.struct fs) cs):Wfs h fs cs:=by unfold Wf at w;exact w
theorem wfC {s:Sh} {r:List Sh} {cs:List Value} (w:Wfs h (s :: r) cs):∃ a b,cs=a++b∧Wf h s a∧Wfs h r b:=by
 unfold Wfs at w
 obtain ⟨a,b,e,_,h1,h2⟩:=w
 exact ⟨a,b,e,h1,h2⟩
theorem wfN {cs:List Value} (w:Wfs h [] cs):cs=[]:=by unfold Wfs at w;exact w
theorem wfI {cs:List Value} (w:Wf h (.int .i64) cs):∃ n:Int,cs=[.int .i64 n] ∧ -9223372036854775808≤n∧n≤9223372036854775807:=by
 unfold Wf at w
 obtain ⟨n,e,hn⟩:=w
 exact ⟨n,e,wf_i64 hn⟩
theorem wfU {cs:List Value} (w:Wf h (.int .u64) cs):∃ n:Nat,cs=[.int .u64 n]∧n<18446744073709551616:=by
 unfold Wf at w
 obtain ⟨n,e,hn⟩:=w
 have:=wf_u64 hn
 refine ⟨n.toNat,by rw [e,Int.toNat_of_nonneg this.1],by omega⟩
theorem wfB {cs:List Value} (w:Wf h .bool cs):∃ b:Bool,cs=[.bool b]:=by
 unfold Wf at w
 exact w
theorem arr_of {α:Type} {ok:α→Prop} {f:α→List Value} {k:Nat}:∀ (n:Nat) (cs:List Value),cs.length=n*k→(∀ i,i<n→∃ x,ok x∧(cs.drop (i*k)).take k=f x)→∃ l:List α,l.length=n∧(∀ x ∈ l,ok x)∧cs=l.flatMap f
 | 0,cs,hl,_=>⟨[],rfl,fun x hx=>(by cases hx),by
  have:cs.length=0:=by omega
  simpa using this⟩
 | n+1,cs,hl,hp=>by
  obtain ⟨x,hx,e⟩:=hp 0 (by omega)
  rw [Nat.zero_mul,List.drop_zero] at e
  obtain ⟨l,h1,h2,h3⟩:=arr_of (ok:=ok) (f:=f) (k:=k) n (cs.drop k) (by rw [List.length_drop,hl,Nat.succ_mul];omega) (fun i hi=>by
   obtain ⟨y,hy,e⟩:=hp (i+1) (by omega)
   refine ⟨y,hy,?_⟩
   rw [List.drop_drop,← e,Nat.succ_mul,Nat.add_comm])
  refine ⟨x :: l,by simp [h1],fun y hy=>?_,?_⟩
  ·rcases List.mem_cons.1 hy with rfl | hy
   ·exact hx
   ·exact h2 y hy
  ·rw [List.flatMap_cons,← h3,← e,List.take_append_drop]
theorem wfA {α:Type} {ok:α→Prop} {f:α→List Value} {n:Nat} {e:Sh} {cs:List Value} (hf:∀ cs,Wf h e cs→∃ x,ok x∧cs=f x) (w:Wf h (.array n e) cs):∃ l:List α,l.length=n∧(∀ x ∈ l,ok x)∧cs=l.flatMap f:=by
 unfold Wf at w
 exact arr_of n cs w.1 fun i hi=>hf _ (w.2 i hi)
end Go.Mid
namespace Go.Proofs.YtnjlneefddlaoaaGreat
open Go Go.Mid Go.RowKit
theorem mixed:Tryz.prog.follows .mixedOrders=true:=by kernel_rfl
abbrev Str:=List UInt8
theorem aggU:isAggT Tryz.prog 52 = some false:=by kernel_rfl
theorem sizU:sizeT Tryz.prog 52 = some 1:=by kernel_rfl
theorem aggBo:isAggT Tryz.prog 4 = some false:=by kernel_rfl
theorem sizBo:sizeT Tryz.prog 4 = some 1:=by kernel_rfl
theorem aggIn:isAggT Tryz.prog 3 = some false:=by kernel_rfl
theorem sizIn:sizeT Tryz.prog 3 = some 1:=by kernel_rfl
theorem aggU8:isAggT Tryz.prog 5 = some false:=by kernel_rfl
theorem sizU8:sizeT Tryz.prog 5 = some 1:=by kernel_rfl
end Go.Proofs.YtnjlneefddlaoaaGreat
