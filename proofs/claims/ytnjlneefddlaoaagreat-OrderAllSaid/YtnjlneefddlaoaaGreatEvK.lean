/-
  Events: known kinds.
-/
import Derived.Test.YtnjlneefddlaoaaGreatMidY
import Derived.Test.YtnjlneefddlaoaaGreatEvD
set_option linter.unusedSimpArgs false
set_option linter.unusedVariables false
set_option maxHeartbeats 8000000
set_option maxRecDepth 10000
set_option linter.unusedSimpArgs false
set_option linter.unusedVariables false
namespace Go.Proofs.YtnjlneefddlaoaaGreat
open Go
def ins (n:Nat):List Nat→List Nat
 | []=>[n]
 | m :: l=>if m<n then m :: ins n l else if m=n then m :: l else n :: m :: l
abbrev Rising (l:List Nat):Prop:=l.Pairwise (·<·)
theorem mem_ins {n x:Nat}:∀ {l:List Nat},x ∈ ins n l↔x=n∨x ∈ l
 | []=>by simp [ins]
 | m :: l=>by
  unfold ins
  split
  ·rw [List.mem_cons,mem_ins,List.mem_cons]
   constructor
   ·rintro (h | h | h)
    ·exact .inr (.inl h)
    ·exact .inl h
    ·exact .inr (.inr h)
   ·rintro (h | h | h)
    ·exact .inr (.inl h)
    ·exact .inl h
    ·exact .inr (.inr h)
  split
  ·rename_i h;subst h
   constructor
   ·exact fun h=>.inr h
   ·rintro (h | h)
    ·subst h;exact List.mem_cons_self
    ·exact h
  ·rw [List.mem_cons]
theorem rising_ins {n:Nat}:∀ {l:List Nat},Rising l→Rising (ins n l)
 | [],_=>by simp [ins]
 | m :: l,h=>by
  rw [Rising,List.pairwise_cons] at h
  unfold ins
  split
  ·rename_i hm
   refine List.pairwise_cons.2 ⟨fun x hx=>?_,rising_ins h.2⟩
   rcases mem_ins.1 hx with rfl | hx
   ·exact hm
   ·exact h.1 x hx
  split
  ·exact List.pairwise_cons.2 h
  ·rename_i h1 h2
   refine List.pairwise_cons.2 ⟨fun x hx=>?_,List.pairwise_cons.2 h⟩
   rcases List.mem_cons.1 hx with rfl | hx
   ·omega
   ·have:=h.1 x hx;omega
def dl (l:List Nat):List Nat:=l.foldl (fun a n=>ins n a) []
theorem foldl_ins (l:List Nat):∀ a:List Nat,Rising a→Rising (l.foldl (fun a n=>ins n a) a)∧∀ x,x ∈ l.foldl (fun a n=>ins n a) a↔x ∈ a∨x ∈ l:=by
 induction l with
 | nil=>intro a ha;exact ⟨ha,fun x=>by simp⟩
 | cons n l ih =>
  intro a ha
  obtain ⟨h1,h2⟩:=ih (ins n a) (rising_ins ha)
  refine ⟨h1,fun x=>?_⟩
  rw [List.foldl_cons,h2,mem_ins,List.mem_cons]
  constructor
  ·rintro ((h | h) | h)
   ·exact .inr (.inl h)
   ·exact .inl h
   ·exact .inr (.inr h)
  ·rintro (h | h | h)
   ·exact .inl (.inr h)
   ·exact .inl (.inl h)
   ·exact .inr h
theorem rising_dl (l:List Nat):Rising (dl l):=(foldl_ins l [] List.Pairwise.nil).1
theorem mem_dl {l:List Nat} {x:Nat}:x ∈ dl l↔x ∈ l:=by rw [dl,(foldl_ins l [] List.Pairwise.nil).2];simp
theorem rising_ext:∀ {a b:List Nat},Rising a→Rising b→(∀ x,x ∈ a↔x ∈ b)→a=b
 | [],[],_,_,_=>rfl
 | [],y :: b,_,_,h=>by have:=(h y).2 List.mem_cons_self;cases this
 | x :: a,[],_,_,h=>by have:=(h x).1 List.mem_cons_self;cases this
 | x :: a,y :: b,ha,hb,h=>by
  have ha':=List.pairwise_cons.1 ha
  have hb':=List.pairwise_cons.1 hb
  have hxy:x=y:=by
   rcases List.mem_cons.1 ((h x).1 List.mem_cons_self) with e | e
   ·exact e
   ·rcases List.mem_cons.1 ((h y).2 List.mem_cons_self) with e2 | e2
    ·exact e2.symm
    ·have h1:=hb'.1 x e
     have h2:=ha'.1 y e2
     omega
  subst hxy
  congr 1
  refine rising_ext ha'.2 hb'.2 fun z=>?_
  have hz:=h z
  rw [List.mem_cons,List.mem_cons] at hz
  constructor
  ·intro hza
   rcases hz.1 (.inr hza) with e | e
   ·have:=ha'.1 z hza;omega
   ·exact e
  ·intro hzb
   rcases hz.2 (.inr hzb) with e | e
   ·have:=hb'.1 z hzb;omega
   ·exact e
def byteN (addr next:Nat) (cut:Int) (i:Nat):Nat:=if 0<cut∧cut≤i then (next+(i - cut.toNat)) % 18446744073709551616 else (addr+i) % 18446744073709551616
def runL (addr n:Nat):List Nat:=if n=0 then [] else if n≤64 - addr % 64 then [addr / 64] else [addr / 64,(addr+(64 - addr % 64)) % 18446744073709551616 / 64]
theorem mem_runL {addr n x:Nat} (ha:addr<18446744073709551616) (hn:n≤64):x ∈ runL addr n↔∃ i,i<n∧(addr+i) % 18446744073709551616 / 64=x:=by
 unfold runL
 split
 ·constructor
  ·intro h;cases h
  ·rintro ⟨i,hi,_⟩;omega
 have h0:∀ i,i<64 - addr % 64→(addr+i) % 18446744073709551616 / 64=addr / 64:=fun i hi=>by
  rw [Nat.mod_eq_of_lt (by omega)];omega
 split
 ·rw [List.mem_singleton]
  constructor
  ·intro h;subst h;exact ⟨0,by omega,h0 0 (by omega)⟩
  ·rintro ⟨i,hi,rfl⟩;exact h0 i (by omega)
 ·have h1:∀ i,64 - addr % 64≤i→i<64→(addr+i) % 18446744073709551616 / 64=(addr+(64 - addr % 64)) % 18446744073709551616 / 64:=fun i hi hi2=>by
   by_cases hw:addr+(64 - addr % 64)<18446744073709551616
   ·have hx:addr+i<18446744073709551616:=by omega
    rw [Nat.mod_eq_of_lt hw,Nat.mod_eq_of_lt hx];omega
   ·have:addr+(64 - addr % 64)=18446744073709551616:=by omega
    rw [this,Nat.mod_self]
    rw [show (addr+i) % 18446744073709551616=addr+i - 18446744073709551616 by omega]
    omega
  rw [List.mem_cons,List.mem_singleton]
  constructor
  ·rintro (h | h)
   ·exact ⟨0,by omega,by rw [h0 0 (by omega),h]⟩
   ·exact ⟨64 - addr % 64,by omega,h.symm⟩
  ·rintro ⟨i,hi,rfl⟩
   by_cases hi2:i<64 - addr % 64
   ·exact .inl (h0 i hi2)
   ·exact .inr (h1 i (by omega) (by omega))
def accL (addr next:Nat) (cut size:Int):List Nat:=dl ((List.range size.toNat).map fun i=>byteN addr next cut i / 64)
theorem acc_run {addr next:Nat} {cut size:Int} (ha:addr<18446744073709551616) (hn:next<18446744073709551616) (h1:1≤size) (h2:size≤8) (h3:0≤cut) (h4:cut<size) :
  accL addr next cut size=dl (if cut=0 then runL addr size.toNat else runL addr cut.toNat++runL next (size - cut).toNat):=by
 refine rising_ext (rising_dl _) (rising_dl _) fun x=>?_
 rw [accL,mem_dl,mem_dl,List.mem_map]
 split
 ·rename_i hc
  rw [mem_runL ha (by omega)]
  constructor
  ·rintro ⟨i,hi,rfl⟩
   refine ⟨i,List.mem_range.1 hi,?_⟩
   rw [byteN,if_neg (by omega)]
  ·rintro ⟨i,hi,rfl⟩
   refine ⟨i,List.mem_range.2 hi,?_⟩
   rw [byteN,if_neg (by omega)]
 ·rename_i hc
  rw [List.mem_append,mem_runL ha (by omega),mem_runL hn (by omega)]
  constructor
  ·rintro ⟨i,hi,rfl⟩
   have hi:=List.mem_range.1 hi
   rw [byteN]
   by_cases hci:cut≤i
   ·refine .inr ⟨i - cut.toNat,by omega,?_⟩
    rw [if_pos ⟨by omega,hci⟩]
   ·refine .inl ⟨i,by omega,?_⟩
    rw [if_neg (by omega)]
  ·rintro (⟨i,hi,rfl⟩ | ⟨i,hi,rfl⟩)
   ·refine ⟨i,List.mem_range.2 (by omega),?_⟩
    rw [byteN,if_neg (by omega)]
   ·refine ⟨i+cut.toNat,List.mem_range.2 (by omega),?_⟩
    rw [byteN,if_pos ⟨by omega,by omega⟩]
    congr 2
    omega
end Go.Proofs.YtnjlneefddlaoaaGreat
namespace Go.Proofs.YtnjlneefddlaoaaGreat
open Go Go.Mid Go.RowKit
attribute [local irreducible] mid
section
variable {h:Hp} {K:Value→Hp→Prop}
theorem known_x (n:Int) (hk:K (.bool (decide (1≤n∧n≤20))) h):X Tryz.prog 50 #[.int .i64 n] h K:=by
 refine fnv (args:=_) mixed [] [] [] Tryz.func50 rfl (by kernel_rfl) (cw_ ?_)
 refine br_ (fun q1=>?_) fun q1=>?_
 ·conv=>whnf
  exact kq hk (bI (by rw [Bool.eq_iff_iff];simp;omega))
 ·conv=>whnf
  exact kq hk (bI (by rw [Bool.eq_iff_iff];simp;omega))
end
end Go.Proofs.YtnjlneefddlaoaaGreat
