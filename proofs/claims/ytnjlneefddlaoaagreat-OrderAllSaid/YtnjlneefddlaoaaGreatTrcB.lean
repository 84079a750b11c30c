/-
  Lines of asks: the walks.
-/
import Derived.Test.YtnjlneefddlaoaaGreatEvK
set_option linter.unusedSimpArgs false
set_option linter.unusedVariables false
set_option maxHeartbeats 8000000
set_option maxRecDepth 10000
set_option linter.unusedSimpArgs false
set_option linter.unusedVariables false
namespace Go.Proofs.YtnjlneefddlaoaaGreat
open Go Go.Mid Go.RowKit
abbrev rfXTrcB0:Go.Mid.RF:=[(1,1),(3,1),(7,1),(12,1),(17,1),(19,1)]
attribute [local irreducible] mid
section
variable {h:Hp} {K:Value→Hp→Prop}
theorem wrapU (x:Int):IntKind.u64.wrap x=x % 18446744073709551616:=by
 unfold IntKind.wrap
 simp [IntKind.signed,IntKind.bits]
def groupN (k:Int):Int:=if k<1∨20<k then 0 else if k≤8 then 1 else if k≤11 then 2 else if k≤14 then 3 else if k≤17 then 4 else 5
theorem group_x (k:Int) (hk:K (.int .i64 (groupN k)) h):X Tryz.prog 40 #[.int .i64 k] h K:=by
 unfold groupN at hk
 refine fnv (args:=_) mixed [] [] [] Tryz.func40 rfl (by kernel_rfl) (cw_ ?_)
 refine known_x k (cw_ ?_)
 refine bsel_intro (fun q1=>?_) (fun q1=>?_)
 ·have q1:¬ (1≤k∧k≤20):=by simp at q1;omega
  conv=>whnf
  exact kq hk (iI (by rw [if_pos (by omega)]))
 have q1:1≤k∧k≤20:=by simp at q1;omega
 rw [if_neg (by omega)] at hk
 conv=>whnf
 refine br_ (fun q2=>?_) fun q2=>?_
 ·rw [if_pos q2] at hk
  conv=>whnf
  exact hk
 rw [if_neg q2] at hk
 conv=>whnf
 refine br_ (fun q3=>?_) fun q3=>?_
 ·rw [if_pos q3] at hk
  conv=>whnf
  exact hk
 rw [if_neg q3] at hk
 conv=>whnf
 refine br_ (fun q4=>?_) fun q4=>?_
 ·rw [if_pos q4] at hk
  conv=>whnf
  exact hk
 rw [if_neg q4] at hk
 conv=>whnf
 refine br_ (fun q5=>?_) fun q5=>?_
 ·rw [if_pos q5] at hk
  conv=>whnf
  exact hk
 rw [if_neg q5] at hk
 conv=>whnf
 exact hk
abbrev Ak.ac (a:Ak):Value:=.agg #[.int .u64 a.addr,.int .u64 a.next,.int .i64 a.cut,.int .i64 a.size]
def mayB (a:Ak):Bool:=decide (1≤a.size∧a.size≤8∧0≤a.cut∧a.cut<a.size)
theorem mayB_iff (a:Ak):mayB a=true↔1≤a.size∧a.size≤8∧0≤a.cut∧a.cut<a.size:=decide_eq_true_iff
theorem access_x (a:Ak) (hk:K a.ac h):X Tryz.prog 98 #[.agg a.cs.toArray] h K:=by
 refine X.forget ?_
 refine fnv (args:=_) mixed [(2,2)] [] [] Tryz.func98 rfl (by kernel_rfl) (cw_ ?_)
 refine new_intro (o:=rowO 59 a.cs) (fun b h1 n_b le_b at_b ot_b=>cw_ ?_)
 refine ⟨_,loadC (i:=1) aggU at_b rfl,cw_ ?_⟩
 refine ⟨_,loadC (i:=2) aggU at_b rfl,cw_ ?_⟩
 refine ⟨_,loadC (i:=3) aggIn at_b rfl,cw_ ?_⟩
 refine ⟨_,loadC (i:=4) aggIn at_b rfl,cw_ ?_⟩
 exact ⟨h,le_b,hk⟩
theorem may_x (a:Ak) (hk:K (.bool (mayB a)) h):X Tryz.prog 117 #[a.ac] h K:=by
 unfold mayB at hk
 refine fnv (args:=_) mixed rfXTrcB0 [] [] Tryz.func117 rfl (by kernel_rfl) (cw_ ?_)
 repeat' first
  | (refine need_intro (by omega) ?_;conv=>whnf)
  | ((first | refine ov_i64 (by omega) ?_ | refine ov_u64 (by omega) ?_ | refine ov_i64 (by decide) ?_ | refine ov_u64 (by decide) ?_ | refine ov_u8 (by omega) ?_ | refine ov_i32 (by omega) ?_ | refine ov_u32 (by omega) ?_);conv=>whnf)
  | (refine ⟨trivial,?_⟩;conv=>whnf)
  | (refine bsel_intro (fun hq=>?_) (fun hq=>?_) <;> (try simp only [decide_eq_true_eq,decide_eq_false_iff_not,beq_iff_eq,beq_eq_false_iff_ne,ne_eq,Bool.not_eq_true',Bool.not_eq_false',bne_iff_ne,bne_eq_false_iff_eq,Bool.not_eq_true,Bool.not_eq_false,Bool.and_eq_true,Bool.or_eq_true,bs_size] at hq) <;> conv=>whnf)
 all_goals exact kq hk (bI (by rw [Bool.eq_iff_iff];simp;omega))
theorem line_xS (n:Nat) (hn:n<18446744073709551616) (hk:K (.int .u64 (n / 64:Nat)) h):X Tryz.prog 99 #[.int .u64 n] h K:=by
 have td:((n:Int)).tdiv 64=((n / 64:Nat):Int):=rfl
 refine fnv (args:=_) mixed [] [] [] Tryz.func99 rfl (by kernel_rfl) (cw_ ?_)
 refine ov_u64 (by rw [td];omega) (cw_ ?_)
 exact hk
structure Pc where
 a:Nat
 n:Int
 s:Int
abbrev Pc.cs (p:Pc):List Value:=[.int .u64 p.a,.int .i64 p.n,.int .i64 p.s]
abbrev he (addr:Nat) (n:Int):Int:=if 64 - ((addr:Int)).tmod 64<n then 64 - ((addr:Int)).tmod 64 else n
theorem he_spec (addr:Nat) (n:Int) (hn:1≤n):he addr n=if n≤64 - (addr % 64:Nat) then n else 64 - (addr % 64:Nat):=by
 have tm:((addr:Int)).tmod 64=((addr % 64:Nat):Int):=rfl
 unfold he
 rw [tm]
 split <;> split <;> omega
theorem run_x {k:Hp} (s:Value) (L:List Pc) (addr:Nat) (n shift:Int) (ha:addr<18446744073709551616) (hn0:1≤n) (hn1:n≤8) (hs0:0≤shift) (hs1:shift≤64) (hL:L.length≤10) (hO:Owns k h 166 3 s L.length (L.flatMap Pc.cs))
  (hk:∀ s' L' h',Owns k h' 166 3 s' (L++L').length ((L++L').flatMap Pc.cs)→(∀ p ∈ L',p.a<18446744073709551616)→L'.map (fun p=>p.a / 64)=runL addr n.toNat→L'.length≤2→K s' h'):X Tryz.prog 118 #[s,.int .u64 addr,.int .i64 n,.int .i64 shift] h K:=by
 have hI:Tryz.prog.info? 166 = some Tryz.prog.types[166]:=by kernel_rfl
 refine fnv (args:=_) mixed [] [] [] Tryz.func118 rfl (by kernel_rfl) (cw_ ?_)
 refine loop_at [2,1,0,3] [] (fun r vs _ h'=>∃ (n' sh':Int) (a':Nat) (s':Value) (L':List Pc),r=n'.toNat∧vs=[.v (.int .i64 n'),.v (.int .u64 a'),.v s',.v (.int .i64 sh')]∧0≤n'∧n'≤8∧0≤sh'∧sh'≤64+64*L'.length∧a'<18446744073709551616∧Owns k h' 166 3 s' (L++L').length ((L++L').flatMap Pc.cs)∧(∀ p ∈ L',p.a<18446744073709551616)∧L'.map (fun p=>p.a / 64)++runL a' n'.toNat=runL addr n.toNat∧(L'=[]∨(L'.length=1∧a' % 64=0)∨(L'.length≤2∧n'=0))) n.toNat ⟨n,shift,addr,s,[],rfl,rfl,by omega,hn1,hs0,by simp;omega,ha,by rw [List.append_nil];exact hO,fun p hp=>(by cases hp),rfl,.inl rfl⟩ ?_
 rintro r vs cs mm bx h1 ⟨n',sh',a',s',L',rfl,rfl,n0,n1,s0,s1,a1,hO',hL',hmap,hst⟩
 have ll:L'.length≤2:=by
  rcases hst with rfl | ⟨e,_⟩ | ⟨e,_⟩
  ·simp
  ·omega
  ·exact e
 have tm:((a':Int)).tmod 64=((a' % 64:Nat):Int):=rfl
 conv=>whnf
 refine br_ (fun q1=>?_) fun q1=>?_
 ·have hs1':=he_spec a' n' (by omega)
  have hb:1≤he a' n'∧he a' n'≤8:=by
   rw [hs1'];split <;> omega
  conv=>whnf
  refine ov_i64 (by rw [tm];omega) (cw_ ?_)
  refine ov_i64 (by rw [tm];omega) (cw_ ?_)
  refine new_intro (o:=rowO 166 [.int .u64 a',.int .i64 (he a' n'),.int .i64 sh']) (fun y h2 n_y le_y at_y ot_y=>cw_ ?_)
  refine Owns.app1 (z:=.agg #[.int .u64 0,.int .i64 0,.int .i64 0]) (by kernel_rfl) hI (by kernel_rfl) (by kernel_rfl) (by kernel_rfl) rfl (bytes:=24) (by decide) rfl rfl rfl (hO'.up le_y) at_y rfl rfl (by rw [List.length_append];omega) fun s2 h3 hO2=>?_
  have hO2:Owns k h3 166 3 s2 (L++(L'++[Pc.mk a' (he a' n') sh'])).length ((L++(L'++[Pc.mk a' (he a' n') sh'])).flatMap Pc.cs):=by
   rw [← List.append_assoc,List.flatMap_append,List.length_append];exact hO2
  clear at_y le_y
  conv=>whnf
  refine ov_u64 (by show 0≤he a' n'∧he a' n'≤_;omega) (cw_ ?_)
  refine ov_by (y:=(((a'+(he a' n').toNat) % 18446744073709551616:Nat):Int)) (by rw [wrapU];show ((a':Int)+he a' n') % _=_;omega) (cw_ ?_)
  refine ov_i64 (by show _≤n' - he a' n'∧n' - he a' n'≤_;omega) (cw_ ?_)
  refine ov_i64 (by show _≤8*he a' n'∧8*he a' n'≤_;omega) (cw_ ?_)
  refine ov_i64 (by show _≤sh'+8*he a' n'∧sh'+8*he a' n'≤_;omega) (cw_ ?_)
  have hle:he a' n'≤n':=by rw [hs1'];split <;> omega
  refine ⟨(n' - he a' n').toNat,by omega,n' - he a' n',sh'+8*he a' n',(a'+(he a' n').toNat) % 18446744073709551616,s2,L'++[Pc.mk a' (he a' n') sh'],rfl,rfl,by omega,by omega,by omega,by rw [List.length_append];simp only [List.length_cons,List.length_nil];omega,Nat.mod_lt _ (by decide),hO2,fun p hp=>?_,?_,?_⟩
  ·rcases List.mem_append.1 hp with hp | hp
   ·exact hL' p hp
   ·rw [List.mem_singleton] at hp;subst hp;exact a1
  ·rw [List.map_append,List.append_assoc,← hmap]
   congr 1
   rw [hs1']
   have hn:n'.toNat≠0:=by omega
   split
   ·rename_i hle2
    rw [Int.sub_self]
    show [a' / 64]++runL _ 0=runL a' n'.toNat
    unfold runL
    rw [if_pos rfl,if_neg hn,if_pos (by omega)]
    rfl
   ·rename_i hle2
    unfold runL
    rw [if_neg hn,if_neg (show ¬ n'.toNat≤64 - a' % 64 by omega)]
    rw [show (64 - ((a' % 64:Nat):Int)).toNat=64 - a' % 64 by omega]
    rw [if_neg (show ¬ (n' - (64 - ((a' % 64:Nat):Int))).toNat=0 by omega),if_pos (by omega)]
    rfl
  ·rw [hs1']
   split
   ·refine .inr (.inr ⟨?_,by omega⟩)
    rw [List.length_append]
    rcases hst with rfl | ⟨e,_⟩ | ⟨_,e⟩
    ·simp
    ·simp only [List.length_cons,List.length_nil];omega
    ·omega
   ·rename_i hle2
    rcases hst with rfl | ⟨e,e2⟩ | ⟨_,e⟩
    ·refine .inr (.inl ⟨rfl,?_⟩)
     omega
    ·omega
    ·omega
 ·have hn0:n'=0:=by omega
  subst hn0
  have:runL a' (0:Int).toNat=[]:=rfl
  rw [this,List.append_nil] at hmap
  conv=>whnf
  exact hk s' L' h1 hO' hL' hmap ll
end
end Go.Proofs.YtnjlneefddlaoaaGreat
