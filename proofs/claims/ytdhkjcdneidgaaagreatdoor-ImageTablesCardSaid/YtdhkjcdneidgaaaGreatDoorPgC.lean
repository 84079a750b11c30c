/-
  Pages: entries and addresses, the program's.
-/
import Derived.Test.YtdhkjcdneidgaaaGreatDoorBitX
import Derived.Test.YtdhkjcdneidgaaaGreatDoorPgB
import Derived.Test.YtdhkjcdneidgaaaGreatDoorInsF
import Derived.Test.YtdhkjcdneidgaaaGreatDoorAsP
namespace Go.Proofs.YtdhkjcdneidgaaaGreatDoor
set_option linter.unusedSimpArgs false
set_option linter.unusedVariables false
set_option linter.unusedSimpArgs false
set_option linter.unusedVariables false
open Go Go.Mid Go.RowKit
def lineA (t:Str):Str:=t.takeWhile (· != 10)
theorem lineA_no (t:Str):(10:UInt8) ∉ lineA t:=by
 intro h
 have:=List.all_takeWhile (p:=(· != (10:UInt8))) (l:=t)
 rw [List.all_eq_true] at this
 have:=this 10 h
 simp at this
theorem lineA_split {t:Str} (h:(10:UInt8) ∈ t):t=lineA t++10 :: t.drop ((lineA t).length+1):=by
 induction t with
 | nil=>cases h
 | cons c r ih =>
  by_cases hc:c=10
  ·subst hc
   have:lineA ((10:UInt8) :: r)=[]:=by unfold lineA;rw [List.takeWhile_cons,if_neg (by simp)]
   rw [this];rfl
  ·have hr:(10:UInt8) ∈ r:=by
    rcases List.mem_cons.1 h with h | h
    ·exact absurd h.symm hc
    ·exact h
   have e:lineA (c :: r)=c :: lineA r:=by unfold lineA;rw [List.takeWhile_cons,if_pos (by simpa using hc)]
   rw [e]
   show c :: r=c :: (lineA r++10 :: r.drop ((lineA r).length+1))
   rw [← ih hr]
theorem cutA_yes {t:Str} (h:(10:UInt8) ∈ t):Lib.cut t [10]=(lineA t,t.drop ((lineA t).length+1),true):=by
 have e:Lib.index t [10]=((lineA t).length:Nat):=by
  conv=>lhs;rw [lineA_split h]
  exact idx_byte (lineA_no t)
 unfold Lib.cut
 rw [if_pos (by rw [e];omega),e,Int.toNat_natCast]
 congr 1
 have e2:=congrArg (List.take (lineA t).length) (lineA_split h)
 rw [List.take_left] at e2
 exact e2
theorem cutA_no {t:Str} (h:(10:UInt8) ∉ t):Lib.cut t [10]=(t,[],false):=by
 unfold Lib.cut
 rw [if_neg (by rw [idx_no h];decide)]
def linesA (t:Str):List Str:=if (sp [10] t).getLast? = some [] then (sp [10] t).dropLast else sp [10] t
theorem linesA_nil:linesA []=[]:=by
 unfold linesA
 rw [sp_end (by simp)]
 rfl
theorem linesA_one {w:Str} (h:(10:UInt8) ∉ w) (h0:w≠[]):linesA w=[w]:=by
 unfold linesA
 rw [sp_end h,if_neg (by simpa using h0)]
theorem linesA_cons {w r:Str} (h:(10:UInt8) ∉ w):linesA (w++10 :: r)=w :: linesA r:=by
 unfold linesA
 rw [sp_one h]
 have hne:=sp_ne [10] r
 have e:(w :: sp [10] r).getLast? = (sp [10] r).getLast? := by
  cases hs:sp [10] r with
  | nil=>exact absurd hs hne
  | cons a l=>rw [List.getLast?_cons_cons]
 rw [e]
 split
 ·cases hs:sp [10] r with
  | nil=>exact absurd hs hne
  | cons a l=>rw [List.dropLast_cons_cons]
 ·rfl
theorem linesA_step {t:Str} (h:t≠[]):linesA t=(Lib.cut t [10]).1 :: linesA (Lib.cut t [10]).2.1∧(Lib.cut t [10]).2.1.length<t.length∧(Lib.cut t [10]).1.length≤t.length:=by
 by_cases hn:(10:UInt8) ∈ t
 ·rw [cutA_yes hn]
  have e:=lineA_split hn
  refine ⟨?_,?_,?_⟩
  ·conv=>lhs;rw [e]
   exact linesA_cons (lineA_no t)
  ·have:=congrArg List.length e
   simp only [List.length_append,List.length_cons] at this
   show (t.drop ((lineA t).length+1)).length<t.length
   omega
  ·have:=congrArg List.length e
   simp only [List.length_append,List.length_cons] at this
   show (lineA t).length≤t.length
   omega
 ·rw [cutA_no hn]
  refine ⟨?_,?_,Nat.le_refl _⟩
  ·show linesA t=t :: linesA []
   rw [linesA_nil];exact linesA_one hn h
  ·exact List.length_pos_iff.2 h
end Go.Proofs.YtdhkjcdneidgaaaGreatDoor

namespace Go.Proofs.YtdhkjcdneidgaaaGreatDoor
set_option linter.unusedSimpArgs false
set_option linter.unusedVariables false
set_option linter.unusedSimpArgs false
set_option linter.unusedVariables false
open Go Go.Mid Go.RowKit Go.Bits
attribute [local irreducible] mid
set_option maxRecDepth 10000
structure Pc where
 line:Int
 at_:Nat
 n:Nat
 num:Int
 x:Ins
 nm:Str
structure Bd where
 place:Nat
 pcs:List Pc
 lbs:List (Str×Nat)
 T:Option Tb
def bd0:Bd:=⟨2147483648,[],[],none⟩
def isLo (c:UInt8):Bool:=decide (97≤c.toNat∧c.toNat≤122)
def isNm (c:UInt8):Bool:=isLo c || decide (48≤c.toNat∧c.toNat≤57) || decide (c.toNat=95)
def nameB:Str→Bool
 | []=>false
 | c :: r=>decide (r.length<16) && isLo c && (c :: r).all isNm
def numsI:List Str→Option (List Nat)
 | []=>some []
 | w :: r=>match numA w with
  | none=>none
  | some k=>if k<0 then none else (numsI r).map fun l=>k.toNat :: l
def layPc (b:Bd) (ln:Int) (n:Nat) (num:Int) (x:Ins) (nm:Str):Bd:={ b with pcs:=b.pcs++[⟨ln,b.place,n,num,x,nm⟩],place:=(b.place+n) % 2 ^ 64 }
def findL (l:List (Str×Nat)) (w:Str):Option Nat:=match l with
 | []=>none
 | p :: r=>if p.1=w then some p.2 else findL r w
def labelP (b:Bd) (w:Str):Except Int Bd:=if nameB w=true then (match findL b.lbs w with | some _=>.error 8 | none=>.ok { b with lbs:=b.lbs++[(w,b.place)] }) else .error 9
def dataP (b:Bd) (ln:Int) (n:Nat):List Str→Except Int Bd
 | [w]=>if w[0]? = some 64 then (if nameB (w.drop 1)=true then .ok (layPc b ln n 0 in0 (w.drop 1)) else .error 2) else match numA w with
  | none=>.error 2
  | some k=>if n=8∨(-2147483648≤k∧k<4294967296) then .ok (layPc b ln n k in0 []) else .error 3
 | _=>.error 2
def orgP (b:Bd) (r:List Str):Except Int Bd:=match numsI r with
 | some [k]=>.ok { b with place:=k }
 | _=>.error 2
def rootP (b:Bd) (r:List Str):Except Int Bd:=match numsI r with
 | some [k]=>match b.T with
  | some _=>.error 8
  | none=>if k % 4096=0 then .ok { b with T:=some ⟨k,1,[]⟩ } else .error 1
 | _=>.error 2
def pageP (b:Bd) (r:List Str):Except Int Bd:=match numsI r with
 | some [va,pa,l,fl]=>match b.T with
  | none=>.error 8
  | some t=>match mapP t va pa l fl with
   | .error e=>.error e
   | .ok u=>.ok { b with T:=some u }
 | _=>.error 2
def insP (b:Bd) (ln:Int) (t last:Str):Except Int Bd :=
 if last[0]? = some 64 then
  if nameB (last.drop 1)=true then match parseA (t.take (t.length - last.length)++[48]) with
   | .error e=>.error e
   | .ok x=>if fmtN x.op=4∨fmtN x.op=6 then .ok (layPc b ln 4 0 x (last.drop 1)) else .error 2
  else .error 9
 else match parseA t with
  | .error e=>.error e
  | .ok x=>.ok (layPc b ln 4 0 x [])
abbrev sOrg:Str:=[111,114,103]
abbrev sWord:Str:=[119,111,114,100]
abbrev sDword:Str:=[100,119,111,114,100]
abbrev sRoot:Str:=[114,111,111,116]
abbrev sPage:Str:=[112,97,103,101]
def oneP (b:Bd) (ln:Int) (t:Str):Except Int Bd :=
 if 200<t.length then .error 4 else if (sp [32] t).any (·.isEmpty) then .error 2 else match sp [32] t with
  | []=>.error 2
  | w :: r=>if r=[]∧t.getLast? = some 58 then labelP b t.dropLast
   else if w=sOrg then orgP b r else if w=sWord then dataP b ln 4 r else if w=sDword then dataP b ln 8 r else if w=sRoot then rootP b r else if w=sPage then pageP b r
   else insP b ln t ((w :: r).getLastD [])
def readP:Bd→Nat→List Str→Except (Int×Int) Bd
 | b,_,[]=>.ok b
 | b,n,t :: r=>if t=[]∨t[0]? = some 35 then readP b (n+1) r else match oneP b (n+1:Nat) t with
  | .error e=>.error ((n+1:Nat),e)
  | .ok c=>readP c (n+1) r
def rawP (l:List (Str×Nat)) (p:Pc):Except Int Str :=
 match (if p.nm=[] then some 0 else findL l p.nm) with
 | none=>.error 6
 | some k=>if p.x.op=0 then .ok (eightN (if p.nm=[] then u64N p.num else k) p.n) else
  let y:Ins:=if p.nm=[] then p.x else { p.x with m:=i64N ((k+2 ^ 64 - p.at_) % 2 ^ 64) }
  if y.chk=0 then .ok (eightN (encW y) 4) else .error 3
def pushP (out:List (Nat×Str)) (at_:Nat) (x:UInt8):List (Nat×Str):=match out.getLast? with
 | some p=>if p.2.length<256∧(p.1+p.2.length) % 2 ^ 64=at_ then out.dropLast++[(p.1,p.2++[x])] else out++[(at_,[x])]
 | none=>[(at_,[x])]
def pushL:List (Nat×Str)→Nat→Str→List (Nat×Str)
 | out,_,[]=>out
 | out,a,x :: r=>pushL (pushP out a x) ((a+1) % 2 ^ 64) r
def gathP (l:List (Str×Nat)):List (Nat×Str)→List Pc→Except (Int×Int) (List (Nat×Str))
 | out,[]=>.ok out
 | out,p :: r=>match rawP l p with
  | .error e=>.error (p.line,e)
  | .ok b=>gathP l (pushL out p.at_ b) r
def entP (t:Option Tb):List (Nat×Str):=match t with
 | none=>[]
 | some t=>(entsL t).map fun e=>(atE t.root e,eightN e.p 8)
def satpP (t:Option Tb):Nat:=match t with
 | none=>0
 | some t=>9223372036854775808+t.root / 4096
def buildP (s:Str):Except (Int×Int) (List (Nat×Str)×List (Str×Nat)×Nat):=match readP bd0 0 (linesA s) with
 | .error e=>.error e
 | .ok b=>match gathP b.lbs [] b.pcs with
  | .error e=>.error e
  | .ok out=>if 256<(out++entP b.T).length then .error (0,4) else .ok (out++entP b.T,b.lbs,satpP b.T)
end Go.Proofs.YtdhkjcdneidgaaaGreatDoor

namespace Go.Proofs.YtdhkjcdneidgaaaGreatDoor
set_option linter.unusedSimpArgs false
set_option linter.unusedVariables false
set_option linter.unusedSimpArgs false
set_option linter.unusedVariables false
open Go Go.Mid Go.RowKit Go.Bits
attribute [local irreducible] mid
theorem mayI (va:Nat):decide (((signN (va % 2 ^ 39) 39:Nat):Int)=(va:Int))=decide (mayN va):=by
 rw [Bool.eq_iff_iff,decide_eq_true_iff,decide_eq_true_iff]
 unfold mayN
 omega
theorem or_low {a b k:Nat} (h:b<2 ^ k):a*2 ^ k ||| b=a*2 ^ k+b:=by
 rw [← Nat.shiftLeft_eq,← Nat.shiftLeft_add_eq_or_of_lt h]
section
set_option maxHeartbeats 8000000
set_option maxRecDepth 10000
variable {h:Hp} {K:Value→Hp→Prop}
theorem bones0_x (hk:K (ux 0) h):X Tryz.prog 90 #[.int .i64 0,.int .i64 0] h K:=by
 refine fnv (args:=_) mixed [] [] [] Tryz.func90 rfl (by kernel_rfl) ?_;conv=>whnf
 have sp:X Tryz.prog 124 #[.int .i64 0,.int .i64 0] h (fun v h'=>v=.tuple #[.int .i64 0,.int .i64 0]∧h'=h):=by
  refine fnv (args:=_) mixed [] [] [] Tryz.func124 rfl (by kernel_rfl) ?_;conv=>whnf
  exact ⟨rfl,rfl⟩
 refine sp.mono ?_
 rintro _ _ ⟨rfl,rfl⟩
 conv=>whnf
 exact hk
theorem blow_x (w s:Nat) (hw:w<2 ^ 64) (hs:s≤64) (hk:K (ux (w % 2 ^ s)) h):X Tryz.prog 62 #[ux w,.int .i64 s] h K:=by
 refine fnv (args:=_) mixed [] [] [] Tryz.func62 rfl (by kernel_rfl) ?_;conv=>whnf
 by_cases h0:s=0
 ·subst h0
  refine bones0_x ?_
  conv=>whnf
  refine val_by (and64 hw (show 0<2 ^ 64 by decide)) ?_;conv=>whnf
  rw [Nat.and_zero]
  rw [Nat.pow_zero,Nat.mod_one] at hk
  exact hk
 ·refine bones_x 0 s (by decide) ⟨by omega,by omega⟩ ?_
  rw [Nat.pow_zero,Nat.mul_one]
  conv=>whnf
  have h1:2 ^ s≤2 ^ 64:=Nat.pow_le_pow_right (by decide) hs
  have h2:0<2 ^ s:=Nat.pos_of_ne_zero (by simp)
  refine val_by (and64 hw (show 2 ^ s - 1<2 ^ 64 by omega)) ?_;conv=>whnf
  rw [Nat.and_two_pow_sub_one_eq_mod]
  exact hk
theorem pgppn_x (p:Nat) (hp:p<2 ^ 64) (hk:K (ux (ppnN p)) h):X Tryz.prog 63 #[ux p] h K:=by
 refine fnv (args:=_) mixed [] [] [] Tryz.func63 rfl (by kernel_rfl) ?_;conv=>whnf
 exact bcut_x p 10 44 hp (by decide) (by decide) hk
theorem pgmake_x (n fl:Nat) (hn:n<2 ^ 64) (hf:fl<2 ^ 64) (hk:K (ux (makeN n fl)) h):X Tryz.prog 33 #[ux n,ux fl] h K:=by
 have h1:=Nat.mod_lt n (show 0<2 ^ 44 by decide)
 have h2:=Nat.mod_lt fl (show 0<2 ^ 10 by decide)
 refine fnv (args:=_) mixed [] [] [] Tryz.func33 rfl (by kernel_rfl) ?_;conv=>whnf
 refine blow_x n 44 hn (by decide) ?_
 conv=>whnf
 refine ov_by (shl64 (n % 2 ^ 44) 10 (by decide)) ?_
 conv=>whnf
 refine blow_x fl 10 hf (by decide) ?_
 conv=>whnf
 rw [Nat.mod_eq_of_lt (show n % 2 ^ 44*2 ^ 10<18446744073709551616 by omega)]
 refine val_by (or64 (show n % 2 ^ 44*2 ^ 10<2 ^ 64 by omega) (show fl % 2 ^ 10<2 ^ 64 by omega)) ?_;conv=>whnf
 rw [or_low h2]
 exact hk
theorem pghas_x (p i:Nat) (hp:p<2 ^ 64) (hi:i≤63) (hk:K (.bool (decide (bitN p i=1))) h):X Tryz.prog 60 #[ux p,.int .i64 i] h K:=by
 have h1:p / 2 ^ i<2 ^ 64:=Nat.lt_of_le_of_lt (Nat.div_le_self _ _) hp
 refine fnv (args:=_) mixed [] [] [] Tryz.func60 rfl (by kernel_rfl) ?_;conv=>whnf
 refine ov_by (show IntKind.u64.wrap (i:Int)=(i:Int) from w64 (by omega)) ?_
 conv=>whnf
 refine val_by (shr64 p i (by omega)) ?_;conv=>whnf
 refine val_by (and64 h1 (show 1<2 ^ 64 by decide)) ?_;conv=>whnf
 rw [Nat.and_one_is_mod]
 have e:p / 2 ^ i % 2=bitN p i:=rfl
 rw [e]
 exact kq hk (bI (by rw [Bool.eq_iff_iff];simp;omega))
theorem pgsome_x {b:Nat} {L:List Nat} {n:Nat} (p:Nat) (hp:p<2 ^ 64) (hb:h b=some (rowO 3 (L.map fun i=>.int .i64 (i:Nat)))) (hn:n=L.length) (hl:n≤64) (hL:∀ i ∈ L,i≤63) (hk:K (.bool (L.any fun i=>decide (bitN p i=1))) h):X Tryz.prog 61 #[ux p,.slice (some ⟨b,0,none⟩) n n] h K:=by
 subst hn
 refine fnv (args:=_) mixed [] [] [] Tryz.func61 rfl (by kernel_rfl) ?_;conv=>whnf
 refine loop_at [9] [] (fun q vs _ h'=>h=h'∧∃ i:Nat,i≤L.length∧q=L.length - i∧vs=[.v (.int .i64 i)]∧∀ x ∈ L.take i,bitN p x≠1) L.length ⟨rfl,0,by omega,by omega,rfl,by simp⟩ ?_
 rintro q vs cs mm bx _ ⟨rfl,i,hi,rfl,rfl,hno⟩
 conv=>whnf
 refine bsel_intro (fun q1=>?_) (fun q1=>?_) <;> try simp only [bsL] at q1
 ·have hiL:i<L.length:=by omega
  obtain ⟨x,hx⟩:∃ x,L[i]? = some x:=⟨_,List.getElem?_eq_getElem hiL⟩
  have hx63:=hL x (List.mem_of_getElem? hx)
  conv=>whnf
  (first | refine need_intro (⟨by omega,by omega⟩) ?_ | refine must.mk (⟨by omega,by omega⟩) ?_);conv=>whnf
  refine ⟨_,loadI (j:=i) aggIn hb rfl (by rw [List.getElem?_map,hx];rfl),?_⟩;conv=>whnf
  refine pghas_x p x hp hx63 ?_
  conv=>whnf
  refine bsel_intro (fun q2=>?_) (fun q2=>?_) <;> try simp only [bsL] at q2
  ·have e:(L.any fun i=>decide (bitN p i=1))=true:=List.any_eq_true.2 ⟨x,List.mem_of_getElem? hx,by simpa using q2⟩
   rw [e] at hk
   exact hk
  ·conv=>whnf
   (first | refine ov_c (by simp only [loK,hiK];omega) ?_ | refine ov_c (by decide) ?_);conv=>whnf
   refine ⟨L.length - (i+1),by omega,rfl,i+1,by omega,rfl,rfl,fun y hy=>?_⟩
   rw [List.take_add_one,hx] at hy
   rcases List.mem_append.1 hy with hy | hy
   ·exact hno y hy
   ·simp only [Option.toList_some,List.mem_singleton] at hy;subst hy;simpa using q2
 ·have e:(L.any fun i=>decide (bitN p i=1))=false:=by
   rw [List.any_eq_false]
   intro x hx
   have:=hno x (by rw [List.take_of_length_le (by omega)];exact hx)
   simpa using this
  rw [e] at hk
  exact hk
theorem pgkind_x (p l:Nat) (hp:p<2 ^ 64) (hl:l≤2) (hk:K (.int .i64 (kindN p l)) h):X Tryz.prog 29 #[ux p,.int .i64 l] h K:=by
 refine X.forget ?_
 have hk':∀ h':Hp,h.le h'→(∃ g:Hp,g.le h'∧K (.int .i64 (kindN p l)) g):=fun h' hle=>⟨h,hle,hk⟩
 clear hk
 have hpp:ppnN p<2 ^ 64:=Nat.lt_of_lt_of_le (Nat.mod_lt _ (by decide)) (by decide)
 refine fnv (args:=_) mixed [] [] [] Tryz.func29 rfl (by kernel_rfl) ?_;conv=>whnf
 refine bsel_false (by simp;omega) ?_;conv=>whnf
 have b2:∀ i,¬ bitN p i=1→bitN p i=0:=fun i hn=>by have:=bitN_lt p i;omega
 refine pghas_x p 0 hp (by decide) ?_
 by_cases c0:bitN p 0=1
 rotate_left
 ·rw [decide_eq_false c0]
  conv=>whnf
  have Z:bitN p 0=0∨(bitN p 2=1∧bitN p 1=0)∨p / 2 ^ 54≠0:=.inl (b2 _ c0)
  have e:kindN p l=0:=by unfold kindN;rw [if_pos Z]
  rw [e] at hk'
  exact hk' h (Hp.le_refl _)
 rw [decide_eq_true c0]
 conv=>whnf
 refine pghas_x p 2 hp (by decide) ?_
 by_cases c2:bitN p 2=1
 ·rw [decide_eq_true c2]
  conv=>whnf
  refine pghas_x p 1 hp (by decide) ?_
  by_cases c1:bitN p 1=1
  ·rw [decide_eq_true c1]
   have NW:¬ (bitN p 2=1∧bitN p 1=0):=fun hh=>by omega
   conv=>whnf
   refine val_by (shr64 p 54 (by decide)) ?_;conv=>whnf
   refine bsel_intro (fun q1=>?_) (fun q1=>?_) <;> try simp only [bsL] at q1
   ·have Z:bitN p 0=0∨(bitN p 2=1∧bitN p 1=0)∨p / 2 ^ 54≠0:=.inr (.inr (by omega))
    conv=>whnf
    have e:kindN p l=0:=by unfold kindN;rw [if_pos Z]
    rw [e] at hk'
    exact hk' h (Hp.le_refl _)
   have NZ:¬ (bitN p 0=0∨(bitN p 2=1∧bitN p 1=0)∨p / 2 ^ 54≠0):=by
    rintro (e | e | e)
    ·omega
    ·exact NW e
    ·omega
   conv=>whnf
   refine new_intro (o:=rowO 3 [.int .i64 1,.int .i64 3]) (fun y h1 n_y le_y at_y ot_y=>?_);conv=>whnf
   refine pgsome_x (L:=[1,3]) p hp at_y rfl (by decide) (by decide) ?_
   simp only [List.any_cons,List.any_nil,Bool.or_false]
   by_cases c13:bitN p 1=1∨bitN p 3=1
   ·rw [show (decide (bitN p 1=1) || decide (bitN p 3=1))=true by simpa using c13]
    conv=>whnf
    refine pgppn_x p hp ?_
    conv=>whnf
    (first | refine ov_c (by simp only [loK,hiK];omega) ?_ | refine ov_c (by decide) ?_);conv=>whnf
    rw [show (9:Int)*(l:Int)=((9*l:Nat):Int) by omega]
    refine blow_x (ppnN p) (9*l) hpp (by omega) ?_
    conv=>whnf
    refine bsel_intro (fun q2=>?_) (fun q2=>?_) <;> try simp only [bsL] at q2
    ·have e:kindN p l=0:=by unfold kindN;rw [if_neg NZ,if_pos c13,if_pos (by omega)]
     rw [e] at hk'
     exact hk' _ le_y
    ·have e:kindN p l=2:=by unfold kindN;rw [if_neg NZ,if_pos c13,if_neg (by omega)]
     rw [e] at hk'
     exact hk' _ le_y
   ·rw [show (decide (bitN p 1=1) || decide (bitN p 3=1))=false by simpa using c13]
    conv=>whnf
    refine bsel_intro (fun q2=>?_) (fun q2=>?_) <;> try simp only [bsL] at q2
    ·have e:kindN p l=0:=by unfold kindN;rw [if_neg NZ,if_neg c13,if_pos (.inl (by omega))]
     rw [e] at hk'
     exact hk' _ le_y
    ·conv=>whnf
     refine new_intro (o:=rowO 3 [.int .i64 4,.int .i64 6,.int .i64 7]) (fun z h2 n_z le_z at_z ot_z=>?_);conv=>whnf
     refine pgsome_x (L:=[4,6,7]) p hp at_z rfl (by decide) (by decide) ?_
     simp only [List.any_cons,List.any_nil,Bool.or_false]
     have le2:=Hp.le_trans le_y le_z
     by_cases c467:bitN p 4=1∨bitN p 6=1∨bitN p 7=1
     ·rw [show (decide (bitN p 4=1) || (decide (bitN p 6=1) || decide (bitN p 7=1)))=true by simpa using c467]
      have e:kindN p l=0:=by unfold kindN;rw [if_neg NZ,if_neg c13,if_pos (.inr c467)]
      rw [e] at hk'
      conv=>whnf
      exact hk' _ le2
     ·rw [show (decide (bitN p 4=1) || (decide (bitN p 6=1) || decide (bitN p 7=1)))=false by simpa using c467]
      have e:kindN p l=1:=by unfold kindN;rw [if_neg NZ,if_neg c13,if_neg (fun hh=>hh.elim (fun h1=>by omega) c467)]
      rw [e] at hk'
      conv=>whnf
      exact hk' _ le2
  ·rw [decide_eq_false c1]
   conv=>whnf
   have Z:bitN p 0=0∨(bitN p 2=1∧bitN p 1=0)∨p / 2 ^ 54≠0:=.inr (.inl ⟨c2,b2 _ c1⟩)
   have e:kindN p l=0:=by unfold kindN;rw [if_pos Z]
   rw [e] at hk'
   exact hk' h (Hp.le_refl _)
 ·rw [decide_eq_false c2]
  have NW:¬ (bitN p 2=1∧bitN p 1=0):=fun hh=>c2 hh.1
  conv=>whnf
  refine val_by (shr64 p 54 (by decide)) ?_;conv=>whnf
  refine bsel_intro (fun q1=>?_) (fun q1=>?_) <;> try simp only [bsL] at q1
  ·have Z:bitN p 0=0∨(bitN p 2=1∧bitN p 1=0)∨p / 2 ^ 54≠0:=.inr (.inr (by omega))
   conv=>whnf
   have e:kindN p l=0:=by unfold kindN;rw [if_pos Z]
   rw [e] at hk'
   exact hk' h (Hp.le_refl _)
  have NZ:¬ (bitN p 0=0∨(bitN p 2=1∧bitN p 1=0)∨p / 2 ^ 54≠0):=by
   rintro (e | e | e)
   ·omega
   ·exact NW e
   ·omega
  conv=>whnf
  refine new_intro (o:=rowO 3 [.int .i64 1,.int .i64 3]) (fun y h1 n_y le_y at_y ot_y=>?_);conv=>whnf
  refine pgsome_x (L:=[1,3]) p hp at_y rfl (by decide) (by decide) ?_
  simp only [List.any_cons,List.any_nil,Bool.or_false]
  by_cases c13:bitN p 1=1∨bitN p 3=1
  ·rw [show (decide (bitN p 1=1) || decide (bitN p 3=1))=true by simpa using c13]
   conv=>whnf
   refine pgppn_x p hp ?_
   conv=>whnf
   (first | refine ov_c (by simp only [loK,hiK];omega) ?_ | refine ov_c (by decide) ?_);conv=>whnf
   rw [show (9:Int)*(l:Int)=((9*l:Nat):Int) by omega]
   refine blow_x (ppnN p) (9*l) hpp (by omega) ?_
   conv=>whnf
   refine bsel_intro (fun q2=>?_) (fun q2=>?_) <;> try simp only [bsL] at q2
   ·have e:kindN p l=0:=by unfold kindN;rw [if_neg NZ,if_pos c13,if_pos (by omega)]
    rw [e] at hk'
    exact hk' _ le_y
   ·have e:kindN p l=2:=by unfold kindN;rw [if_neg NZ,if_pos c13,if_neg (by omega)]
    rw [e] at hk'
    exact hk' _ le_y
  ·rw [show (decide (bitN p 1=1) || decide (bitN p 3=1))=false by simpa using c13]
   conv=>whnf
   refine bsel_intro (fun q2=>?_) (fun q2=>?_) <;> try simp only [bsL] at q2
   ·have e:kindN p l=0:=by unfold kindN;rw [if_neg NZ,if_neg c13,if_pos (.inl (by omega))]
    rw [e] at hk'
    exact hk' _ le_y
   ·conv=>whnf
    refine new_intro (o:=rowO 3 [.int .i64 4,.int .i64 6,.int .i64 7]) (fun z h2 n_z le_z at_z ot_z=>?_);conv=>whnf
    refine pgsome_x (L:=[4,6,7]) p hp at_z rfl (by decide) (by decide) ?_
    simp only [List.any_cons,List.any_nil,Bool.or_false]
    have le2:=Hp.le_trans le_y le_z
    by_cases c467:bitN p 4=1∨bitN p 6=1∨bitN p 7=1
    ·rw [show (decide (bitN p 4=1) || (decide (bitN p 6=1) || decide (bitN p 7=1)))=true by simpa using c467]
     have e:kindN p l=0:=by unfold kindN;rw [if_neg NZ,if_neg c13,if_pos (.inr c467)]
     rw [e] at hk'
     conv=>whnf
     exact hk' _ le2
    ·rw [show (decide (bitN p 4=1) || (decide (bitN p 6=1) || decide (bitN p 7=1)))=false by simpa using c467]
     have e:kindN p l=1:=by unfold kindN;rw [if_neg NZ,if_neg c13,if_neg (fun hh=>hh.elim (fun h1=>by omega) c467)]
     rw [e] at hk'
     conv=>whnf
     exact hk' _ le2
theorem pgthere_x (l:Int) (hk:K (.bool (decide (0≤l∧l≤2))) h):X Tryz.prog 57 #[.int .i64 l] h K:=by
 refine fnv (args:=_) mixed [] [] [] Tryz.func57 rfl (by kernel_rfl) ?_;conv=>whnf
 refine bsel_intro (fun q1=>?_) (fun q1=>?_) <;> try simp only [bsL] at q1
 ·conv=>whnf
  exact kq hk (bI (by rw [Bool.eq_iff_iff];simp;omega))
 ·exact kq hk (bI (by rw [Bool.eq_iff_iff];simp;omega))
theorem pgvlow_x (l:Nat) (hl:l≤2) (hk:K (.int .i64 (12+9*l:Nat)) h):X Tryz.prog 59 #[.int .i64 l] h K:=by
 refine fnv (args:=_) mixed [] [] [] Tryz.func59 rfl (by kernel_rfl) ?_;conv=>whnf
 (first | refine ov_c (by simp only [loK,hiK];omega) ?_ | refine ov_c (by decide) ?_);conv=>whnf
 (first | refine ov_c (by simp only [loK,hiK];omega) ?_ | refine ov_c (by decide) ?_);conv=>whnf
 exact kq hk (iI (by omega))
theorem pgplace_x (va l:Nat) (hv:va<2 ^ 64) (hl:l≤2) (hk:K (.int .i64 (placeN va l)) h):X Tryz.prog 28 #[ux va,.int .i64 l] h K:=by
 have hp:=place_lt va l
 refine fnv (args:=_) mixed [] [] [] Tryz.func28 rfl (by kernel_rfl) ?_;conv=>whnf
 refine pgthere_x l ?_
 rw [decide_eq_true (show 0≤(l:Int)∧(l:Int)≤2 by omega)]
 conv=>whnf
 refine pgvlow_x l hl ?_
 conv=>whnf
 refine bcut_x va (12+9*l) 9 hv (by omega) (by decide) ?_
 conv=>whnf
 have e:va / 2 ^ (12+9*l) % 2 ^ 9=placeN va l:=rfl
 rw [e]
 (first | refine ov_c (by simp only [loK,hiK];omega) ?_ | refine ov_c (by decide) ?_);conv=>whnf
 exact hk
theorem pgsize_x (l:Int) (hk:K (ux (if 0≤l∧l≤2 then sizeN l.toNat else 0)) h):X Tryz.prog 64 #[.int .i64 l] h K:=by
 refine fnv (args:=_) mixed [] [] [] Tryz.func64 rfl (by kernel_rfl) ?_;conv=>whnf
 refine pgthere_x l ?_
 by_cases hl:0≤l∧l≤2
 ·rw [decide_eq_true hl]
  rw [if_pos hl] at hk
  obtain ⟨k,rfl⟩:∃ k:Nat,l=k:=⟨l.toNat,by omega⟩
  conv=>whnf
  refine pgvlow_x k (by omega) ?_
  conv=>whnf
  refine ov_u64 (by omega) ?_;conv=>whnf
  refine ov_by (shl64 1 (12+9*k) (by omega)) ?_
  rw [Nat.one_mul,Nat.mod_eq_of_lt (Nat.lt_of_lt_of_le (Nat.pow_lt_pow_right (by decide) (show 12+9*k<31 by omega)) (by decide))]
  rw [Int.toNat_natCast] at hk
  exact hk
 ·rw [decide_eq_false hl]
  rw [if_neg hl] at hk
  conv=>whnf
  exact hk
theorem pgmay_x (va:Nat) (hv:va<2 ^ 64) (hk:K (.bool (decide (mayN va))) h):X Tryz.prog 27 #[ux va] h K:=by
 refine fnv (args:=_) mixed [] [] [] Tryz.func27 rfl (by kernel_rfl) ?_;conv=>whnf
 refine bsign_x va 39 hv (by decide) ?_
 conv=>whnf
 have e:=mayI va
 generalize signN (va % 2 ^ 39) 39=s at e ⊢
 rw [← e] at hk
 exact kq hk (bI (by rw [Bool.eq_iff_iff];simp only [beq_iff_eq,decide_eq_true_eq]))
end
end Go.Proofs.YtdhkjcdneidgaaaGreatDoor
