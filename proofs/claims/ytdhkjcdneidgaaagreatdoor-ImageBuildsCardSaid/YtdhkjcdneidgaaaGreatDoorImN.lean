/-
  Images: names and numbers, the program's.
-/
import Derived.Test.YtdhkjcdneidgaaaGreatDoorImP
import Derived.Test.YtdhkjcdneidgaaaGreatDoorRgRegA
import Derived.Test.YtdhkjcdneidgaaaGreatDoorImmP
import Derived.Test.YtdhkjcdneidgaaaGreatDoorAsF
set_option linter.unusedSimpArgs false
set_option linter.unusedVariables false
set_option maxHeartbeats 8000000
set_option maxRecDepth 10000
set_option linter.unusedSimpArgs false
set_option linter.unusedVariables false
namespace Go.Proofs.YtdhkjcdneidgaaaGreatDoor
open Go Go.Mid Go.RowKit Go.Bits
structure POk (p:Pc):Prop where
 at_:p.at_<2 ^ 64
 n:p.n=4∨p.n=8
 m1 : -9223372036854775808≤p.x.m
 m2:p.x.m≤9223372036854775807
structure BdI (n:Nat) (b:Bd):Prop where
 place:b.place<2 ^ 64
 np:b.pcs.length≤n
 nl:b.lbs.length≤n
 P:∀ p ∈ b.pcs,POk p
 L:∀ l ∈ b.lbs,l.2<2 ^ 64
 T:∀ t,b.T=some t→(∃ lev,TInv t lev)∧t.L.length≤3*n
theorem BdI.zero:BdI 0 bd0:=⟨by decide,Nat.le_refl _,Nat.le_refl _,fun p hp=>(by cases hp),fun p hp=>(by cases hp),fun t ht=>(by cases ht)⟩
theorem BdI.more {n m:Nat} {b:Bd} (i:BdI n b) (h:n≤m):BdI m b:=⟨i.place,Nat.le_trans i.np h,Nat.le_trans i.nl h,i.P,i.L,fun t ht=>⟨(i.T t ht).1,by have:=(i.T t ht).2;omega⟩⟩
theorem BdI.lay {n:Nat} {b:Bd} (i:BdI n b) {ln:Int} {k:Nat} {num:Int} {x:Ins} {nm:Str} (hk:k=4∨k=8) (m1 : -9223372036854775808≤x.m) (m2:x.m≤9223372036854775807):BdI (n+1) (layPc b ln k num x nm):=by
 refine ⟨Nat.mod_lt _ (by decide),?_,Nat.le_succ_of_le i.nl,fun p hp=>?_,i.L,fun t ht=>⟨(i.T t ht).1,by have:=(i.T t ht).2;omega⟩⟩
 ·show (b.pcs++[_]).length≤_
  rw [List.length_append];have:=i.np;simp;omega
 ·rcases List.mem_append.1 hp with hp | hp
  ·exact i.P p hp
  ·rw [List.mem_singleton.1 hp];exact ⟨i.place,hk,m1,m2⟩
theorem dataP_inv {n:Nat} {b c:Bd} (i:BdI n b) {ln:Int} {k:Nat} {r:List Str} (hk:k=4∨k=8) (h:dataP b ln k r=.ok c):BdI (n+1) c:=by
 unfold dataP at h
 split at h
 ·split at h
  ·split at h
   ·cases h;exact i.lay hk (by decide) (by decide)
   ·cases h
  ·split at h
   ·cases h
   ·split at h
    ·cases h;exact i.lay hk (by decide) (by decide)
    ·cases h
 ·cases h
theorem insP_inv {n:Nat} {b c:Bd} (i:BdI n b) {ln:Int} {t l:Str} (h:insP b ln t l=.ok c):BdI (n+1) c:=by
 unfold insP at h
 split at h
 ·split at h
  ·split at h
   ·cases h
   ·rename_i x hx
    have hr:=im_chk_rng (im_parse_chk hx)
    split at h
    ·cases h;exact i.lay (.inl rfl) hr.1 hr.2
    ·cases h
  ·cases h
 ·split at h
  ·cases h
  ·rename_i x hx
   have hr:=im_chk_rng (im_parse_chk hx)
   cases h;exact i.lay (.inl rfl) hr.1 hr.2
theorem orgP_inv {n:Nat} {b c:Bd} (i:BdI n b) {r:List Str} (h:orgP b r=.ok c):BdI (n+1) c:=by
 unfold orgP at h
 split at h
 ·rename_i k hk
  cases h
  have:=(numsI_some _ _ hk).2 k (by simp)
  have j:=i.more (Nat.le_succ n)
  exact ⟨show k<2 ^ 64 by omega,j.np,j.nl,j.P,j.L,j.T⟩
 ·cases h
theorem rootP_inv {n:Nat} {b c:Bd} (i:BdI n b) {r:List Str} (h:rootP b r=.ok c):BdI (n+1) c:=by
 unfold rootP at h
 split at h
 ·rename_i k hk
  have hk':=(numsI_some _ _ hk).2 k (by simp)
  split at h
  ·cases h
  ·split at h
   ·rename_i h4
    cases h
    have j:=i.more (Nat.le_succ n)
    exact ⟨j.place,j.np,j.nl,j.P,j.L,fun t ht=>by cases ht;exact ⟨⟨_,TInv.new k (by omega) h4⟩,Nat.zero_le _⟩⟩
   ·cases h
 ·cases h
theorem pageP_inv {n:Nat} {b c:Bd} (i:BdI n b) {r:List Str} (h:pageP b r=.ok c):BdI (n+1) c:=by
 unfold pageP at h
 split at h
 ·split at h
  ·cases h
  ·rename_i t ht
   obtain ⟨⟨lev,it⟩,hl⟩:=i.T t ht
   split at h
   ·cases h
   ·rename_i u hu
    cases h
    have j:=i.more (Nat.le_succ n)
    obtain ⟨h1,h2,h3⟩:=map_inv it hu
    exact ⟨j.place,j.np,j.nl,j.P,j.L,fun t' ht'=>by cases ht';exact ⟨h1,by omega⟩⟩
 ·cases h
theorem labelP_inv {n:Nat} {b c:Bd} (i:BdI n b) {w:Str} (h:labelP b w=.ok c):BdI (n+1) c:=by
 unfold labelP at h
 split at h
 ·split at h
  ·cases h
  ·cases h
   have j:=i.more (Nat.le_succ n)
   refine ⟨j.place,j.np,?_,j.P,fun l hl=>?_,j.T⟩
   ·show (b.lbs++[_]).length≤_
    rw [List.length_append];have:=i.nl;simp;omega
   ·rcases List.mem_append.1 hl with hl | hl
    ·exact i.L l hl
    ·rw [List.mem_singleton.1 hl];exact i.place
 ·cases h
theorem oneP_inv {n:Nat} {b c:Bd} (i:BdI n b) {ln:Int} {t:Str} (h:oneP b ln t=.ok c):BdI (n+1) c:=by
 unfold oneP at h
 split at h
 ·cases h
 split at h
 ·cases h
 split at h
 ·cases h
 split at h
 ·exact labelP_inv i h
 split at h
 ·exact orgP_inv i h
 split at h
 ·exact dataP_inv i (.inl rfl) h
 split at h
 ·exact dataP_inv i (.inr rfl) h
 split at h
 ·exact rootP_inv i h
 split at h
 ·exact pageP_inv i h
 ·exact insP_inv i h
def stepP (b:Bd) (n:Nat) (t:Str):Except Int Bd:=if t=[]∨t[0]? = some 35 then .ok b else oneP b (n+1:Nat) t
theorem readP_step (b:Bd) (n:Nat) (t:Str) (r:List Str):readP b n (t :: r)=match stepP b n t with
  | .error e=>.error ((n+1:Nat),e)
  | .ok c=>readP c (n+1) r:=by
 unfold stepP
 show (if t=[]∨t[0]? = some 35 then readP b (n+1) r else match oneP b (n+1:Nat) t with
  | .error e=>.error ((n+1:Nat),e)
  | .ok c=>readP c (n+1) r)=_
 split <;> rfl
theorem stepP_inv {n m:Nat} {b c:Bd} (i:BdI n b) {t:Str} (h:stepP b m t=.ok c):BdI (n+1) c:=by
 unfold stepP at h
 split at h
 ·cases h;exact i.more (Nat.le_succ n)
 ·exact oneP_inv i h
theorem oneP_err {b:Bd} {ln:Int} {t:Str} {e:Int} (h:oneP b ln t=.error e):e≠0:=by
 have hd:∀ {k r},dataP b ln k r=.error e→e≠0:=fun h=>by
  unfold dataP at h
  repeat' split at h
  all_goals first | (cases h;done) | (cases h;decide)
 unfold oneP at h
 split at h
 ·cases h;decide
 split at h
 ·cases h;decide
 split at h
 ·cases h;decide
 split at h
 ·unfold labelP at h
  repeat' split at h
  all_goals first | (cases h;done) | (cases h;decide)
 split at h
 ·unfold orgP at h
  repeat' split at h
  all_goals first | (cases h;done) | (cases h;decide)
 split at h
 ·exact hd h
 split at h
 ·exact hd h
 split at h
 ·unfold rootP at h
  repeat' split at h
  all_goals first | (cases h;done) | (cases h;decide)
 split at h
 ·unfold pageP at h
  split at h
  ·split at h
   ·cases h;decide
   ·split at h
    ·rename_i e' he
     cases h
     unfold mapP at he
     repeat' split at he
     all_goals first | (cases he;done) | (cases he;decide)
    ·cases h
  ·cases h;decide
 ·unfold insP at h
  split at h
  ·split at h
   ·split at h
    ·rename_i e' he;cases h;exact im_parse_err he
    ·split at h
     ·cases h
     ·cases h;decide
   ·cases h;decide
  ·split at h
   ·rename_i e' he;cases h;exact im_parse_err he
   ·cases h
theorem rawP_err {l:List (Str×Nat)} {p:Pc} {e:Int} (h:rawP l p=.error e):e≠0:=by
 unfold rawP at h
 split at h
 ·cases h;decide
 ·dsimp only at h
  repeat' split at h
  all_goals first | (cases h;done) | (cases h;decide)
theorem rawP_len {l:List (Str×Nat)} {p:Pc} {o:Str} (hp:POk p) (h:rawP l p=.ok o):0<o.length∧o.length≤8:=by
 have hn:=hp.n
 unfold rawP at h
 split at h
 ·cases h
 ·dsimp only at h
  repeat' split at h
  all_goals first | (cases h;done) | (cases h;rw [eight_len];omega)
theorem gathP_app (l:List (Str×Nat)):∀ (P Q:List Pc) (o:List (Nat×Str)),gathP l o (P++Q)=match gathP l o P with
  | .error e=>Except.error e
  | .ok o=>gathP l o Q
 | [],Q,o=>rfl
 | p :: P,Q,o=>by
  show (match rawP l p with
   | .error e=>Except.error (p.line,e)
   | .ok b=>gathP l (pushL o p.at_ b) (P++Q))=(match (match rawP l p with
   | .error e=>Except.error (p.line,e)
   | .ok b=>gathP l (pushL o p.at_ b) P) with
   | .error e=>Except.error e
   | .ok o=>gathP l o Q)
  cases rawP l p with
  | error e=>rfl
  | ok b=>exact gathP_app l P Q _
theorem gathP_one (l:List (Str×Nat)) (p:Pc) (o:List (Nat×Str)):gathP l o [p]=match rawP l p with
  | .error e=>Except.error (p.line,e)
  | .ok b=>.ok (pushL o p.at_ b):=by
 show (match rawP l p with
   | .error e=>Except.error (p.line,e)
   | .ok b=>gathP l (pushL o p.at_ b) [])=_
 cases rawP l p <;> rfl
theorem pushL_snoc:∀ (l:Str) (o:List (Nat×Str)) (a:Nat) (x:UInt8),a<2 ^ 64→pushL o a (l++[x])=pushP (pushL o a l) ((a+l.length) % 2 ^ 64) x
 | [],o,a,x,h=>by
  show pushL (pushP o a x) ((a+1) % 2 ^ 64) []=pushP o ((a+0) % 2 ^ 64) x
  rw [show (a+0) % 2 ^ 64=a by omega];rfl
 | y :: l,o,a,x,h=>by
  show pushL (pushP o a y) ((a+1) % 2 ^ 64) (l++[x])=pushP (pushL (pushP o a y) ((a+1) % 2 ^ 64) l) ((a+(l.length+1)) % 2 ^ 64) x
  rw [pushL_snoc l _ _ x (Nat.mod_lt _ (by decide))]
  congr 1
  omega
end Go.Proofs.YtdhkjcdneidgaaaGreatDoor
namespace Go.Proofs.YtdhkjcdneidgaaaGreatDoor
open Go Go.Mid Go.RowKit Go.Bits
attribute [local irreducible] mid
def sufB (s p:Str):Bool:=decide (p.length≤s.length∧s.drop (s.length - p.length)=p)
theorem sufB_one {s:Str} {c:UInt8}:sufB s [c]=true↔s.getLast? = some c:=by
 unfold sufB
 rw [decide_eq_true_iff]
 rcases List.eq_nil_or_concat s with rfl | ⟨l,b,rfl⟩
 ·simp
 ·simp [List.drop_append]
theorem sp_suf:∀ (n:Nat) (s:Str),s.length≤n→(sp [32] s).getLastD [] <:+ s
 | n,s,h=>by
  by_cases hi:Lib.index s [32] = -1
  ·rw [sp_miss hi]
   exact List.suffix_refl _
  ·obtain ⟨i,hi⟩:∃ i:Nat,Lib.index s [32]=i:=⟨(Lib.index s [32]).toNat,by have:=Lib.index_ge s [32];omega⟩
   rw [sp_hit (by simp) hi]
   have hne:=sp_ne [32] (s.drop (i+1))
   have e:(s.take i :: sp [32] (s.drop (i+1))).getLastD []=(sp [32] (s.drop (i+1))).getLastD []:=by
    rw [List.getLastD_eq_getLast?,List.getLastD_eq_getLast?,List.getLast?_cons_of_ne_nil hne]
   show (s.take i :: sp [32] (s.drop (i+1))).getLastD [] <:+ s
   rw [e]
   match n with
   | 0=>exact absurd (Lib.index_long (s:=s) (sub:=[32]) (by simp;omega) (fun e=>by rw [← e] at h;simp at h)) (by omega)
   | n+1=>exact (sp_suf n (s.drop (i+1)) (by rw [List.length_drop];omega)).trans (List.drop_suffix _ _)
theorem dw_cases (p:UInt8→Bool):∀ l:Str,(l.dropWhile p=[]∧∀ x ∈ l,p x=true)∨∃ b r,l.dropWhile p=b :: r∧p b=false∧b ∈ l
 | []=>.inl ⟨rfl,fun x h=>(by cases h)⟩
 | a :: l=>by
  cases ha:p a with
  | false=>exact .inr ⟨a,l,by simp [List.dropWhile,ha],ha,by simp⟩
  | true =>
   have e:(a :: l).dropWhile p=l.dropWhile p:=by simp [List.dropWhile,ha]
   rw [e]
   rcases dw_cases p l with ⟨h1,h2⟩ | ⟨b,r,h1,h2,h3⟩
   ·exact .inl ⟨h1,fun x hx=>by rcases List.mem_cons.1 hx with rfl | hx;exact ha;exact h2 x hx⟩
   ·exact .inr ⟨b,r,h1,h2,by simp [h3]⟩
theorem trim_nil (p:UInt8→Bool) (l:Str):(Rg.trimB p l).dropWhile p=[]↔∀ x ∈ l,p x=true:=by
 unfold Rg.trimB
 constructor
 ·intro h
  rcases dw_cases p l.reverse with ⟨_,h2⟩ | ⟨b,r,h1,h2,_⟩
  ·exact fun x hx=>h2 x (by simpa using hx)
  ·rw [h1] at h
   rcases dw_cases p (b :: r).reverse with ⟨_,h4⟩ | ⟨c,r',h3,_⟩
   ·have:=h4 b (by simp)
    rw [h2] at this;cases this
   ·rw [h] at h3;cases h3
 ·intro h
  rcases dw_cases p l.reverse with ⟨h1,_⟩ | ⟨b,r,h1,h2,h3⟩
  ·rw [h1];rfl
  ·have:=h b (by simpa using h3)
   rw [h2] at this;cases this
def setNm:Str:=[97,98,99,100,101,102,103,104,105,106,107,108,109,110,111,112,113,114,115,116,117,118,119,120,121,122,48,49,50,51,52,53,54,55,56,57,95]
section
variable {h:Hp} {K:Value→Hp→Prop} {E:List PanicEntry→Hp→Prop}
def istop (n:Int):Value:=.iface 71 (.agg #[.int .i64 n])
theorem imust_x (ok:Bool) (n:Int) (hk:ok=true→K (.tuple #[]) h) (he:ok=false→E [{ v:=istop n,recovered:=false }] h):XE Tryz.prog 23 #[.bool ok,.int .i64 n] h K E:=by
 cases ok with
 | true =>
  refine fnu (args:=_) mixed [] [] [] [(999998,[1])] Tryz.func23 rfl (by kernel_rfl) (cw_ ?_)
  exact hk rfl
 | false =>
  refine fnu (args:=_) mixed [] [] [] [(999998,[1])] Tryz.func23 rfl (by kernel_rfl) (cw_ ?_)
  exact he rfl
theorem isuf_x (s p:Str) (hs:s.length≤2 ^ 40) (hp:p.length≤2 ^ 40) (hk:K (.bool (sufB s p)) h):X Tryz.prog 137 #[sv s,sv p] h K:=by
 refine fnv (args:=_) mixed [] [] [] Tryz.func137 rfl (by kernel_rfl) (cw_ ?_)
 refine br_ (fun q1=>?_) fun q1=>?_
 ·conv=>whnf
  rw [bs_size,bs_size]
  refine n_ ?_
  rw [show (s.length:Int) - (p.length:Int)=((s.length - p.length:Nat):Int) by omega]
  conv=>whnf
  refine bt_ ?_ (by rw [bs_size];simp)
  refine sub_from (l:=s) (i:=s.length - p.length) rfl (cw_ ?_)
  refine seq_intro ?_
  rw [show sufB s p=decide (s.drop (s.length - p.length)=p) by unfold sufB;rw [Bool.eq_iff_iff];simp;omega] at hk
  conv=>whnf
  exact hk
 ·rw [show sufB s p=false from decide_eq_false fun hh=>by have:=hh.1;omega] at hk
  conv=>whnf
  exact hk
theorem icutS0_x (s p:Str) (hs:s.length≤2 ^ 40) (hp:p.length≤2 ^ 40) (hk:K (.tuple #[sv (if sufB s p=true then s.take (s.length - p.length) else s),.bool (sufB s p)]) h):X Tryz.prog 105 #[sv s,sv p] h K:=by
 refine fnv (args:=_) mixed [] [] [] Tryz.func105 rfl (by kernel_rfl) (cw_ ?_)
 refine isuf_x s p hs hp ?_
 cases hq:sufB s p with
 | false =>
  rw [hq,if_neg (by simp)] at hk
  conv=>whnf
  exact hk
 | true =>
  rw [hq,if_pos rfl] at hk
  have hl:=(of_decide_eq_true hq).1
  conv=>whnf
  rw [bs_size,bs_size]
  refine n_ ?_
  rw [show (s.length:Int) - (p.length:Int)=((s.length - p.length:Nat):Int) by omega]
  conv=>whnf
  refine bt_ ?_ (by rw [bs_size];simp)
  refine sub_by (m:=s.take (s.length - p.length)) (by rw [Int.toNat_natCast,List.drop_zero]) (cw_ ?_)
  exact hk
theorem icutS_x (s p:Str) (hs:s.length≤2 ^ 40) (hp:p.length≤2 ^ 40) (hk:K (.tuple #[sv (if sufB s p=true then s.take (s.length - p.length) else s),.bool (sufB s p)]) h):X Tryz.prog 75 #[sv s,sv p] h K:=by
 refine fnv (args:=_) mixed [] [] [] Tryz.func75 rfl (by kernel_rfl) (cw_ ?_)
 refine icutS0_x s p hs hp (cw_ ?_)
 exact hk
theorem itrimS0_x (s p:Str) (hs:s.length≤2 ^ 40) (hp:p.length≤2 ^ 40) (hk:K (sv (if sufB s p=true then s.take (s.length - p.length) else s)) h):X Tryz.prog 142 #[sv s,sv p] h K:=by
 refine fnv (args:=_) mixed [] [] [] Tryz.func142 rfl (by kernel_rfl) (cw_ ?_)
 refine isuf_x s p hs hp ?_
 cases hq:sufB s p with
 | false =>
  rw [hq,if_neg (by simp)] at hk
  conv=>whnf
  exact hk
 | true =>
  rw [hq,if_pos rfl] at hk
  have hl:=(of_decide_eq_true hq).1
  conv=>whnf
  rw [bs_size,bs_size]
  refine n_ ?_
  rw [show (s.length:Int) - (p.length:Int)=((s.length - p.length:Nat):Int) by omega]
  conv=>whnf
  refine bt_ ?_ (by rw [bs_size];simp)
  refine sub_by (m:=s.take (s.length - p.length)) (by rw [Int.toNat_natCast,List.drop_zero]) (cw_ ?_)
  exact hk
theorem itrimS_x (s p:Str) (hs:s.length≤2 ^ 40) (hp:p.length≤2 ^ 40) (hk:K (sv (if sufB s p=true then s.take (s.length - p.length) else s)) h):X Tryz.prog 110 #[sv s,sv p] h K:=by
 refine fnv (args:=_) mixed [] [] [] Tryz.func110 rfl (by kernel_rfl) (cw_ ?_)
 refine itrimS0_x s p hs hp (cw_ ?_)
 exact hk
theorem icutP0_x (s:Str) (c:UInt8) (hs:s.length≤2 ^ 40) (hk:K (.tuple #[sv (if s[0]? = some c then s.drop 1 else s),.bool (decide (s[0]? = some c))]) h):X Tryz.prog 141 #[sv s,sv [c]] h K:=by
 refine fnv (args:=_) mixed [] [] [] Tryz.func141 rfl (by kernel_rfl) (cw_ ?_)
 have C:∀ {K:Value→Hp→Prop},K (.bool (decide (s[0]? = some c))) h→X Tryz.prog 178 #[sv s,sv [c]] h K:=fun {K} hK=>by
  refine fnv (args:=_) mixed [] [] [] Tryz.func178 rfl (by kernel_rfl) (cw_ ?_)
  refine br_ (fun q1=>?_) fun q1=>?_
  ·have hq1:1≤s.length:=by have e1:[c].length=1:=rfl;omega
   conv=>whnf
   refine bt_ ?_ (by rw [bs_size,bs_size];simp;omega)
   refine sub_by (m:=s.take 1) (by rw [List.drop_zero,bs_size];rfl) (cw_ ?_)
   refine seq_intro ?_
   have e:decide (s.take 1=[c])=decide (s[0]? = some c):=by cases s with
    | nil=>simp at q1
    | cons a s=>simp
   rw [e]
   conv=>whnf
   exact hK
  ·have e:s=[]:=List.eq_nil_of_length_eq_zero (by have e1:[c].length=1:=rfl;omega)
   subst e
   conv=>whnf
   exact hK
 refine C ?_
 by_cases hq:s[0]? = some c
 ·rw [decide_eq_true hq,if_pos hq] at hk
  rw [decide_eq_true hq]
  have hl:1≤s.length:=by have:=(List.getElem?_eq_some_iff.1 hq).1;omega
  conv=>whnf
  refine bt_ ?_ (by rw [bs_size,bs_size];simp;omega)
  refine sub_from (l:=s) (m:=s.drop 1) (by rw [bs_size];rfl) (cw_ ?_)
  exact hk
 ·rw [decide_eq_false hq,if_neg hq] at hk
  rw [decide_eq_false hq]
  conv=>whnf
  exact hk
theorem icutP_x (s:Str) (c:UInt8) (hs:s.length≤2 ^ 40) (hk:K (.tuple #[sv (if s[0]? = some c then s.drop 1 else s),.bool (decide (s[0]? = some c))]) h):X Tryz.prog 108 #[sv s,sv [c]] h K:=by
 refine fnv (args:=_) mixed [] [] [] Tryz.func108 rfl (by kernel_rfl) (cw_ ?_)
 refine icutP0_x s c hs (cw_ ?_)
 exact hk
end
end Go.Proofs.YtdhkjcdneidgaaaGreatDoor
namespace Go.Proofs.YtdhkjcdneidgaaaGreatDoor
open Go Go.Mid Go.RowKit Go.Bits
attribute [local irreducible] mid
section
variable {h:Hp} {K:Value→Hp→Prop}
theorem aggStI:isAggT Tryz.prog 9=some false:=by kernel_rfl
theorem infU6i:Tryz.prog.info? 25=some Tryz.prog.types[25]:=by kernel_rfl
structure WdR (h:Hp) (sl:Value) (W:List Str):Prop where
 rd:Rd Tryz.prog 9 1 h sl (W.map sv)
 n:W.length≤2 ^ 20
 l:∀ w ∈ W,w.length≤2 ^ 20
theorem WdR.le {h h':Hp} {sl:Value} {W:List Str} (r:WdR h sl W) (hle:h.le h'):WdR h' sl W:=⟨r.rd.le hle,r.n,r.l⟩
theorem WdR.at_ {sl:Value} {W:List Str} (r:WdR h sl W):∃ base cap,sl=.slice base W.length cap∧∀ (i:Nat) (w:Str),W[i]? = some w→∃ a,base=some a∧loadH Tryz.prog 9 h (a.add (((i:Int)).toNat*1))=some (sv w):=by
 obtain ⟨base,cap,e,f⟩:=r.rd
 refine ⟨base,cap,by rw [e];simp,fun i w hw=>?_⟩
 rw [Int.toNat_natCast]
 exact f i (sv w) (by rw [List.getElem?_map,hw];rfl)
theorem rnumbers_x {sl:Value} {W:List Str} (r:WdR h sl W) (hW:0<W.length) (n:Nat) (hn:n≤100) (hk0:∀ h',h.le h'→numsI (W.drop 1)=none→K (.tuple #[.slice none 0 0,.bool false]) h') (hk:∀ o s h',numsI (W.drop 1)=some o→Owns h h' 25 1 s o.length (o.map ux)→K (.tuple #[s,.bool (decide (o.length=n))]) h'):X Tryz.prog 51 #[sl,.int .i64 n] h K:=by
 obtain ⟨base,cap,rfl,fW⟩:=r.at_
 have hn20:=r.n
 refine fnv (args:=_) mixed [] [] [] Tryz.func51 rfl (by kernel_rfl) (cw_ ?_)
 refine loop_at [7,6] [] (fun q vs _ h'=>∃ (i:Nat) (s:Value) (o:List Nat),1≤i∧i≤W.length∧q=W.length - i∧vs=[.v (.int .i64 i),.v s]∧numsI ((W.take i).drop 1)=some o∧Owns h h' 25 1 s o.length (o.map ux)) (W.length - 1) ⟨1,.slice none 0 0,[],by omega,by omega,rfl,rfl,by rw [show (W.take 1).drop 1=[] by simp];rfl,Owns.nil (Hp.le_refl _)⟩ ?_
 rintro q vs cs mm bx h1 ⟨i,s,o,hi1,hi,rfl,rfl,hno,hO⟩
 obtain ⟨so,sc,rfl⟩:=hO.shape
 have hol:=(numsI_some _ _ hno).1
 rw [List.length_drop,List.length_take,Nat.min_eq_left hi] at hol
 conv=>whnf
 refine br_ (fun q1=>?_) fun q1=>?_
 ·obtain ⟨w,hw⟩:∃ w,W[i]? = some w:=⟨_,List.getElem?_eq_getElem (by omega)⟩
  obtain ⟨a,rfl,lw⟩:=fW i w hw
  have hwl:=r.l w (List.mem_of_getElem? hw)
  have hsplit:W.drop 1=(W.take i).drop 1++w :: W.drop (i+1):=by
   have e:W=W.take i++w :: W.drop (i+1):=by
    conv=>lhs;rw [← List.take_append_drop i W]
    rw [List.drop_eq_getElem_cons (show i<W.length by omega),(List.getElem?_eq_some_iff.1 hw).2]
   conv=>lhs;rw [e]
   rw [List.drop_append_of_le_length (by rw [List.length_take];omega)]
  have htk:(W.take (i+1)).drop 1=(W.take i).drop 1++[w]:=by
   rw [List.take_add_one,hw,List.drop_append_of_le_length (by rw [List.length_take];omega)]
   rfl
  have hnone:numsI [w]=none→numsI (W.drop 1)=none:=fun hh=>by
   rw [hsplit,show (w :: W.drop (i+1))=[w]++W.drop (i+1) from rfl,numsI_app,numsI_app,hh]
   cases numsI ((W.take i).drop 1) <;> rfl
  have hw1:numsI [w]=match numA w with
   | none=>none
   | some k=>if k<0 then none else some [k.toNat]:=by
   unfold numsI
   cases numA w with
   | none=>rfl
   | some k=>rfl
  conv=>whnf
  refine n_ ?_
  refine ⟨_,loadH_le hO.le lw,cw_ ?_⟩
  refine rnumber_x w (Nat.le_trans hwl (by decide)) ?_
  cases hnA:numA w with
  | none =>
   rw [hnA] at hw1
   conv=>whnf
   exact hk0 _ hO.le (hnone hw1)
  | some k =>
   rw [hnA] at hw1
   simp only at hw1
   have hkr:=numA_rng hnA
   rw [show okV (some k)=.tuple #[.int .i64 k,.bool true] from rfl]
   conv=>whnf
   refine br_ (fun q2=>?_) fun q2=>?_
   ·rw [if_pos q2] at hw1
    conv=>whnf
    exact hk0 _ hO.le (hnone hw1)
   ·rw [if_neg (by omega)] at hw1
    conv=>whnf
    refine ov_by (show IntKind.u64.wrap k=((k.toNat:Nat):Int) by rw [toU64];omega) ?_
    conv=>whnf
    refine new_intro (o:=rowO 25 [ux k.toNat]) (fun z h2 n_z le_z at_z ot_z=>cw_ ?_)
    refine Owns.app1 (z:=ux 0) (by kernel_rfl) infU6i (by kernel_rfl) (by kernel_rfl) (by kernel_rfl) rfl (bytes:=8) (by decide) rfl rfl rfl (hO.up le_z) at_z rfl rfl (by omega) fun s3 h3 hO3=>?_
    obtain ⟨so3,sc3,rfl⟩:=hO3.shape
    have hO4:Owns h h3 25 1 (.slice so3 (o.length+1) sc3) (o++[k.toNat]).length ((o++[k.toNat]).map ux):=by
     rw [List.length_append,List.map_append];exact hO3
    conv=>whnf
    refine n_ ?_
    exact ⟨W.length - (i+1),by omega,i+1,_,o++[k.toNat],by omega,by omega,rfl,rfl,by rw [htk,numsI_app,hno,hw1];rfl,hO4⟩
 ·have hiW:i=W.length:=by omega
  subst hiW
  rw [List.take_length] at hno
  have hK:=hk o _ h1 hno hO
  rw [show decide (o.length=n)=decide ((o.length:Int)=(n:Int)) by rw [Bool.eq_iff_iff];simp;omega] at hK
  conv=>whnf
  exact hK
end
end Go.Proofs.YtdhkjcdneidgaaaGreatDoor
namespace Go.Proofs.YtdhkjcdneidgaaaGreatDoor
open Go Go.Mid Go.RowKit Go.Bits
attribute [local irreducible] mid
theorem setNm_ok (b:UInt8):Rg.isOf setNm b=isNm b:=by
 have h:((List.range 256).all fun n=>Rg.has setNm n==(decide (97≤n∧n≤122) || decide (48≤n∧n≤57) || decide (n=95)))=true:=by kernel_rfl
 have:=List.all_eq_true.1 h b.toNat (List.mem_range.2 b.toNat_lt)
 exact eq_of_beq this
section
variable {h:Hp} {K:Value→Hp→Prop} {E:List PanicEntry→Hp→Prop}
theorem iname_x (w:Str) (hl:w.length≤2 ^ 20) (hk:K (.bool (nameB w)) h):X Tryz.prog 106 #[sv w] h K:=by
 have hb:=nameB_iff w
 refine fnv (args:=_) mixed [] [] [] Tryz.func106 rfl (by kernel_rfl) (cw_ ?_)
 refine seq_intro (b:=[]) ?_
 by_cases hw:w=[]
 ·rw [decide_eq_true hw]
  have BAD:¬ nameB w=true:=fun hh=>by have:=(hb.1 hh).1;rw [hw] at this;simp at this
  rw [show nameB w=false by rw [← Bool.not_eq_true];exact BAD] at hk
  conv=>whnf
  exact hk
 rw [decide_eq_false hw]
 obtain ⟨c,hc⟩:∃ c,w[0]? = some c:=by cases w with
  | nil=>exact absurd rfl hw
  | cons c w=>exact ⟨c,rfl⟩
 have hwl:0<w.length:=List.length_pos_iff.2 hw
 have hc256:=c.toNat_lt
 have hcl:isLo c=true↔97≤c.toNat∧c.toNat≤122:=by unfold isLo;simp
 conv=>whnf
 refine br_ (fun q1=>?_) fun q1=>?_
 ·have BAD:¬ nameB w=true:=fun hh=>by have:=(hb.1 hh).2.1;first | omega | (rw [bs_size] at q1;omega)
  rw [show nameB w=false by rw [← Bool.not_eq_true];exact BAD] at hk
  conv=>whnf
  exact hk
 conv=>whnf
 refine ch_intro (l:=w) c (by omega) hc (cw_ ?_)
 refine br_ (fun q2=>?_) fun q2=>?_
 ·have BAD:¬ nameB w=true:=fun hh=>by have:=hcl.1 ((hb.1 hh).2.2.1 c hc);omega
  rw [show nameB w=false by rw [← Bool.not_eq_true];exact BAD] at hk
  conv=>whnf
  exact hk
 conv=>whnf
 refine ch_intro (l:=w) c (by omega) hc (cw_ ?_)
 refine br_ (fun q3=>?_) fun q3=>?_
 ·have BAD:¬ nameB w=true:=fun hh=>by have:=hcl.1 ((hb.1 hh).2.2.1 c hc);omega
  rw [show nameB w=false by rw [← Bool.not_eq_true];exact BAD] at hk
  conv=>whnf
  exact hk
 conv=>whnf
 refine Rg.trim_x w setNm (by omega) (by decide) (by decide) (by decide) (cw_ ?_)
 refine seq_intro (b:=[]) ?_
 have e:nameB w=decide ((Rg.trimB (Rg.isOf setNm) w).dropWhile (Rg.isOf setNm)=[]):=by
  rw [Bool.eq_iff_iff,decide_eq_true_iff,trim_nil,hb]
  constructor
  ·intro hh x hx
   obtain ⟨i,hi,e⟩:=List.getElem_of_mem hx
   rw [setNm_ok]
   exact hh.2.2.2 i x (by rw [← e];exact List.getElem?_eq_getElem hi)
  ·intro hh
   refine ⟨hwl,by first | omega | (rw [bs_size] at q1;omega),fun d hd=>by rw [hc] at hd;cases hd;exact hcl.2 (by omega),fun i d hd=>?_⟩
   rw [← setNm_ok]
   exact hh d (List.mem_of_getElem? hd)
 rw [← e]
 exact hk
theorem inums_x (her:Er h) (hpw:Pow h) {sl:Value} {w0:Str} {r:List Str} (rw_:WdR h sl (w0 :: r)) (hcp:∀ a n c,sl=.slice a n c→n≤c) (n:Nat) (hn:n≤100) (hk:∀ o s h',numsI r=some o→o.length=n→Owns h h' 25 1 s o.length (o.map ux)→K s h') (he:∀ h',h.le h'→(∀ o,numsI r=some o→o.length≠n)→E [{ v:=istop 2,recovered:=false }] h'):XE Tryz.prog 77 #[sl,.int .i64 n] h K E:=by
 obtain ⟨base,cap,rfl,fW⟩:=rw_.at_
 have hn20:=rw_.n
 have hwl:=rw_.l
 obtain ⟨a0,rfl,l0⟩:=fW 0 w0 rfl
 have hcp:=hcp _ _ _ rfl
 have hlen:(w0 :: r).length=r.length+1:=rfl
 refine fnu (args:=_) mixed [] [] [] [(999998,[1,7])] Tryz.func77 rfl (by kernel_rfl) (cw_ ?_)
 refine n_ ?_
 refine imust_x _ 2 (fun hq=>?_) (fun hq=>?_)
 rotate_left
 ·refine he h (Hp.le_refl _) fun o ho=>?_
  have:=(numsI_some _ _ ho).1
  have hq:=of_decide_eq_false hq
  omega
 have hq:=of_decide_eq_true hq
 conv=>whnf
 refine bt_ ?_
 refine bsel_intro (fun hc=>?_) (fun hc=>?_)
 ·have hc:cap=1:=of_decide_eq_true hc
  have hr0:r=[]:=List.eq_nil_of_length_eq_zero (by omega)
  have AB:∀ (i:Nat) (w:Str),r[i]? = some w→loadH Tryz.prog 9 h (a0.add (((i:Int)).toNat*1))=some (sv w):=fun i w hw=>by rw [hr0] at hw;simp at hw
  conv=>whnf
  refine loop_at [19,5] [] (fun q vs _ h'=>∃ (i:Nat) (s:Value) (o:List Nat),i≤r.length∧q=r.length - i∧vs=[.v (.int .i64 i),.v s]∧numsI (r.take i)=some o∧Owns h h' 25 1 s o.length (o.map ux)) r.length ⟨0,.slice none 0 0,[],by omega,by omega,rfl,rfl,Owns.nil (Hp.le_refl _)⟩ ?_
  rintro q vs cs mm bx h1 ⟨i,s,o,hi,rfl,rfl,hno,hO⟩
  obtain ⟨so,sc,rfl⟩:=hO.shape
  have hol:=(numsI_some _ _ hno).1
  rw [List.length_take,Nat.min_eq_left hi] at hol
  conv=>whnf
  refine br_ (fun q1=>?_) fun q1=>?_
  ·have q1:(i:Int)<(r.length:Int):=q1
   obtain ⟨w,hw⟩:∃ w,r[i]? = some w:=⟨_,List.getElem?_eq_getElem (by omega)⟩
   have lw:=AB i w hw
   have hwl1:=hwl w (List.mem_cons_of_mem _ (List.mem_of_getElem? hw))
   have hsplit:r=r.take i++w :: r.drop (i+1):=by
    conv=>lhs;rw [← List.take_append_drop i r]
    rw [List.drop_eq_getElem_cons (show i<r.length by omega),(List.getElem?_eq_some_iff.1 hw).2]
   have htk:r.take (i+1)=r.take i++[w]:=by rw [List.take_add_one,hw];rfl
   have hnone:numsI [w]=none→numsI r=none:=fun hh=>by
    rw [hsplit,show (w :: r.drop (i+1))=[w]++r.drop (i+1) from rfl,numsI_app,numsI_app,hh]
    cases numsI (r.take i) <;> rfl
   have hw1:numsI [w]=match numA w with
    | none=>none
    | some k=>if k<0 then none else some [k.toNat]:=by
    unfold numsI
    cases numA w with
    | none=>rfl
    | some k=>rfl
   have HE:numsI [w]=none→E [{ v:=istop 2,recovered:=false }] h1:=fun hh=>he h1 hO.le fun o ho=>by rw [hnone hh] at ho;cases ho
   conv=>whnf
   refine bt_ ?_
   refine ⟨_,loadH_le hO.le lw,cw_ ?_⟩
   refine anumber_x (her.le hO.le) (hpw.le hO.le) w (by omega) ?_
   cases hnA:numA w with
   | none =>
    rw [hnA] at hw1
    conv=>whnf
    refine imust_x _ 2 (fun hh=>(by cases hh)) (fun _=>?_)
    exact HE hw1
   | some k =>
    rw [hnA] at hw1
    simp only at hw1
    have hkr:=numA_rng hnA
    rw [show okV (some k)=.tuple #[.int .i64 k,.bool true] from rfl]
    conv=>whnf
    refine imust_x _ 2 (fun hh=>?_) (fun hh=>?_)
    rotate_left
    ·have hh:=of_decide_eq_false hh
     rw [if_pos (by omega)] at hw1
     exact HE hw1
    have hh:=of_decide_eq_true hh
    rw [if_neg (by omega)] at hw1
    conv=>whnf
    refine ov_by (show IntKind.u64.wrap k=((k.toNat:Nat):Int) by rw [toU64];omega) ?_
    conv=>whnf
    refine new_intro (o:=rowO 25 [ux k.toNat]) (fun z h2 n_z le_z at_z ot_z=>cw_ ?_)
    refine Owns.app1 (z:=ux 0) (by kernel_rfl) infU6i (by kernel_rfl) (by kernel_rfl) (by kernel_rfl) rfl (bytes:=8) (by decide) rfl rfl rfl (hO.up le_z) at_z rfl rfl (by omega) fun s3 h3 hO3=>?_
    obtain ⟨so3,sc3,rfl⟩:=hO3.shape
    have hO4:Owns h h3 25 1 (.slice so3 (o.length+1) sc3) (o++[k.toNat]).length ((o++[k.toNat]).map ux):=by
     rw [List.length_append,List.map_append];exact hO3
    conv=>whnf
    refine n_ ?_
    exact ⟨r.length - (i+1),by omega,i+1,_,o++[k.toNat],by omega,rfl,rfl,by rw [htk,numsI_app,hno,hw1];rfl,hO4⟩
  ·have q1:¬ (i:Int)<(r.length:Int):=q1
   have hiW:i=r.length:=by omega
   subst hiW
   rw [List.take_length] at hno
   have hK:=hk o _ h1 hno (by omega) hO
   conv=>whnf
   exact hK
 ·have AB:∀ (i:Nat) (w:Str),r[i]? = some w→loadH Tryz.prog 9 h ((a0.add (1*1)).add (((i:Int)).toNat*1))=some (sv w):=fun i w hw=>by
   obtain ⟨a,ea,hl⟩:=fW (i+1) w (by simpa using hw)
   cases ea
   rw [add_add,show 1*1+((i:Int)).toNat*1=(((i+1:Nat):Int)).toNat*1 by omega]
   exact hl
  conv=>whnf
  refine loop_at [19,5] [] (fun q vs _ h'=>∃ (i:Nat) (s:Value) (o:List Nat),i≤r.length∧q=r.length - i∧vs=[.v (.int .i64 i),.v s]∧numsI (r.take i)=some o∧Owns h h' 25 1 s o.length (o.map ux)) r.length ⟨0,.slice none 0 0,[],by omega,by omega,rfl,rfl,Owns.nil (Hp.le_refl _)⟩ ?_
  rintro q vs cs mm bx h1 ⟨i,s,o,hi,rfl,rfl,hno,hO⟩
  obtain ⟨so,sc,rfl⟩:=hO.shape
  have hol:=(numsI_some _ _ hno).1
  rw [List.length_take,Nat.min_eq_left hi] at hol
  conv=>whnf
  refine br_ (fun q1=>?_) fun q1=>?_
  ·have q1:(i:Int)<(r.length:Int):=q1
   obtain ⟨w,hw⟩:∃ w,r[i]? = some w:=⟨_,List.getElem?_eq_getElem (by omega)⟩
   have lw:=AB i w hw
   have hwl1:=hwl w (List.mem_cons_of_mem _ (List.mem_of_getElem? hw))
   have hsplit:r=r.take i++w :: r.drop (i+1):=by
    conv=>lhs;rw [← List.take_append_drop i r]
    rw [List.drop_eq_getElem_cons (show i<r.length by omega),(List.getElem?_eq_some_iff.1 hw).2]
   have htk:r.take (i+1)=r.take i++[w]:=by rw [List.take_add_one,hw];rfl
   have hnone:numsI [w]=none→numsI r=none:=fun hh=>by
    rw [hsplit,show (w :: r.drop (i+1))=[w]++r.drop (i+1) from rfl,numsI_app,numsI_app,hh]
    cases numsI (r.take i) <;> rfl
   have hw1:numsI [w]=match numA w with
    | none=>none
    | some k=>if k<0 then none else some [k.toNat]:=by
    unfold numsI
    cases numA w with
    | none=>rfl
    | some k=>rfl
   have HE:numsI [w]=none→E [{ v:=istop 2,recovered:=false }] h1:=fun hh=>he h1 hO.le fun o ho=>by rw [hnone hh] at ho;cases ho
   conv=>whnf
   refine bt_ ?_
   refine ⟨_,loadH_le hO.le lw,cw_ ?_⟩
   refine anumber_x (her.le hO.le) (hpw.le hO.le) w (by omega) ?_
   cases hnA:numA w with
   | none =>
    rw [hnA] at hw1
    conv=>whnf
    refine imust_x _ 2 (fun hh=>(by cases hh)) (fun _=>?_)
    exact HE hw1
   | some k =>
    rw [hnA] at hw1
    simp only at hw1
    have hkr:=numA_rng hnA
    rw [show okV (some k)=.tuple #[.int .i64 k,.bool true] from rfl]
    conv=>whnf
    refine imust_x _ 2 (fun hh=>?_) (fun hh=>?_)
    rotate_left
    ·have hh:=of_decide_eq_false hh
     rw [if_pos (by omega)] at hw1
     exact HE hw1
    have hh:=of_decide_eq_true hh
    rw [if_neg (by omega)] at hw1
    conv=>whnf
    refine ov_by (show IntKind.u64.wrap k=((k.toNat:Nat):Int) by rw [toU64];omega) ?_
    conv=>whnf
    refine new_intro (o:=rowO 25 [ux k.toNat]) (fun z h2 n_z le_z at_z ot_z=>cw_ ?_)
    refine Owns.app1 (z:=ux 0) (by kernel_rfl) infU6i (by kernel_rfl) (by kernel_rfl) (by kernel_rfl) rfl (bytes:=8) (by decide) rfl rfl rfl (hO.up le_z) at_z rfl rfl (by omega) fun s3 h3 hO3=>?_
    obtain ⟨so3,sc3,rfl⟩:=hO3.shape
    have hO4:Owns h h3 25 1 (.slice so3 (o.length+1) sc3) (o++[k.toNat]).length ((o++[k.toNat]).map ux):=by
     rw [List.length_append,List.map_append];exact hO3
    conv=>whnf
    refine n_ ?_
    exact ⟨r.length - (i+1),by omega,i+1,_,o++[k.toNat],by omega,rfl,rfl,by rw [htk,numsI_app,hno,hw1];rfl,hO4⟩
  ·have q1:¬ (i:Int)<(r.length:Int):=q1
   have hiW:i=r.length:=by omega
   subst hiW
   rw [List.take_length] at hno
   have hK:=hk o _ h1 hno (by omega) hO
   conv=>whnf
   exact hK
end
end Go.Proofs.YtdhkjcdneidgaaaGreatDoor
