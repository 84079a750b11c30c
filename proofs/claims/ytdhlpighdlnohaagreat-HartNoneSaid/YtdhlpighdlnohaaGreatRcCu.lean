/-
  Words by their bits: the document's parts.
-/
import Derived.Test.YtdhlpighdlnohaaGreatHtW
import Derived.Test.YtdhlpighdlnohaaGreatHtL
import Derived.Test.YtdhlpighdlnohaaGreatHtV
import Derived.Test.YtdhlpighdlnohaaGreatEvD
import Derived.Test.YtdhlpighdlnohaaGreatBitP
import Derived.Test.YtdhlpighdlnohaaGreatCsC
import Derived.Test.YtdhlpighdlnohaaGreatCsF
set_option linter.unusedSimpArgs false
set_option linter.unusedVariables false
set_option maxHeartbeats 8000000
set_option maxRecDepth 10000
set_option linter.unusedSimpArgs false
set_option linter.unusedVariables false
namespace Go.Proofs.YtdhlpighdlnohaaGreat
open Go Go.Mid Go.RowKit Go.Bits
attribute [local irreducible] mid
def Hd.sta (H:Hd):Sta:=⟨H.pc,H.priv,H.r,H.f,H.live,H.parked,H.L⟩
section
set_option maxHeartbeats 16000000
variable {k h:Hp} {K:Value→Hp→Prop} {b:Nat} {H:Hd}
abbrev eeT:TypeId := 78
theorem rwords_x {o:Nat} {el:TypeId} {A B:List Value} {r:List Nat} (p:Pa h b o el A (wcs r) B) (hr:r.length=32) (hk:K (.agg (wcs r).toArray) h):X Tryz.prog 41 #[.pointer (some ⟨b,o,none⟩)] h K:=by
 refine X.forget ?_
 have hl:(wcs r).length=32:=by rw [List.length_map];exact hr
 have hone:(wcs r).all Value.oneCell'=true:=by rw [List.all_eq_true];intro v hv;obtain ⟨n,_,rfl⟩:=List.mem_map.1 hv;rfl
 refine fnv (args:=_) mixed [] [] [] Tryz.func41 rfl (by kernel_rfl) (cw_ ?_)
 refine new_intro (o:=_) (fun y h1 n_y le_y at_y ot_y=>cw_ ?_)
 have p1:=p.le le_y
 refine ⟨_,p1.ldA 0 aggR32 sizR32 (x:=wcs r) (by rw [List.drop_zero,← hl,List.take_length]) hl,cw_ ?_⟩
 refine wr_intro (by exact storeA0 (z:=.agg (wcs r).toArray) sizR32 at_y rfl hl hone) (fun h2 at_h2 ot_h2=>cw_ ?_)
 refine ⟨_,loadA0 aggR32 sizR32 at_h2 hl,cw_ ?_⟩
 exact ⟨h,Hp.le_st n_y le_y ot_h2,hk⟩
theorem staL:lays Tryz.prog staT=some ([(0,1),(1,1),(2,32),(34,25),(59,1),(60,1),(61,1)],62)∧contig 0 [(0,1),(1,1),(2,32),(34,25),(59,1),(60,1),(61,1)] 62=true:=⟨by kernel_rfl,rfl⟩
theorem aggSta:isAggT Tryz.prog staT=some true:=by kernel_rfl
theorem sizSta:sizeT Tryz.prog staT=some 62:=by kernel_rfl
theorem sta_one (x:Sta) {s:Value} (hs:s.oneCell'=true):(x.cs s).all Value.oneCell'=true:=by
 rw [List.all_eq_true]
 intro v hv
 unfold Sta.cs at hv
 rcases List.mem_append.1 hv with h | h
 ·rcases List.mem_cons.1 h with rfl | h
  ·rfl
  ·rw [List.mem_singleton.1 h];rfl
 ·rcases List.mem_append.1 h with h | h
  ·obtain ⟨n,_,rfl⟩:=List.mem_map.1 h;rfl
  ·rcases List.mem_append.1 h with h | h
   ·exact List.all_eq_true.1 (csf_one x.f) v h
   ·rcases List.mem_cons.1 h with rfl | h
    ·rfl
    ·rcases List.mem_cons.1 h with rfl | h
     ·rfl
     ·rw [List.mem_singleton.1 h];exact hs
theorem hstate2_x (n:HaN k h b H) (hk:∀ s h' , HaN k h' b H→h.le h'→Owns h h' eeT 4 s H.L.length (H.L.flatMap En.cs)→K (.agg (H.sta.cs s).toArray) h'):X Tryz.prog 12 #[.pointer (some ⟨b,0,none⟩)] h K:=by
 obtain ⟨c,s,r0,ht,_⟩:=n.row
 have i:=n.inv
 have o:=i.ok
 have hr32:(wcs H.r).length=32:=by rw [List.length_map];exact o.r
 refine fnv (args:=_) mixed [] [41] [9,13,21,25,29,33] Tryz.func12 rfl (by kernel_rfl) (cw_ ?_)
 refine new_intro (o:=_) (fun y h1 n_y le_y at_y ot_y=>cw_ ?_)
 have r:HaR h1 b H c s:=le_y _ _ r0
 have yb:y≠b:=fun e=>by rw [e,(show h b=some _ from r0)] at n_y;cases n_y
 refine ⟨fun q=>HaR q b H c s,r,cw_ ?_⟩
 refine ⟨_,fun q e=>(HaR.z e o.len).ld 0 aggU rfl,cw_ ?_⟩
 refine ⟨_,fun q e=>(HaR.z e o.len).ld 1 aggPv rfl,cw_ ?_⟩
 refine ⟨_,rwords_x r.regs o.r ⟨rfl,rfl⟩,cw_ ?_⟩
 refine ⟨_,fun q e=>(HaR.file e o.r).ldA 0 aggFil sizFil (x:=H.f.cs) (by rw [List.drop_zero,← cs_len o.f.len,List.take_length]) (cs_len o.f.len),cw_ ?_⟩
 refine ⟨_,fun q e=>(HaR.z e o.len).ld 3 aggB6 rfl,cw_ ?_⟩
 refine ⟨_,fun q e=>(HaR.z e o.len).ld 4 aggB6 rfl,cw_ ?_⟩
 refine ⟨_,fun q e=>(HaR.z e o.len).ld 2 aggTp rfl,cw_ ?_⟩
 refine Tb.all3_x i.T _ _ (ht.le le_y) fun s2 h2 ob le2 g2 ob2=>?_
 obtain ⟨sa,sc,rfl⟩:∃ a c,s2=.slice a (H.L.map toE).length c:=Owns.shape (k:=h1) ⟨ob,g2,le2,ob2⟩
 have hcs:(H.sta.cs (.slice sa (H.L.map toE).length sc)).length=62:=by simp [Sta.cs,Hd.sta,o.r,cs_len o.f.len]
 refine ⟨le2 _ _ r,cw_ ?_⟩
 refine big_by (v:=.agg (H.sta.cs (.slice sa (H.L.map toE).length sc)).toArray) (build_of [ux H.pc,.int .i64 H.priv,.agg (wcs H.r).toArray,.agg H.f.cs.toArray,.bool H.live,.bool H.parked,.slice sa (H.L.map toE).length sc] staL (by simp [Value.cells,o.r,cs_len o.f.len]) (by simp [Value.cells,Sta.cs,Hd.sta])) (cw_ ?_)
 refine wr_intro (by exact storeA0 (z:=.agg (H.sta.cs (.slice sa (H.L.map toE).length sc)).toArray) sizSta (le2 _ _ at_y) rfl hcs (sta_one _ rfl)) (fun h3 at_h3 ot_h3=>cw_ ?_)
 have r3:HaR h3 b H c s:=(ot_h3 b (Ne.symm yb)).trans (le2 _ _ r)
 refine ⟨r3,cw_ ?_⟩
 refine ⟨_,loadA0 aggSta sizSta at_h3 hcs,cw_ ?_⟩
 have le3:h.le h3:=Hp.le_st n_y (Hp.le_trans le_y le2) ot_h3
 refine hk _ h3 (n.up le3) le3 ⟨ob,?_,le3,fun x e=>Hp.none_le le_y (ob2 x e)⟩
 have g3:=g2.agree (h':=h3) fun x e=>ot_h3 x fun e2=>by rw [e2] at e;rw [ob2 y e] at at_y;cases at_y
 have e1:(H.L.map toE).flatMap Tb.En.cells=H.L.flatMap En.cs:=by rw [List.flatMap_map];rfl
 rw [← e1,show H.L.length=(H.L.map toE).length by simp]
 exact g3
end
end Go.Proofs.YtdhlpighdlnohaaGreat
namespace Go.Proofs.YtdhlpighdlnohaaGreat
open Go Go.Bits
structure Ls (h h':Hd):Prop where
 li:LI h'
 sc:h.ask.kind=6→h.ask.live=h.live
 out:(h'.turns=h.turns∧h'.retired=h.retired∧h.ask.kind≠5∧h.ask.kind≠6∧h'.live=h.live) ∨
  (h'.turns=IntKind.i64.wrap (h.turns+1)∧h'.retired=h.retired∧h'.t=.zero∧h.ask.kind≠5∧h.ask.kind≠6∧h'.live=false) ∨
  (h'.turns=IntKind.i64.wrap (h.turns+1)∧h'.retired=IntKind.i64.wrap (h.retired+1)∧h'.t=.zero∧h'.live=if h.ask.kind=5 then true else if h.ask.kind=6 then false else h.live)
end Go.Proofs.YtdhlpighdlnohaaGreat
namespace Go.Proofs.YtdhlpighdlnohaaGreat
open Go Go.Bits
theorem bit_and (a b i:Nat):bitN (a &&& b) i=bitN a i*bitN b i:=by
 rw [bit_eq,bit_eq,bit_eq,Nat.testBit_and]
 cases a.testBit i <;> cases b.testBit i <;> rfl
theorem bit_pow (k i:Nat):bitN (2 ^ k) i=if i=k then 1 else 0:=by
 rw [bit_eq,Nat.testBit_two_pow]
 by_cases h:i=k
 ·subst h;simp
 ·rw [if_neg h,decide_eq_false (fun e=>h e.symm)];rfl
theorem bit_two (a i:Nat):bitN a i=0∨bitN a i=1:=by have:=bitN_lt a i;omega
theorem bit_b {b:Nat} (h:b<2):bitN b 0=b:=by unfold bitN;simp;omega
theorem rcand_lt {a b:Nat} (h:a<2 ^ 64):a &&& b<2 ^ 64:=Nat.lt_of_le_of_lt Nat.and_le_left h
theorem band_eq {a:Nat} (b:Nat) (ha:a<2 ^ 64):bitsOf 64 (fun i=>bitN a i*bitN b i)=a &&& b:=by
 have hf:∀ i,bitN a i*bitN b i<2:=fun i=>by
  rcases bit_two a i with e | e <;> rcases bit_two b i with e2 | e2 <;> rw [e,e2] <;> decide
 refine eq_bits (n:=64) (bitsOf_lt hf) (rcand_lt ha) fun i hi=>?_
 rw [bitsOf_bit hf,if_pos hi,bit_and]
theorem or_add (a:Nat):∀ b:Nat,a+b=(a ||| b)+(a &&& b):=by
 induction a using Nat.strongRecOn with
 | ind a ih =>
  intro b
  by_cases h:a=0
  ·subst h;simp
  ·have e:=ih (a / 2) (by omega) (b / 2)
   have e1:(a ||| b) / 2=a / 2 ||| b / 2:=Nat.or_div_two
   have e2:(a &&& b) / 2=a / 2 &&& b / 2:=Nat.and_div_two
   have m1:(a ||| b) % 2+(a &&& b) % 2=a % 2+b % 2:=by
    have h1:(a ||| b) % 2=max (a % 2) (b % 2):=by have:=bit_or a b 0;unfold bitN at this;simpa using this
    have h2:(a &&& b) % 2=(a % 2)*(b % 2):=by have:=bit_and a b 0;unfold bitN at this;simpa using this
    rw [h1,h2]
    rcases Nat.mod_two_eq_zero_or_one a with p | p <;> rcases Nat.mod_two_eq_zero_or_one b with q | q <;> rw [p,q] <;> decide
   omega
theorem andN_sub {a:Nat} (b:Nat) (ha:a<2 ^ 64):a - (a &&& b)=andN a b:=by
 have hd:andN a b &&& (a &&& b)=0:=by
  refine eq_bits (n:=64) (rcand_lt (andN_lt _ _)) (by decide) fun i hi=>?_
  rw [bit_and,andN_bit,if_pos hi,bit_and,bitN_zero]
  rcases bit_two b i with e | e
  ·rw [e];simp
  ·rw [if_pos e,Nat.zero_mul]
 have ho:andN a b ||| (a &&& b)=a:=by
  refine eq_bits (n:=64) (Nat.or_lt_two_pow (andN_lt _ _) (rcand_lt ha)) ha fun i hi=>?_
  rw [bit_or,andN_bit,if_pos hi,bit_and]
  rcases bit_two b i with e | e
  ·rw [e,if_neg (by decide)];simp
  ·rw [e,if_pos rfl];simp
 have:=or_add (andN a b) (a &&& b)
 rw [hd,ho] at this
 omega
theorem andN_add {a v:Nat} (b:Nat) (hv:v<2 ^ 64):andN a b+(v &&& b)=andN a b ||| (v &&& b):=by
 have hd:andN a b &&& (v &&& b)=0:=by
  refine eq_bits (n:=64) (rcand_lt (andN_lt _ _)) (by decide) fun i hi=>?_
  rw [bit_and,andN_bit,if_pos hi,bit_and,bitN_zero]
  rcases bit_two b i with e | e
  ·rw [e];simp
  ·rw [if_pos e,Nat.zero_mul]
 have:=or_add (andN a b) (v &&& b)
 rw [hd] at this
 exact this
theorem rlegal_eq {old v:Nat} (n:Int) (ho:old<2 ^ 64) (hv:v<2 ^ 64):bitsOf 64 (fun i=>if bitN (maskN n) i=1 then bitN v i else bitN old i)=legal0 n old v:=by
 have hf:∀ i,(if bitN (maskN n) i=1 then bitN v i else bitN old i)<2:=fun i=>by split <;> exact bitN_lt _ _
 refine eq_bits (n:=64) (bitsOf_lt hf) (legal0_lt hv) fun i hi=>?_
 unfold legal0
 rw [bitsOf_bit hf,if_pos hi,bit_or,andN_bit,if_pos hi,bit_and]
 rcases bit_two (maskN n) i with e | e
 ·rw [e];simp
 ·rw [e];simp
theorem put_with {w i n:Nat} (hw:w<2 ^ 64) (hi:i<64):putN w i 1 n=withN w i (decide (bitN n 0=1)):=by
 have hl:withN w i (decide (bitN n 0=1))<2 ^ 64:=by
  unfold withN
  split
  ·exact Nat.or_lt_two_pow hw (Nat.pow_lt_pow_right (by decide) hi)
  ·exact andN_lt _ _
 refine eq_bits (n:=64) (put_lt ..) hl fun k hk=>?_
 rw [put_bit,if_pos hk]
 unfold withN
 by_cases hc:k=i
 ·subst hc
  rw [if_pos (by omega),Nat.sub_self]
  rcases bit_two n 0 with e | e
  ·rw [e]
   simp only [show ¬ ((0:Nat)=1) by decide,decide_false,if_neg (show ¬ (false=true) by decide)]
   rw [andN_bit,if_pos hk,bit_pow,if_pos rfl,if_pos rfl]
  ·rw [e]
   simp only [decide_true,if_pos]
   rw [bit_or,bit_pow,if_pos rfl]
   rcases bit_two w k with e | e <;> rw [e] <;> rfl
 ·rw [if_neg (by omega)]
  split
  ·rw [bit_or,bit_pow,if_neg hc,Nat.max_zero]
  ·rw [andN_bit,if_pos hk,bit_pow,if_neg hc,if_neg (by decide)]
theorem m6144 {i:Nat} (hi:i<64):bitN 6144 i=if i=11∨i=12 then 1 else 0:=by
 have:∀ i,i<64→bitN 6144 i=if i=11∨i=12 then 1 else 0:=by decide
 exact this i hi
theorem put_two {w n:Nat}:putN w 11 2 n=andN w 6144 ||| n % 4*2 ^ 11:=by
 refine eq_bits (n:=64) (put_lt ..) (Nat.or_lt_two_pow (andN_lt _ _) (by omega)) fun i hi=>?_
 rw [put_bit,if_pos hi,bit_or,andN_bit,if_pos hi,m6144 hi,bit_mul,show (4:Nat)=2 ^ 2 from rfl,bit_mod]
 by_cases h:i=11∨i=12
 ·rw [if_pos (by omega),if_pos h,if_pos rfl,if_pos (by omega),if_pos (by omega),Nat.zero_max]
 ·rw [if_neg (by omega),if_neg h,if_neg (by decide)]
  split
  ·rw [if_neg (by omega),Nat.max_zero]
  ·rw [Nat.max_zero]
theorem and6144 (w:Nat):w &&& 6144=w / 2 ^ 11 % 4*2 ^ 11:=by
 refine eq_bits (n:=64) (Nat.lt_of_le_of_lt Nat.and_le_right (by decide)) (by omega) fun i hi=>?_
 rw [bit_and,m6144 hi,bit_mul,show (4:Nat)=2 ^ 2 from rfl,bit_mod,bit_div]
 by_cases h:i=11∨i=12
 ·rw [if_pos h,if_pos (by omega),if_pos (by omega),show 11+(i - 11)=i by omega,Nat.mul_one]
 ·rw [if_neg h,Nat.mul_zero]
  split
  ·rw [if_neg (by omega)]
  ·rfl
theorem rlegalN_eq {n:Int} {old v:Nat} (hv:v<2 ^ 64) :
  (if n=384∧(if n=768∧legal0 n old v / 2 ^ 11 % 2 ^ 2=2 then putN (legal0 n old v) 11 2 (old / 2 ^ 11 % 2 ^ 2) else legal0 n old v) / 2 ^ 60 % 2 ^ 4≠0∧(if n=768∧legal0 n old v / 2 ^ 11 % 2 ^ 2=2 then putN (legal0 n old v) 11 2 (old / 2 ^ 11 % 2 ^ 2) else legal0 n old v) / 2 ^ 60 % 2 ^ 4≠8 then old
   else if n=768∧legal0 n old v / 2 ^ 11 % 2 ^ 2=2 then putN (legal0 n old v) 11 2 (old / 2 ^ 11 % 2 ^ 2) else legal0 n old v)=legalN n old v:=by
 have hl:=legal0_lt (n:=n) (old:=old) hv
 unfold legalN
 by_cases h7:n=768
 ·rw [if_neg (fun e=>by omega),if_pos h7]
  by_cases h2:legal0 n old v / 2 ^ 11 % 2 ^ 2=2
  ·rw [if_pos ⟨h7,h2⟩,if_pos h2,put_two,and6144,show (2:Nat) ^ 2=4 from rfl,Nat.mod_mod]
  ·rw [if_neg (fun e=>h2 e.2),if_neg h2]
 ·rw [if_neg h7]
  simp only [if_neg (fun e:n=768∧legal0 n old v / 2 ^ 11 % 2 ^ 2=2=>h7 e.1)]
  have e60:legal0 n old v / 2 ^ 60 % 2 ^ 4=legal0 n old v / 2 ^ 60:=by omega
  rw [e60]
  by_cases h3:n=384
  ·rw [if_pos h3]
   simp only [h3,true_and]
  ·rw [if_neg h3,if_neg (fun e=>h3 e.1)]
theorem with_lt' {w i:Nat} {on:Bool} (hw:w<2 ^ 64) (hi:i<64):withN w i on<2 ^ 64:=by
 unfold withN
 split
 ·exact Nat.or_lt_two_pow hw (Nat.pow_lt_pow_right (by decide) hi)
 ·exact andN_lt _ _
theorem bit_with {w k i:Nat} {on:Bool} (hi:i<64):bitN (withN w k on) i=if i=k then (if on then 1 else 0) else bitN w i:=by
 unfold withN
 by_cases h:i=k
 ·rw [if_pos h]
  cases on
  ·simp only [if_neg (show ¬ (false=true) by decide)]
   rw [andN_bit,if_pos hi,bit_pow,if_pos h,if_pos rfl]
  ·simp only [if_pos]
   rw [bit_or,bit_pow,if_pos h]
   rcases bit_two w i with e | e <;> rw [e] <;> rfl
 ·rw [if_neg h]
  cases on
  ·simp only [if_neg (show ¬ (false=true) by decide)]
   rw [andN_bit,if_pos hi,bit_pow,if_neg h,if_neg (by decide)]
  ·simp only [if_pos]
   rw [bit_or,bit_pow,if_neg h,Nat.max_zero]
theorem b_bit (w i:Nat):(if bitB w i=true then 1 else 0)=bitN w i:=by
 unfold bitB
 rcases bit_two w i with e | e <;> rw [e] <;> rfl
theorem mView:∀ i,i<64→((i=1∨i=5∨i=8∨i=18∨i=19∨i=33)∧bitN 8590721314 i=1)∨((i≠1∧i≠5∧i≠8∧i≠18∧i≠19∧i≠33)∧bitN 8590721314 i=0):=by decide
theorem rview_eq {w:Nat} (hw:w<2 ^ 64):withN (withN (withN (withN (withN (withN 0 1 (bitB w 1)) 5 (bitB w 5)) 8 (bitB w 8)) 18 (bitB w 18)) 19 (bitB w 19)) 33 (bitB w 33)=viewN w:=by
 unfold viewN
 refine eq_bits (n:=64) (with_lt' (with_lt' (with_lt' (with_lt' (with_lt' (with_lt' (by decide) (by decide)) (by decide)) (by decide)) (by decide)) (by decide)) (by decide)) (rcand_lt hw) fun i hi=>?_
 rw [bit_and,bit_with hi,bit_with hi,bit_with hi,bit_with hi,bit_with hi,bit_with hi]
 rcases mView i hi with ⟨h,e⟩ | ⟨⟨h1,h2,h3,h4,h5,h6⟩,e⟩
 ·rw [e,Nat.mul_one]
  rcases h with rfl | rfl | rfl | rfl | rfl | rfl <;> simp [b_bit]
 ·rw [e,if_neg h6,if_neg h5,if_neg h4,if_neg h3,if_neg h2,if_neg h1,bitN_zero,Nat.mul_zero]
theorem rsip_eq {w d v:Nat} (hw:w<2 ^ 64):(if bitN d 1=1 then putN w 1 1 (bitN v 1) else w)=andN w (d &&& 2) ||| (v &&& d &&& 2):=by
 have h2:∀ i,i<64→bitN 2 i=if i=1 then 1 else 0:=fun i hi=>bit_pow 1 i
 refine eq_bits (n:=64) ?_ (Nat.or_lt_two_pow (andN_lt _ _) (Nat.lt_of_le_of_lt Nat.and_le_right (by decide))) fun i hi=>?_
 ·split
  ·exact put_lt ..
  ·exact hw
 ·rw [bit_or,andN_bit,if_pos hi,bit_and,bit_and,bit_and,h2 i hi]
  by_cases h1:i=1
  ·subst h1
   rcases bit_two d 1 with e | e
   ·rw [e,if_neg (by decide)];simp
   ·rw [e,if_pos rfl,put_bit,if_pos (by decide),if_pos (by decide),bit_b (bitN_lt _ _)];simp
  ·rw [if_neg h1]
   have:bitN (if bitN d 1=1 then putN w 1 1 (bitN v 1) else w) i=bitN w i:=by
    split
    ·rw [put_bit,if_pos hi,if_neg (by omega)]
    ·rfl
   rw [this]
   simp
end Go.Proofs.YtdhlpighdlnohaaGreat
namespace Go.Proofs.YtdhlpighdlnohaaGreat
open Go Go.Bits
def Csf.rw (f:Csf):List Nat:=csrNums.map fun n:Nat=>f.at (n:Int)
def Csf.rcs (f:Csf):List Value:=[.int .i64 f.hart]++(wcs f.rw++[.bool f.cl,.bool f.il])
theorem nums_len:csrNums.length=34:=by decide
theorem rw_len (f:Csf):f.rw.length=34:=by unfold Csf.rw;rw [List.length_map];exact nums_len
theorem rcs_len (f:Csf):f.rcs.length=37:=by simp [Csf.rcs,rw_len]
theorem idx_own {n:Int} {i:Nat} (h:idxN n=some i):∃ k:Nat,ownL[i]? = some k∧(k:Int)=n:=by
 obtain ⟨hl,h1,_⟩:=List.findIdx?_eq_some_iff_getElem.1 h
 exact ⟨ownL[i],List.getElem?_eq_getElem hl,of_decide_eq_true h1⟩
theorem idx_inj {n m:Int} {i:Nat} (h:idxN n=some i) (h2:idxN m=some i):m=n:=by
 obtain ⟨k,e,rfl⟩:=idx_own h
 obtain ⟨k2,e2,rfl⟩:=idx_own h2
 rw [e] at e2;cases e2;rfl
theorem put_at {f:Csf} (hl:f.w.length=22) {n:Int} {i:Nat} (hi:idxN n=some i) (m:Int) (v:Nat):(f.put n v).at m=if m=n then v else f.at m:=by
 unfold Csf.put
 rw [hi]
 unfold Csf.at
 by_cases e:m=n
 ·subst e
  rw [if_pos rfl,hi]
  show (f.w.set i v).getD i 0=v
  rw [List.getD_eq_getElem?_getD,List.getElem?_set_self (by rw [hl];exact idx_lt hi)]
  rfl
 ·rw [if_neg e]
  cases hm:idxN m with
  | none=>rfl
  | some j =>
   show (f.w.set i v).getD j 0=f.w.getD j 0
   have hne:i≠j:=fun e2=>e (by subst e2;exact idx_inj hi hm)
   rw [List.getD_eq_getElem?_getD,List.getD_eq_getElem?_getD,List.getElem?_set_ne hne]
theorem put_flags (f:Csf) (n:Int) (v:Nat):(f.put n v).hart=f.hart∧(f.put n v).cl=f.cl∧(f.put n v).il=f.il:=by
 unfold Csf.put
 split <;> exact ⟨rfl,rfl,rfl⟩
theorem nums_inj:∀ i,i<34→∀ j,j<34→csrNums.getD i 0=csrNums.getD j 0→i=j:=by decide +kernel
theorem num_at {j n:Nat} (h:csrNums[j]? = some n):j<34∧csrNums.getD j 0=n:=by
 have:=(List.getElem?_eq_some_iff.1 h).1
 rw [nums_len] at this
 exact ⟨this,by rw [List.getD_eq_getElem?_getD,h];rfl⟩
theorem rw_put {f:Csf} (hl:f.w.length=22) {j n:Nat} (hj:csrNums[j]? = some n) {i:Nat} (hi:idxN n=some i) (v:Nat):(f.put n v).rw=f.rw.set j v:=by
 refine List.ext_getElem? fun k=>?_
 rw [List.getElem?_set]
 unfold Csf.rw
 rw [List.getElem?_map,List.getElem?_map,List.length_map]
 have hj2:=num_at hj
 by_cases e:j=k
 ·subst e
  rw [if_pos rfl,if_pos (by rw [nums_len];exact hj2.1),hj]
  show some ((f.put n v).at n)=some v
  rw [put_at hl hi,if_pos rfl]
 ·rw [if_neg e]
  cases hk:csrNums[k]? with
  | none=>rfl
  | some m =>
   have hk2:=num_at hk
   show some ((f.put n v).at m)=some (f.at m)
   rw [put_at hl hi,if_neg fun e2=>e (nums_inj j hj2.1 k hk2.1 (by rw [hj2.2,hk2.2];omega))]
theorem rw_get (f:Csf) {j n:Nat} (hj:csrNums[j]? = some n):f.rw[j]? = some (f.at n):=by
 unfold Csf.rw
 rw [List.getElem?_map,hj];rfl
theorem rcs_w (f:Csf) {j n:Nat} (hj:csrNums[j]? = some n):f.rcs[1+j]? = some (.int .u64 (f.at n)):=by
 have h1:=rw_get f hj
 have hl:j<(wcs f.rw).length:=by rw [List.length_map,rw_len];exact (num_at hj).1
 unfold Csf.rcs
 rw [List.getElem?_append_right (by show 1≤1+j;omega),show 1+j - [Value.int .i64 f.hart].length=j by show 1+j - 1=j;omega,List.getElem?_append_left hl,List.getElem?_map,h1]
 rfl
theorem rcs_put {f:Csf} (hl:f.w.length=22) {j n:Nat} (hj:csrNums[j]? = some n) {i:Nat} (hi:idxN n=some i) (v:Nat):f.rcs.set (1+j) (.int .u64 v)=(f.put n v).rcs:=by
 have h1:=rw_put hl hj hi v
 have hl:j<(wcs f.rw).length:=by rw [List.length_map,rw_len];exact (num_at hj).1
 obtain ⟨f1,f2,f3⟩:=put_flags f n v
 unfold Csf.rcs
 rw [h1,f1,f2,f3,List.set_append_right _ _ (by show 1≤1+j;omega),show 1+j - [Value.int .i64 f.hart].length=j by show 1+j - 1=j;omega,List.set_append_left _ _ hl]
 show _=[Value.int .i64 f.hart]++((f.rw.set j v).map _++_)
 rw [List.map_set]
theorem rcs_flags (f:Csf):f.rcs[35]? = some (.bool f.cl)∧f.rcs[36]? = some (.bool f.il):=by
 have hl:(wcs f.rw).length=34:=by rw [List.length_map,rw_len]
 unfold Csf.rcs
 constructor
 ·rw [List.getElem?_append_right (by show 1≤35;decide),show 35 - [Value.int .i64 f.hart].length=34 from rfl,List.getElem?_append_right (by rw [hl];decide),hl];rfl
 ·rw [List.getElem?_append_right (by show 1≤36;decide),show 36 - [Value.int .i64 f.hart].length=35 from rfl,List.getElem?_append_right (by rw [hl];decide),hl];rfl
theorem rcs_cl (f:Csf) (b:Bool):f.rcs.set 35 (.bool b)=({ f with cl:=b }).rcs:=by
 have hl:(wcs f.rw).length=34:=by rw [List.length_map,rw_len]
 unfold Csf.rcs
 rw [List.set_append_right _ _ (by show 1≤35;decide),show 35 - [Value.int .i64 f.hart].length=34 from rfl,List.set_append_right _ _ (by rw [hl];decide),hl]
 rfl
theorem rcs_il (f:Csf) (b:Bool):f.rcs.set 36 (.bool b)=({ f with il:=b }).rcs:=by
 have hl:(wcs f.rw).length=34:=by rw [List.length_map,rw_len]
 unfold Csf.rcs
 rw [List.set_append_right _ _ (by show 1≤36;decide),show 36 - [Value.int .i64 f.hart].length=35 from rfl,List.set_append_right _ _ (by rw [hl];decide),hl]
 rfl
theorem rcs_one (f:Csf):f.rcs.all Value.oneCell'=true:=by
 rw [List.all_eq_true]
 intro v hv
 unfold Csf.rcs at hv
 rcases List.mem_append.1 hv with h | h
 ·rw [List.mem_singleton.1 h];rfl
 ·rcases List.mem_append.1 h with h | h
  ·obtain ⟨n,_,rfl⟩:=List.mem_map.1 h;rfl
  ·rcases List.mem_cons.1 h with h | h
   ·rw [h];rfl
   ·rw [List.mem_singleton.1 h];rfl
def nameOf (n:Int):Str:=match csrAll.find? (fun r=>decide ((r.1.1:Int)=n)) with
 | some r=>r.2
 | none=>[]
theorem names_inj:∀ i,i<34→∀ j,j<34→csrNames.getD i []=csrNames.getD j []→i=j:=by decide +kernel
theorem names_some:∀ i,i<34→csrNames.getD i []≠[]:=by decide +kernel
theorem all_get:∀ i,i<34→csrAll[i]? = some ((csrNums.getD i 0,maskN (csrNums.getD i 0:Nat)),csrNames.getD i []):=by decide +kernel
theorem row_cases (n:Int):(∃ i,i<34∧n=(csrNums.getD i 0:Nat)∧nameOf n=csrNames.getD i []∧csrAll.find? (fun r=>decide ((r.1.1:Int)=n))=some ((csrNums.getD i 0,maskN n),csrNames.getD i []))∨(nameOf n=[]∧knownB n=false∧csrAll.find? (fun r=>decide ((r.1.1:Int)=n))=none):=by
 cases h:csrAll.find? (fun r=>decide ((r.1.1:Int)=n)) with
 | none=>exact .inr ⟨by unfold nameOf;rw [h],(row_none h).1,rfl⟩
 | some r =>
  have hm:=List.mem_of_find?_eq_some h
  have hp:(r.1.1:Int)=n:=of_decide_eq_true (p:=(r.1.1:Int)=n) (List.find?_some (p:=fun r:(Nat×Nat)×Str=>decide ((r.1.1:Int)=n)) h)
  obtain ⟨i,hi,e⟩:=List.getElem_of_mem hm
  have hi2:i<34:=by rw [csrAll_len] at hi;exact hi
  have hg:=all_get i hi2
  rw [List.getElem?_eq_getElem hi,e] at hg
  cases hg
  exact .inl ⟨i,hi2,hp.symm,by unfold nameOf;rw [h],by rw [hp]⟩
theorem name_num {n:Int} (i:Nat) (hi:i<34) (h:nameOf n=csrNames.getD i []):n=(csrNums.getD i 0:Nat):=by
 rcases row_cases n with ⟨j,hj,e,e2,_⟩ | ⟨e,_⟩
 ·rw [e2] at h
  rw [← names_inj j hj i hi h]
  exact e
 ·rw [e] at h
  exact absurd h.symm (names_some i hi)
theorem own_known {n:Int} (h:knownB n=false):idxN n=none:=by
 cases e:idxN n with
 | none=>rfl
 | some i =>
  obtain ⟨k,e2,rfl⟩:=idx_own e
  have:∀ i,i<22→knownB (ownL.getD i 0:Nat)=true:=by decide +kernel
  have h2:=this i (idx_lt e)
  rw [List.getD_eq_getElem?_getD,e2] at h2
  rw [show (Option.some k).getD 0=k from rfl,h] at h2
  cases h2
end Go.Proofs.YtdhlpighdlnohaaGreat
namespace Go.Proofs.YtdhlpighdlnohaaGreat
open Go Go.Mid Go.RowKit Go.Bits
attribute [local irreducible] mid
abbrev uv (n:Nat):Value:=.int .u64 n
section
variable {h:Hp} {K:Value→Hp→Prop}
theorem aggU64:isAggT Tryz.prog 25 = some false:=by kernel_rfl
theorem infU64:Tryz.prog.info? 25 = some Tryz.prog.types[25]:=by kernel_rfl
theorem rbit_x (w:Nat) (i:Int) (hw:w<2 ^ 64) (hi:i≤63) (hk:K (uv (if 0≤i then bitN w i.toNat else 0)) h):X Tryz.prog 222 #[uv w,.int .i64 i] h K:=by
 by_cases h0:0≤i
 ·rw [if_pos h0] at hk
  refine fnv (args:=_) mixed [] [] [] Tryz.func222 rfl (by kernel_rfl) (cw_ ?_)
  refine bf_ ?_
  refine bf_ ?_
  refine loop_at [5,0] [] (fun r vs _ h'=>h=h'∧∃ k:Nat,k≤i.toNat∧r=i.toNat - k∧vs=[.v (.int .i64 k),.v (uv (w / 2 ^ k))]) i.toNat ⟨rfl,0,by omega,by omega,by rw [show w / 2 ^ 0=w by simp];rfl⟩ ?_
  rintro r vs cs mm bx _ ⟨rfl,k,hk1,rfl,rfl⟩
  conv=>whnf
  have hwk2:w / 2 ^ k≤w:=Nat.div_le_self _ _
  have hwk4:w / 2 ^ (k+1)≤w:=Nat.div_le_self _ _
  refine br_ (fun h1=>?_) fun h1=>?_
  ·conv=>whnf
   have e1:((w / 2 ^ k:Nat):Int).tdiv 2=((w / 2 ^ (k+1):Nat):Int):=by rw [Int.tdiv_eq_ediv_of_nonneg (Int.natCast_nonneg _),Nat.pow_succ,← Nat.div_div_eq_div_mul];rfl
   rw [e1]
   generalize hq:w / 2 ^ (k+1)=q at *
   have hq2:q<18446744073709551616:=by omega
   refine ov_u64 (by omega) (cw_ ?_)
   refine n_ ?_
   exact ⟨i.toNat - (k+1),by omega,rfl,k+1,by omega,rfl,by rw [hq];rfl⟩
  ·conv=>whnf
   obtain rfl:k=i.toNat:=by omega
   exact kq hk (iI (by rw [Int.tmod_eq_emod_of_nonneg (Int.natCast_nonneg _)];rfl))
 ·rw [if_neg h0] at hk
  refine fnv (args:=_) mixed [] [] [] Tryz.func222 rfl (by kernel_rfl) (cw_ ?_)
  refine bt_ ?_
  exact hk
theorem rof_x {k:Hp} {s:Value} {l:List Nat} (hO:Owns k h 25 1 s l.length (l.map uv)) (hl:l.length≤64) (h1:∀ x ∈ l,x<2) (hk:K (uv (ofL l)) h):X Tryz.prog 242 #[s] h K:=by
 rcases Nat.eq_zero_or_pos l.length with h0 | h0
 ·obtain rfl:l=[]:=List.eq_nil_of_length_eq_zero h0
  obtain ⟨sa,sc,rfl⟩:=hO.shape
  refine fnv (args:=_) mixed [] [] [] Tryz.func242 rfl (by kernel_rfl) (cw_ ?_)
  refine ov_i64 (by simp) (cw_ ?_)
  refine loop_step (cw_ ?_)
  exact hk
 ·obtain ⟨b,cap,rest,rfl,hc,hb,_⟩:=hO.row h0
  refine fnv (args:=_) mixed [] [] [] Tryz.func242 rfl (by kernel_rfl) (cw_ ?_)
  refine n_ ?_
  refine loop_at [4,3] [] (fun r vs _ h'=>h=h'∧r≤l.length∧vs=[.v (.int .i64 ((r:Int) - 1)),.v (uv (ofL (l.drop r)))]) l.length ⟨rfl,Nat.le_refl _,by rw [List.drop_length];rfl⟩ ?_
  rintro r vs cs mm bx _ ⟨rfl,hr,rfl⟩
  conv=>whnf
  refine br_ (fun q1=>?_) fun q1=>?_
  ·obtain ⟨j,rfl⟩:∃ j,r=j+1:=⟨r - 1,by omega⟩
   have hj:j<l.length:=by omega
   obtain ⟨x,hx⟩:∃ x,l[j]? = some x:=⟨_,List.getElem?_eq_getElem hj⟩
   have hx2:=h1 x (List.mem_of_getElem? hx)
   have hcell:(l.map uv++rest)[j]? = some (uv x):=by
    rw [List.getElem?_append_left (by simpa using hj),List.getElem?_map,hx];rfl
   have hd:l.drop j=x :: l.drop (j+1):=by
    rw [List.drop_eq_getElem_cons hj]
    congr 1
    exact (List.getElem?_eq_some_iff.1 hx).2
   have hlt:=ofL_lt (l.drop (j+1)) (fun y hy=>h1 y (List.mem_of_mem_drop hy))
   have hle:2 ^ (l.drop (j+1)).length≤2 ^ 63:=Nat.pow_le_pow_right (by decide) (by rw [List.length_drop];omega)
   have hlt2:ofL (l.drop (j+1))<9223372036854775808:=Nat.lt_of_lt_of_le hlt hle
   conv=>whnf
   refine bt_ ?_
   refine ov_u64 (by omega) (cw_ ?_)
   refine n_ ?_
   refine ⟨_,loadI aggU64 hb (j:=j) (by omega) hcell,cw_ ?_⟩
   refine ov_u64 (by omega) (cw_ ?_)
   refine n_ ?_
   refine ⟨j,by omega,rfl,by omega,?_⟩
   rw [hd]
   show [MV.v _,MV.v _]=_
   rw [show ((j+1:Nat):Int) - 1 - 1=(j:Int) - 1 by omega]
   rfl
  ·obtain rfl:r=0:=by omega
   conv=>whnf
   exact hk
theorem rin_x (a s b:Nat) (ha:a≤64) (hs:s≤64) (hb:b≤64) (hk:K (.tuple #[.int .i64 (if a≤b∧b<a+s then b - a else 0:Nat),.bool (decide (a≤b∧b<a+s))]) h):X Tryz.prog 316 #[.int .i64 a,.int .i64 s,.int .i64 b] h K:=by
 by_cases hc:a≤b∧b<a+s
 ·rw [if_pos hc,decide_eq_true hc] at hk
  refine fnv (args:=_) mixed [] [] [] Tryz.func316 rfl (by kernel_rfl) (cw_ ?_)
  refine bf_ ?_
  refine bf_ ?_
  refine n_ ?_
  refine n_ ?_
  refine n_ ?_
  refine n_ ?_
  refine bf_ ?_
  refine bf_ ?_
  refine n_ ?_
  exact kq hk (by rw [show ((b:Int) - a)=((b - a:Nat):Int) by omega];rfl)
 ·rw [if_neg hc,decide_eq_false hc] at hk
  refine fnv (args:=_) mixed [] [] [] Tryz.func316 rfl (by kernel_rfl) (cw_ ?_)
  refine br_ (fun q1=>?_) fun q1=>?_
  ·conv=>whnf
   exact hk
  ·conv=>whnf
   refine br_ (fun q2=>?_) fun q2=>?_
   ·conv=>whnf
    exact hk
   ·conv=>whnf
    refine n_ ?_
    refine n_ ?_
    refine n_ ?_
    refine n_ ?_
    refine bt_ ?_
    exact hk
def upto (f:Nat→Nat) (i:Nat):List Value:=((List.range i).map f).map uv
theorem upto_succ (f:Nat→Nat) (i:Nat):upto f (i+1)=upto f i++[uv (f i)]:=by
 unfold upto;rw [List.range_succ,List.map_append,List.map_append];rfl
theorem rofU_x {k h:Hp} {s:Value} {f:Nat→Nat} (hO:Owns k h 25 1 s 64 (upto f 64)) (hf:∀ i,f i<2) (hk:K (uv (bitsOf 64 f)) h):X Tryz.prog 242 #[s] h K:=by
 have hl:((List.range 64).map f).length=64:=by simp
 refine rof_x (l:=(List.range 64).map f) (by rw [hl];exact hO) (by rw [hl];exact Nat.le_refl _) (fun x hx=>?_) hk
 obtain ⟨i,_,rfl⟩:=List.mem_map.1 hx
 exact hf i
theorem rput_x (w a s n:Nat) (hw:w<2 ^ 64) (hn:n<2 ^ 64) (ha:a≤63) (hs:s≤64) (hk:K (uv (putN w a s n)) h):X Tryz.prog 254 #[uv w,.int .i64 a,.int .i64 s,uv n] h K:=by
 refine X.forget ?_
 have hf:∀ i,(if a≤i∧i<a+s then bitN n (i - a) else bitN w i)<2:=fun i=>by split <;> exact bitN_lt _ _
 refine fnv (args:=_) mixed [] [] [] Tryz.func254 rfl (by kernel_rfl) (cw_ ?_)
 refine loop_at [10,9] [] (fun r vs _ h'=>∃ (i:Nat) (sl:Value),i≤64∧r=64 - i∧vs=[.v (.int .i64 i),.v sl]∧Owns h h' 25 1 sl i (upto (fun i=>if a≤i∧i<a+s then bitN n (i - a) else bitN w i) i)) 64
  ⟨0,.slice none 0 0,by omega,rfl,rfl,Owns.nil (Hp.le_refl _)⟩ ?_
 rintro r vs cs mm bx h1 ⟨i,sl,hi,rfl,rfl,hO⟩
 obtain ⟨sa,sc,rfl⟩:=hO.shape
 conv=>whnf
 refine br_ (fun q1=>?_) fun q1=>?_
 ·conv=>whnf
  refine rin_x a s i (by omega) hs (by omega) ?_
  by_cases hc:a≤i∧i<a+s
  ·rw [if_pos hc,decide_eq_true hc]
   conv=>whnf
   refine rbit_x n (i - a:Nat) hn (by omega) ?_
   rw [if_pos (by omega)]
   conv=>whnf
   refine new_intro (o:=rowO 25 [uv (bitN n (i - a))]) (fun y h2 n_y le_y at_y ot_y=>cw_ ?_)
   refine Owns.app1 (z:=.int .u64 0) (by kernel_rfl) infU64 (by kernel_rfl) (by kernel_rfl) (by kernel_rfl) rfl (bytes:=8) (by decide) rfl rfl rfl (hO.up le_y) at_y rfl rfl (by omega) fun s3 h3 hO3=>(cw_ ?_)
   refine n_ ?_
   refine ⟨64 - (i+1),by omega,i+1,s3,by omega,rfl,rfl,?_⟩
   rw [upto_succ]
   simp only [if_pos hc]
   exact hO3
  ·rw [if_neg hc,decide_eq_false hc]
   conv=>whnf
   refine rbit_x w i hw (by omega) ?_
   rw [if_pos (by omega)]
   conv=>whnf
   refine new_intro (o:=rowO 25 [uv (bitN w i)]) (fun y h2 n_y le_y at_y ot_y=>cw_ ?_)
   refine Owns.app1 (z:=.int .u64 0) (by kernel_rfl) infU64 (by kernel_rfl) (by kernel_rfl) (by kernel_rfl) rfl (bytes:=8) (by decide) rfl rfl rfl (hO.up le_y) at_y rfl rfl (by omega) fun s3 h3 hO3=>(cw_ ?_)
   refine n_ ?_
   refine ⟨64 - (i+1),by omega,i+1,s3,by omega,rfl,rfl,?_⟩
   rw [upto_succ]
   simp only [if_neg hc]
   exact hO3
 ·obtain rfl:i=64:=by omega
  conv=>whnf
  refine rofU_x hO hf (cw_ ?_)
  exact ⟨h,hO.le,hk⟩
end
end Go.Proofs.YtdhlpighdlnohaaGreat
namespace Go.Proofs.YtdhlpighdlnohaaGreat
open Go Go.Mid Go.RowKit Go.Bits
attribute [local irreducible] mid
section
variable {h:Hp} {K:Value→Hp→Prop}
theorem rcut_x (w a s:Nat) (hw:w<2 ^ 64) (ha:a≤63) (hs:s≤64) (hk:K (uv (w / 2 ^ a % 2 ^ s)) h):X Tryz.prog 221 #[uv w,.int .i64 a,.int .i64 s] h K:=by
 rw [← cut_eq hw] at hk
 refine X.forget ?_
 have hf:∀ k,(if k<s∧a+k<64 then bitN w (a+k) else 0)<2:=fun i=>by split <;> first | exact bitN_lt _ _ | decide
 refine fnv (args:=_) mixed [] [] [] Tryz.func221 rfl (by kernel_rfl) (cw_ ?_)
 refine loop_at [8,7] [] (fun r vs _ h'=>∃ (k:Nat) (sl:Value),k≤64∧r=64 - k∧vs=[.v (.int .i64 k),.v sl]∧Owns h h' 25 1 sl k (upto (fun k=>if k<s∧a+k<64 then bitN w (a+k) else 0) k)) 64
  ⟨0,.slice none 0 0,by omega,rfl,rfl,Owns.nil (Hp.le_refl _)⟩ ?_
 rintro r vs cs mm bx h1 ⟨k,sl,hi,rfl,rfl,hO⟩
 obtain ⟨sa,sc,rfl⟩:=hO.shape
 conv=>whnf
 refine br_ (fun q1=>?_) fun q1=>?_
 ·conv=>whnf
  refine br_ (fun q2=>?_) fun q2=>?_
  ·conv=>whnf
   refine loop_at [10,9] [] (fun r vs _ h'=>h1=h'∧∃ i:Nat,i≤64∧r=64 - i∧vs=[.v (.int .i64 i),.v (uv (if a+k<i then bitN w (a+k) else 0))]) 64 ⟨rfl,0,by omega,rfl,by rw [if_neg (by omega)];rfl⟩ ?_
   rintro r vs cs mm2 bx2 _ ⟨rfl,i,hi2,rfl,rfl⟩
   conv=>whnf
   refine br_ (fun q3=>?_) fun q3=>?_
   ·conv=>whnf
    refine rin_x a s i (by omega) hs (by omega) ?_
    by_cases hc:a≤i∧i<a+s
    ·rw [if_pos hc,decide_eq_true hc]
     conv=>whnf
     by_cases he:i - a=k
     ·have hik:i=a+k:=by omega
      refine bt_ ?_
      refine rbit_x w i hw (by omega) ?_
      rw [if_pos (by omega),Int.toNat_natCast]
      conv=>whnf
      refine n_ ?_
      exact ⟨64 - (i+1),by omega,rfl,i+1,by omega,rfl,by rw [show (if a+k<i+1 then bitN w (a+k) else 0)=bitN w i by rw [if_pos (by omega),← hik]];rfl⟩
     ·refine bf_ ?_
      refine n_ ?_
      refine ⟨64 - (i+1),by omega,rfl,i+1,by omega,rfl,?_⟩
      rw [show (if a+k<i+1 then bitN w (a+k) else 0)=(if a+k<i then bitN w (a+k) else 0) by
       by_cases h9:a+k<i
       ·rw [if_pos h9,if_pos (by omega)]
       ·rw [if_neg h9,if_neg (by omega)]]
      rfl
    ·rw [if_neg hc,decide_eq_false hc]
     conv=>whnf
     refine n_ ?_
     refine ⟨64 - (i+1),by omega,rfl,i+1,by omega,rfl,?_⟩
     rw [show (if a+k<i+1 then bitN w (a+k) else 0)=(if a+k<i then bitN w (a+k) else 0) by
      by_cases h9:a+k<i
      ·rw [if_pos h9,if_pos (by omega)]
      ·rw [if_neg h9,if_neg (by omega)]]
     rfl
   ·obtain rfl:i=64:=by omega
    conv=>whnf
    refine new_intro (o:=rowO 25 [uv (if a+k<64 then bitN w (a+k) else 0)]) (fun y h2 n_y le_y at_y ot_y=>cw_ ?_)
    refine Owns.app1 (z:=.int .u64 0) (by kernel_rfl) infU64 (by kernel_rfl) (by kernel_rfl) (by kernel_rfl) rfl (bytes:=8) (by decide) rfl rfl rfl (hO.up le_y) at_y rfl rfl (by omega) fun s3 h3 hO3=>(cw_ ?_)
    refine n_ ?_
    refine ⟨64 - (k+1),by omega,k+1,s3,by omega,rfl,rfl,?_⟩
    rw [upto_succ]
    rw [show (if k<s∧a+k<64 then bitN w (a+k) else 0)=(if a+k<64 then bitN w (a+k) else 0) by
     by_cases h9:a+k<64
     ·rw [if_pos h9,if_pos ⟨by omega,h9⟩]
     ·rw [if_neg h9,if_neg (fun h=>h9 h.2)]]
    exact hO3
  ·conv=>whnf
   refine new_intro (o:=rowO 25 [uv 0]) (fun y h2 n_y le_y at_y ot_y=>cw_ ?_)
   refine Owns.app1 (z:=.int .u64 0) (by kernel_rfl) infU64 (by kernel_rfl) (by kernel_rfl) (by kernel_rfl) rfl (bytes:=8) (by decide) rfl rfl rfl (hO.up le_y) at_y rfl rfl (by omega) fun s3 h3 hO3=>(cw_ ?_)
   refine n_ ?_
   refine ⟨64 - (k+1),by omega,k+1,s3,by omega,rfl,rfl,?_⟩
   rw [upto_succ]
   rw [if_neg (fun h=>by omega)]
   exact hO3
 ·obtain rfl:k=64:=by omega
  conv=>whnf
  refine rofU_x hO hf (cw_ ?_)
  exact ⟨h,hO.le,hk⟩
end
end Go.Proofs.YtdhlpighdlnohaaGreat
