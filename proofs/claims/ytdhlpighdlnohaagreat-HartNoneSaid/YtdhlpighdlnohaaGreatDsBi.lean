/-
  Instructions as words: numbers laid and read, the program's (printed by a program).
-/
import Derived.Test.YtdhlpighdlnohaaGreatDsL
import Derived.Test.YtdhlpighdlnohaaGreatCsC
import Derived.Test.YtdhlpighdlnohaaGreatImmP
import Derived.Test.YtdhlpighdlnohaaGreatBitXg
set_option linter.unusedSimpArgs false
set_option linter.unusedVariables false
set_option maxHeartbeats 8000000
set_option maxRecDepth 10000
set_option linter.unusedSimpArgs false
set_option linter.unusedVariables false
namespace Go.Proofs.YtdhlpighdlnohaaGreat.As
open Go Go.Mid Go.RowKit Go.Bits
attribute [local irreducible] mid
def codeL:List (Nat×Nat×Nat):=[(55,0,0),(23,0,0),(111,0,0),(103,0,0),(99,0,0),(99,1,0),(99,4,0),(99,5,0),(99,6,0),(99,7,0),(3,0,0),(3,1,0),(3,2,0),(3,3,0),(3,4,0),(3,5,0),(3,6,0),(35,0,0),(35,1,0),(35,2,0),(35,3,0),(19,0,0),(19,2,0),(19,3,0),(19,4,0),(19,6,0),(19,7,0),(19,1,0),(19,5,0),(19,5,32),(51,0,0),(51,0,32),(51,1,0),(51,2,0),(51,3,0),(51,4,0),(51,5,0),(51,5,32),(51,6,0),(51,7,0),(27,0,0),(27,1,0),(27,5,0),(27,5,32),(59,0,0),(59,0,32),(59,1,0),(59,5,0),(59,5,32),(15,0,0),(15,1,0),(115,0,115),(115,0,1048691),(51,0,1),(51,1,1),(51,2,1),(51,3,1),(51,4,1),(51,5,1),(51,6,1),(51,7,1),(59,0,1),(59,4,1),(59,5,1),(59,6,1),(59,7,1),(47,2,8),(47,2,12),(47,2,4),(47,2,0),(47,2,16),(47,2,48),(47,2,32),(47,2,64),(47,2,80),(47,2,96),(47,2,112),(47,3,8),(47,3,12),(47,3,4),(47,3,0),(47,3,16),(47,3,48),(47,3,32),(47,3,64),(47,3,80),(47,3,96),(47,3,112),(115,1,0),(115,2,0),(115,3,0),(115,5,0),(115,6,0),(115,7,0),(115,0,807403635),(115,0,270532723),(115,0,273678451),(115,0,9)]
def codeN (i:Nat):Nat×Nat×Nat:=codeL.getD i (0,0,0)
def maskF:Nat→Nat
 | 5 | 6=>127
 | 2 | 3 | 4 | 9 | 10=>28799
 | 1 | 8=>4261441663
 | 7=>4227887231
 | 11=>4160778367
 | 12=>4193284223
 | 13=>4294967295
 | 14=>4261445631
 | _=>0
def maskN (i:Nat):Nat:=(rowsL.getD i ⟨0,[],0,0⟩).mask
def isN (i:Nat):Nat:=(rowsL.getD i ⟨0,[],0,0⟩).is
theorem fixed_eq:∀ i:Nat,i<98→maskF (fmtN ((i+1:Nat):Int))=maskN i∧(if fmtN ((i+1:Nat):Int)=13 then (codeN i).2.2 else ((codeN i).1 ||| (codeN i).2.1*2 ^ 12 % 4294967296) ||| (codeN i).2.2*2 ^ 25 % 4294967296)=isN i:=by decide +kernel
theorem code_lt:∀ i:Nat,i<98→(codeN i).1<2 ^ 32∧(codeN i).2.1<2 ^ 32∧(codeN i).2.2<2 ^ 32:=by decide +kernel
section
variable {h:Hp} {K:Value→Hp→Prop}
theorem code_plain (i:Nat) (h1:0≤i) (h2:i<28) (hk:K (.tuple #[wx (codeN i).1,wx (codeN i).2.1,wx (codeN i).2.2]) h):X Tryz.prog 376 #[.int .i64 ((i+1:Nat):Int)] h K:=by
 have:i=0∨i=1∨i=2∨i=3∨i=4∨i=5∨i=6∨i=7∨i=8∨i=9∨i=10∨i=11∨i=12∨i=13∨i=14∨i=15∨i=16∨i=17∨i=18∨i=19∨i=20∨i=21∨i=22∨i=23∨i=24∨i=25∨i=26∨i=27:=by omega
 rcases this with rfl | rfl | rfl | rfl | rfl | rfl | rfl | rfl | rfl | rfl | rfl | rfl | rfl | rfl | rfl | rfl | rfl | rfl | rfl | rfl | rfl | rfl | rfl | rfl | rfl | rfl | rfl | rfl <;>
 ·refine fnv (args:=_) mixed [] [] [] Tryz.func376 rfl (by kernel_rfl) (cw_ ?_)
  refine fnv (args:=_) mixed [] [] [] Tryz.func398 rfl (by kernel_rfl) (cw_ ?_)
  exact hk
theorem code_reg (i:Nat) (h1:28≤i) (h2:i<56) (hk:K (.tuple #[wx (codeN i).1,wx (codeN i).2.1,wx (codeN i).2.2]) h):X Tryz.prog 376 #[.int .i64 ((i+1:Nat):Int)] h K:=by
 have:i=28∨i=29∨i=30∨i=31∨i=32∨i=33∨i=34∨i=35∨i=36∨i=37∨i=38∨i=39∨i=40∨i=41∨i=42∨i=43∨i=44∨i=45∨i=46∨i=47∨i=48∨i=49∨i=50∨i=51∨i=52∨i=53∨i=54∨i=55:=by omega
 rcases this with rfl | rfl | rfl | rfl | rfl | rfl | rfl | rfl | rfl | rfl | rfl | rfl | rfl | rfl | rfl | rfl | rfl | rfl | rfl | rfl | rfl | rfl | rfl | rfl | rfl | rfl | rfl | rfl <;>
 ·refine fnv (args:=_) mixed [] [] [] Tryz.func376 rfl (by kernel_rfl) (cw_ ?_)
  refine fnv (args:=_) mixed [] [] [] Tryz.func399 rfl (by kernel_rfl) (cw_ ?_)
  exact hk
theorem code_more (i:Nat) (h1:56≤i) (h2:i<84) (hk:K (.tuple #[wx (codeN i).1,wx (codeN i).2.1,wx (codeN i).2.2]) h):X Tryz.prog 376 #[.int .i64 ((i+1:Nat):Int)] h K:=by
 have:i=56∨i=57∨i=58∨i=59∨i=60∨i=61∨i=62∨i=63∨i=64∨i=65∨i=66∨i=67∨i=68∨i=69∨i=70∨i=71∨i=72∨i=73∨i=74∨i=75∨i=76∨i=77∨i=78∨i=79∨i=80∨i=81∨i=82∨i=83:=by omega
 rcases this with rfl | rfl | rfl | rfl | rfl | rfl | rfl | rfl | rfl | rfl | rfl | rfl | rfl | rfl | rfl | rfl | rfl | rfl | rfl | rfl | rfl | rfl | rfl | rfl | rfl | rfl | rfl | rfl <;>
 ·refine fnv (args:=_) mixed [] [] [] Tryz.func376 rfl (by kernel_rfl) (cw_ ?_)
  refine fnv (args:=_) mixed [] [] [] Tryz.func400 rfl (by kernel_rfl) (cw_ ?_)
  exact hk
theorem code_last (i:Nat) (h1:84≤i) (h2:i<98) (hk:K (.tuple #[wx (codeN i).1,wx (codeN i).2.1,wx (codeN i).2.2]) h):X Tryz.prog 376 #[.int .i64 ((i+1:Nat):Int)] h K:=by
 have:i=84∨i=85∨i=86∨i=87∨i=88∨i=89∨i=90∨i=91∨i=92∨i=93∨i=94∨i=95∨i=96∨i=97:=by omega
 rcases this with rfl | rfl | rfl | rfl | rfl | rfl | rfl | rfl | rfl | rfl | rfl | rfl | rfl | rfl <;>
 ·refine fnv (args:=_) mixed [] [] [] Tryz.func376 rfl (by kernel_rfl) (cw_ ?_)
  refine fnv (args:=_) mixed [] [] [] Tryz.func401 rfl (by kernel_rfl) (cw_ ?_)
  exact hk
theorem code_x (i:Nat) (hi:i<98) (hk:K (.tuple #[wx (codeN i).1,wx (codeN i).2.1,wx (codeN i).2.2]) h):X Tryz.prog 376 #[.int .i64 ((i+1:Nat):Int)] h K:=by
 rcases Nat.lt_or_ge i 28 with h28 | h28
 ·exact code_plain i (by omega) h28 hk
 rcases Nat.lt_or_ge i 56 with h56 | h56
 ·exact code_reg i (by omega) h56 hk
 rcases Nat.lt_or_ge i 84 with h84 | h84
 ·exact code_more i (by omega) h84 hk
 exact code_last i (by omega) hi hk
theorem mask0_x (hk:K (wx (maskF 0)) h):X Tryz.prog 377 #[.int .i64 0] h K:=by
 refine fnv (args:=_) mixed [] [] [] Tryz.func377 rfl (by kernel_rfl) (cw_ ?_)
 exact hk
theorem mask1_x (hk:K (wx (maskF 1)) h):X Tryz.prog 377 #[.int .i64 1] h K:=by
 refine fnv (args:=_) mixed [] [] [] Tryz.func377 rfl (by kernel_rfl) (cw_ ?_)
 exact hk
theorem mask2_x (hk:K (wx (maskF 2)) h):X Tryz.prog 377 #[.int .i64 2] h K:=by
 refine fnv (args:=_) mixed [] [] [] Tryz.func377 rfl (by kernel_rfl) (cw_ ?_)
 exact hk
theorem mask3_x (hk:K (wx (maskF 3)) h):X Tryz.prog 377 #[.int .i64 3] h K:=by
 refine fnv (args:=_) mixed [] [] [] Tryz.func377 rfl (by kernel_rfl) (cw_ ?_)
 exact hk
theorem mask4_x (hk:K (wx (maskF 4)) h):X Tryz.prog 377 #[.int .i64 4] h K:=by
 refine fnv (args:=_) mixed [] [] [] Tryz.func377 rfl (by kernel_rfl) (cw_ ?_)
 exact hk
theorem mask5_x (hk:K (wx (maskF 5)) h):X Tryz.prog 377 #[.int .i64 5] h K:=by
 refine fnv (args:=_) mixed [] [] [] Tryz.func377 rfl (by kernel_rfl) (cw_ ?_)
 exact hk
theorem mask6_x (hk:K (wx (maskF 6)) h):X Tryz.prog 377 #[.int .i64 6] h K:=by
 refine fnv (args:=_) mixed [] [] [] Tryz.func377 rfl (by kernel_rfl) (cw_ ?_)
 exact hk
theorem mask7_x (hk:K (wx (maskF 7)) h):X Tryz.prog 377 #[.int .i64 7] h K:=by
 refine fnv (args:=_) mixed [] [] [] Tryz.func377 rfl (by kernel_rfl) (cw_ ?_)
 exact hk
theorem mask8_x (hk:K (wx (maskF 8)) h):X Tryz.prog 377 #[.int .i64 8] h K:=by
 refine fnv (args:=_) mixed [] [] [] Tryz.func377 rfl (by kernel_rfl) (cw_ ?_)
 exact hk
theorem mask9_x (hk:K (wx (maskF 9)) h):X Tryz.prog 377 #[.int .i64 9] h K:=by
 refine fnv (args:=_) mixed [] [] [] Tryz.func377 rfl (by kernel_rfl) (cw_ ?_)
 exact hk
theorem mask10_x (hk:K (wx (maskF 10)) h):X Tryz.prog 377 #[.int .i64 10] h K:=by
 refine fnv (args:=_) mixed [] [] [] Tryz.func377 rfl (by kernel_rfl) (cw_ ?_)
 exact hk
theorem mask11_x (hk:K (wx (maskF 11)) h):X Tryz.prog 377 #[.int .i64 11] h K:=by
 refine fnv (args:=_) mixed [] [] [] Tryz.func377 rfl (by kernel_rfl) (cw_ ?_)
 exact hk
theorem mask12_x (hk:K (wx (maskF 12)) h):X Tryz.prog 377 #[.int .i64 12] h K:=by
 refine fnv (args:=_) mixed [] [] [] Tryz.func377 rfl (by kernel_rfl) (cw_ ?_)
 exact hk
theorem mask13_x (hk:K (wx (maskF 13)) h):X Tryz.prog 377 #[.int .i64 13] h K:=by
 refine fnv (args:=_) mixed [] [] [] Tryz.func377 rfl (by kernel_rfl) (cw_ ?_)
 exact hk
theorem mask14_x (hk:K (wx (maskF 14)) h):X Tryz.prog 377 #[.int .i64 14] h K:=by
 refine fnv (args:=_) mixed [] [] [] Tryz.func377 rfl (by kernel_rfl) (cw_ ?_)
 exact hk
theorem mask_x (f:Nat) (hf:f<15) (hk:K (wx (maskF f)) h):X Tryz.prog 377 #[.int .i64 f] h K:=by
 match f,hf,hk with
 | 0,_,hk=>exact mask0_x hk
 | 1,_,hk=>exact mask1_x hk
 | 2,_,hk=>exact mask2_x hk
 | 3,_,hk=>exact mask3_x hk
 | 4,_,hk=>exact mask4_x hk
 | 5,_,hk=>exact mask5_x hk
 | 6,_,hk=>exact mask6_x hk
 | 7,_,hk=>exact mask7_x hk
 | 8,_,hk=>exact mask8_x hk
 | 9,_,hk=>exact mask9_x hk
 | 10,_,hk=>exact mask10_x hk
 | 11,_,hk=>exact mask11_x hk
 | 12,_,hk=>exact mask12_x hk
 | 13,_,hk=>exact mask13_x hk
 | 14,_,hk=>exact mask14_x hk
 | f+15,hf,_=>exact absurd hf (by omega)
theorem fixed_x (i:Nat) (hi:i<98) (hk:K (.tuple #[wx (maskN i),wx (isN i)]) h):X Tryz.prog 340 #[.int .i64 ((i+1:Nat):Int)] h K:=by
 obtain ⟨e1,e2⟩:=fixed_eq i hi
 obtain ⟨l1,l2,l3⟩:=code_lt i hi
 rw [← e1,← e2] at hk
 have hl:=fmtN_lt ((i+1:Nat):Int)
 refine fnv (args:=_) mixed [] [] [] Tryz.func340 rfl (by kernel_rfl) (cw_ ?_)
 refine code_x i hi (cw_ ?_)
 refine fmt_x _ ?_
 generalize fmtN ((i+1:Nat):Int)=f at hk hl ⊢
 generalize codeN i=t at hk l1 l2 l3 ⊢
 conv=>whnf
 refine br_ (fun q1=>?_) fun q1=>?_
 ·rw [if_pos (by omega)] at hk
  conv=>whnf
  refine mask_x f hl (cw_ ?_)
  exact hk
 ·rw [if_neg (by omega)] at hk
  conv=>whnf
  refine mask_x f hl (cw_ ?_)
  refine ov_by (shl32 t.2.1 12 (by decide)) (cw_ ?_)
  refine val_by (or32 l1 (Nat.mod_lt _ (by decide))) (cw_ ?_)
  refine ov_by (shl32 t.2.2 25 (by decide)) (cw_ ?_)
  refine val_by (or32 (Nat.or_lt_two_pow l1 (Nat.mod_lt _ (by decide))) (Nat.mod_lt _ (by decide))) (cw_ ?_)
  exact hk
end
end Go.Proofs.YtdhlpighdlnohaaGreat.As
namespace Go.Bits
abbrev Piece:=Nat×Nat×Nat
def pieceN (u:Nat) (p:Piece):Nat:=u / 2 ^ p.1 % 2 ^ p.2.1*2 ^ p.2.2
def orP (u:Nat):List Piece→Nat
 | []=>0
 | p :: l=>pieceN u p ||| orP u l
def covers (q:Nat) (p:Piece):Option Nat:=if p.2.2≤q∧q<p.2.2+p.2.1 then some (p.1+(q - p.2.2)) else none
def mx (u:Nat):List Nat→Nat
 | []=>0
 | j :: l=>max (bitN u j) (mx u l)
theorem piece_bit (u:Nat) (p:Piece) (q:Nat):bitN (pieceN u p) q=match covers q p with | some j=>bitN u j | none=>0:=by
 unfold pieceN covers
 rw [bit_mul,bit_mod,bit_div]
 by_cases h1:p.2.2≤q
 ·rw [if_pos h1]
  by_cases h2:q<p.2.2+p.2.1
  ·rw [if_pos (by omega),if_pos ⟨h1,h2⟩]
  ·rw [if_neg (by omega),if_neg (fun h=>h2 h.2)]
 ·rw [if_neg h1,if_neg (fun h=>h1 h.1)]
theorem orP_bit (u:Nat):∀ (l:List Piece) (q:Nat),bitN (orP u l) q=mx u (l.filterMap (covers q))
 | [],q=>by simp [orP,mx,bitN]
 | p :: l,q=>by
  show bitN (pieceN u p ||| orP u l) q=_
  rw [bit_or,piece_bit,orP_bit u l q,List.filterMap_cons]
  cases covers q p with
  | none=>simp
  | some j=>rfl
theorem orP_lt (u:Nat):∀ (l:List Piece),(∀ p ∈ l,p.2.1+p.2.2≤32)→orP u l<2 ^ 32
 | [],_=>(show (0:Nat)<2 ^ 32 by decide)
 | p :: l,h=>by
  have hp:=h p (by simp)
  refine Nat.or_lt_two_pow ?_ (orP_lt u l fun x hx=>h x (by simp [hx]))
  have h1:u / 2 ^ p.1 % 2 ^ p.2.1<2 ^ p.2.1:=Nat.mod_lt _ (Nat.pow_pos (by decide))
  have h2:=Nat.mul_lt_mul_of_pos_right h1 (show 0<2 ^ p.2.2 from Nat.pow_pos (by decide))
  rw [← Nat.pow_add] at h2
  exact Nat.lt_of_lt_of_le h2 (Nat.pow_le_pow_right (by decide) hp)
def layL:Nat→List Piece
 | 2=>[(0,12,20)]
 | 3=>[(5,7,25),(0,5,7)]
 | 4=>[(12,1,31),(5,6,25),(1,4,8),(11,1,7)]
 | 5=>[(12,20,12)]
 | 6=>[(20,1,31),(1,10,21),(11,1,20),(12,8,12)]
 | 7=>[(0,6,20)]
 | 8=>[(0,5,20)]
 | _=>[]
def immL:Nat→List Piece
 | 2=>[(20,12,0)]
 | 3=>[(25,7,5),(7,5,0)]
 | 4=>[(31,1,12),(7,1,11),(25,6,5),(8,4,1)]
 | 5=>[(12,20,12)]
 | 6=>[(31,1,20),(12,8,12),(20,1,11),(21,10,1)]
 | 7=>[(20,6,0)]
 | 8=>[(20,5,0)]
 | _=>[]
theorem layL_ok:∀ f:Nat,f<15→(∀ p ∈ layL f,p.2.1+p.2.2≤32)∧(∀ p ∈ immL f,p.2.1+p.2.2≤32)∧once (placesL f)=true:=by decide
def bitAt (ps:List Int) (k:Nat):List Nat:=match ps[k]? with
 | some p=>if 0≤p then [p.toNat] else []
 | none=>[]
theorem immBits_at (w:Nat) (ps:List Int) (k:Nat):bitN (ofL (immBits ps w)) k=mx w (bitAt ps k):=by
 rw [bit_ofL _ (fun b hb=>by obtain ⟨p,_,rfl⟩:=List.mem_map.1 hb;split <;> first | exact bitN_lt _ _ | decide)]
 unfold immBits bitAt
 rw [List.getD_eq_getElem?_getD,List.getElem?_map]
 cases ps[k]? with
 | none=>rfl
 | some p =>
  simp only [Option.map_some,Option.getD_some]
  split
  ·simp [mx]
  ·rfl
theorem imm_maps:∀ f:Nat,f<15→∀ k:Nat,k<32→(immL f).filterMap (covers k)=bitAt (placesL f) k:=by decide +kernel
theorem imm_eq (f:Nat) (hf:f<15) (w:Nat):orP w (immL f)=ofL (immBits (placesL f) w):=by
 have h32:(placesL f).length≤32:=by
  have:∀ f:Nat,f<15→(placesL f).length≤32:=by decide
  exact this f hf
 refine eq_bits (n:=32) (orP_lt w (immL f) (layL_ok f hf).2.1) (Nat.lt_of_lt_of_le (immBits_lt _ _) (Nat.pow_le_pow_right (by decide) h32)) fun k hk=>?_
 rw [orP_bit,imm_maps f hf k hk,immBits_at]
end Go.Bits
namespace Go.Proofs.YtdhlpighdlnohaaGreat.As
open Go Go.Mid Go.RowKit Go.Bits
attribute [local irreducible] mid
theorem mask_lt:∀ i:Nat,i<98→maskN i<2 ^ 32∧isN i<2 ^ 32:=by decide +kernel
theorem and_bit (a b i:Nat):bitN (a &&& b) i=min (bitN a i) (bitN b i):=by
 rw [bit_eq,bit_eq,bit_eq,Nat.testBit_and]
 cases a.testBit i <;> cases b.testBit i <;> rfl
section
variable {h:Hp} {K:Value→Hp→Prop}
end
end Go.Proofs.YtdhlpighdlnohaaGreat.As
namespace Go.Proofs.YtdhlpighdlnohaaGreat.As
open Go Go.Mid Go.RowKit Go.Bits
attribute [local irreducible] mid
def gmap:List (Nat×Nat)→Nat→List Nat
 | [],_=>[]
 | p :: l,q=>if (l.map (·.2)).sum≤q then [p.1+(q - (l.map (·.2)).sum)] else gmap l q
theorem gmap_cons (p:Nat×Nat) (l:List (Nat×Nat)) (q:Nat):gmap (p :: l) q=if (l.map (·.2)).sum≤q then [p.1+(q - (l.map (·.2)).sum)] else gmap l q:=rfl
theorem gath_bits (w:Nat):∀ (l:List (Nat×Nat)) (out n:Nat),out<2 ^ n→n+(l.map (·.2)).sum≤64→gath w l out<2 ^ (n+(l.map (·.2)).sum)∧∀ q,bitN (gath w l out) q=if (l.map (·.2)).sum≤q then bitN out (q - (l.map (·.2)).sum) else mx w (gmap l q)
 | [],out,n,ho,_=>⟨by simpa [gath] using ho,fun q=>by simp [gath]⟩
 | p :: l,out,n,ho,hn=>by
  simp only [List.map_cons,List.sum_cons] at hn ⊢
  have h1:out*2 ^ p.2<2 ^ (n+p.2):=by rw [Nat.pow_add];exact Nat.mul_lt_mul_of_pos_right ho (Nat.pow_pos (by decide))
  have h2:out*2 ^ p.2 % 18446744073709551616=out*2 ^ p.2:=Nat.mod_eq_of_lt (Nat.lt_of_lt_of_le h1 (Nat.pow_le_pow_right (by decide) (by omega):2 ^ (n+p.2)≤2 ^ 64))
  have h3:w / 2 ^ p.1 % 2 ^ p.2<2 ^ (n+p.2):=Nat.lt_of_lt_of_le (Nat.mod_lt _ (Nat.pow_pos (by decide))) (Nat.pow_le_pow_right (by decide) (by omega))
  obtain ⟨i1,i2⟩:=gath_bits w l ((out*2 ^ p.2 % 18446744073709551616) ||| (w / 2 ^ p.1 % 2 ^ p.2)) (n+p.2) (by rw [h2];exact Nat.or_lt_two_pow h1 h3) (by omega)
  refine ⟨by rw [show n+(p.2+(l.map (·.2)).sum)=n+p.2+(l.map (·.2)).sum by omega];exact i1,fun q=>?_⟩
  show bitN (gath w l _) q=_
  rw [i2 q,h2,gmap_cons]
  by_cases hq:(l.map (·.2)).sum≤q
  ·rw [if_pos hq,bit_or,bit_mul,bit_mod,bit_div]
   by_cases hq2:p.2+(l.map (·.2)).sum≤q
   ·rw [if_pos hq2,if_pos (by omega),if_neg (by omega),show q - (l.map (·.2)).sum - p.2=q - (p.2+(l.map (·.2)).sum) by omega]
    simp
   ·rw [if_neg hq2,if_neg (by omega),if_pos (by omega),if_pos hq]
    simp [mx]
  ·rw [if_neg hq,if_neg (by omega),if_neg hq]
theorem GATH3 (w:Nat):gath w [(25,7),(7,5)] 0=orP w (immL 3):=by
 obtain ⟨h1,h2⟩:=gath_bits w [(25,7),(7,5)] 0 0 (by decide) (by decide)
 have h2:∀ q,bitN (gath w [(25,7),(7,5)] 0) q=if 12≤q then bitN 0 (q - 12) else mx w (gmap [(25,7),(7,5)] q):=h2
 refine eq_bits (n:=32) (Nat.lt_of_lt_of_le h1 (by decide)) (orP_lt w (immL 3) (by decide)) fun q hq=>?_
 rw [h2 q,orP_bit]
 have key:∀ q:Nat,q<32→(if 12≤q then [] else gmap [(25,7),(7,5)] q)=(immL 3).filterMap (covers q):=by decide
 have:=key q hq
 by_cases ht:12≤q
 ·rw [if_pos ht] at this;rw [if_pos ht,← this];simp [mx,bitN]
 ·rw [if_neg ht] at this;rw [if_neg ht,← this]
theorem ev4 (w:Nat):orP w (immL 4) % 2=0:=by
 have:=orP_bit w (immL 4) 0
 rw [show (immL 4).filterMap (covers 0)=[] by decide] at this
 unfold bitN at this
 simpa [mx] using this
theorem GATH4 (w:Nat):gath w [(31,1),(7,1),(25,6),(8,4)] 0=orP w (immL 4) / 2:=by
 obtain ⟨h1,h2⟩:=gath_bits w [(31,1),(7,1),(25,6),(8,4)] 0 0 (by decide) (by decide)
 have h2:∀ q,bitN (gath w [(31,1),(7,1),(25,6),(8,4)] 0) q=if 12≤q then bitN 0 (q - 12) else mx w (gmap [(31,1),(7,1),(25,6),(8,4)] q):=h2
 refine eq_bits (n:=32) (Nat.lt_of_lt_of_le h1 (by decide)) (Nat.lt_of_le_of_lt (Nat.div_le_self _ _) (orP_lt w (immL 4) (by decide))) fun q hq=>?_
 rw [h2 q,show orP w (immL 4) / 2=orP w (immL 4) / 2 ^ 1 from rfl,bit_div,orP_bit]
 have key:∀ q:Nat,q<32→(if 12≤q then [] else gmap [(31,1),(7,1),(25,6),(8,4)] q)=(immL 4).filterMap (covers (1+q)):=by decide
 have:=key q hq
 by_cases ht:12≤q
 ·rw [if_pos ht] at this;rw [if_pos ht,← this];simp [mx,bitN]
 ·rw [if_neg ht] at this;rw [if_neg ht,← this]
theorem ev6 (w:Nat):orP w (immL 6) % 2=0:=by
 have:=orP_bit w (immL 6) 0
 rw [show (immL 6).filterMap (covers 0)=[] by decide] at this
 unfold bitN at this
 simpa [mx] using this
theorem GATH6 (w:Nat):gath w [(31,1),(12,8),(20,1),(21,10)] 0=orP w (immL 6) / 2:=by
 obtain ⟨h1,h2⟩:=gath_bits w [(31,1),(12,8),(20,1),(21,10)] 0 0 (by decide) (by decide)
 have h2:∀ q,bitN (gath w [(31,1),(12,8),(20,1),(21,10)] 0) q=if 20≤q then bitN 0 (q - 20) else mx w (gmap [(31,1),(12,8),(20,1),(21,10)] q):=h2
 refine eq_bits (n:=32) (Nat.lt_of_lt_of_le h1 (by decide)) (Nat.lt_of_le_of_lt (Nat.div_le_self _ _) (orP_lt w (immL 6) (by decide))) fun q hq=>?_
 rw [h2 q,show orP w (immL 6) / 2=orP w (immL 6) / 2 ^ 1 from rfl,bit_div,orP_bit]
 have key:∀ q:Nat,q<32→(if 20≤q then [] else gmap [(31,1),(12,8),(20,1),(21,10)] q)=(immL 6).filterMap (covers (1+q)):=by decide
 have:=key q hq
 by_cases ht:20≤q
 ·rw [if_pos ht] at this;rw [if_pos ht,← this];simp [mx,bitN]
 ·rw [if_neg ht] at this;rw [if_neg ht,← this]
section
variable {h:Hp} {K:Value→Hp→Prop}
theorem field_x (w a s:Nat) (hw:w<2 ^ 32) (ha:a≤63) (hs:1≤s∧s≤32) (hk:K (.int .i64 (w / 2 ^ a % 2 ^ s:Nat)) h):X Tryz.prog 170 #[wx w,.int .i64 a,.int .i64 s] h K:=by
 have h1:w / 2 ^ a % 2 ^ s≤w:=Nat.le_trans (Nat.mod_le _ _) (Nat.div_le_self _ _)
 generalize hv:w / 2 ^ a % 2 ^ s=v at h1 hk
 refine fnv (args:=_) mixed [] [] [] Tryz.func170 rfl (by kernel_rfl) (cw_ ?_)
 refine ov_u64 (by omega) (cw_ ?_)
 refine bcut_x w a s (Nat.lt_trans hw (by decide)) ha (by omega) ?_
 rw [hv]
 conv=>whnf
 refine n_ ?_
 exact hk
theorem imm0_x (w:Nat) (hw:w<2 ^ 32) (hk:K (.int .i64 (i64N (immN 0 w))) h):X Tryz.prog 171 #[.int .i64 0,wx w] h K:=by
 have he:=imm_eq 0 (by decide) w
 have hw64:w<2 ^ 64:=Nat.lt_trans hw (by decide)
 rw [show immN 0 w=ofL (immBits (placesL 0) w) from rfl,← he] at hk
 refine fnv (args:=_) mixed [] [] [] Tryz.func171 rfl (by kernel_rfl) (cw_ ?_)
 refine ov_u64 (by omega) (cw_ ?_)
 exact hk
theorem imm1_x (w:Nat) (hw:w<2 ^ 32) (hk:K (.int .i64 (i64N (immN 1 w))) h):X Tryz.prog 171 #[.int .i64 1,wx w] h K:=by
 have he:=imm_eq 1 (by decide) w
 have hw64:w<2 ^ 64:=Nat.lt_trans hw (by decide)
 rw [show immN 1 w=ofL (immBits (placesL 1) w) from rfl,← he] at hk
 refine fnv (args:=_) mixed [] [] [] Tryz.func171 rfl (by kernel_rfl) (cw_ ?_)
 refine ov_u64 (by omega) (cw_ ?_)
 exact hk
theorem imm2_x (w:Nat) (hw:w<2 ^ 32) (hk:K (.int .i64 (i64N (immN 2 w))) h):X Tryz.prog 171 #[.int .i64 2,wx w] h K:=by
 have he:=imm_eq 2 (by decide) w
 have hw64:w<2 ^ 64:=Nat.lt_trans hw (by decide)
 rw [show immN 2 w=signN (ofL (immBits (placesL 2) w)) 12 from rfl,← he] at hk
 refine fnv (args:=_) mixed [] [] [] Tryz.func171 rfl (by kernel_rfl) (cw_ ?_)
 refine ov_u64 (by omega) (cw_ ?_)
 refine val_by (shr64 w 20 (by decide)) (cw_ ?_)
 refine bsign_x (w / 2 ^ 20) 12 (Nat.lt_of_le_of_lt (Nat.div_le_self _ _) hw64) (by decide) (cw_ ?_)
 refine ov_by (wrapI64N _ (sign_lt _ _)) ?_
 rw [show orP w (immL 2)=w / 2 ^ 20 % 2 ^ 12 by unfold immL orP orP pieceN;simp] at hk
 conv=>whnf
 exact hk
theorem imm3_x (w:Nat) (hw:w<2 ^ 32) (hk:K (.int .i64 (i64N (immN 3 w))) h):X Tryz.prog 171 #[.int .i64 3,wx w] h K:=by
 refine X.forget ?_
 have he:=imm_eq 3 (by decide) w
 have hw64:w<2 ^ 64:=Nat.lt_trans hw (by decide)
 rw [show immN 3 w=signN (ofL (immBits (placesL 3) w)) 12 from rfl,← he] at hk
 refine fnv (args:=_) mixed [] [] [] Tryz.func171 rfl (by kernel_rfl) (cw_ ?_)
 refine ov_u64 (by omega) (cw_ ?_)
 refine new_intro (o:=rowO 366 (([(25,7),(7,5)]:List (Nat×Nat)).flatMap partC)) (fun bg h1 n_bg le_bg at_bg ot_bg=>cw_ ?_)
 refine bgather_x w hw64 [(25,7),(7,5)] bg 2 at_bg (by decide) (by decide) ?_
 have hg:gath w [(25,7),(7,5)] 0=orP w (immL 3):=GATH3 w
 rw [hg]
 conv=>whnf
 have hlt:=orP_lt w (immL 3) (by decide)
 have hl2:orP w (immL 3)<2 ^ 12:=by
  rw [he];exact immBits_lt (placesL 3) w
 refine bsign_x (orP w (immL 3)) 12 (Nat.lt_trans hlt (by decide)) (by decide) ?_
 rw [Nat.mod_eq_of_lt hl2]
 conv=>whnf
 refine ov_by (wrapI64N _ (sign_lt _ _)) (cw_ ?_)
 exact ⟨h,le_bg,hk⟩
theorem imm4_x (w:Nat) (hw:w<2 ^ 32) (hk:K (.int .i64 (i64N (immN 4 w))) h):X Tryz.prog 171 #[.int .i64 4,wx w] h K:=by
 refine X.forget ?_
 have he:=imm_eq 4 (by decide) w
 have hw64:w<2 ^ 64:=Nat.lt_trans hw (by decide)
 rw [show immN 4 w=signN (ofL (immBits (placesL 4) w)) 13 from rfl,← he] at hk
 refine fnv (args:=_) mixed [] [] [] Tryz.func171 rfl (by kernel_rfl) (cw_ ?_)
 refine ov_u64 (by omega) (cw_ ?_)
 refine new_intro (o:=rowO 366 (([(31,1),(7,1),(25,6),(8,4)]:List (Nat×Nat)).flatMap partC)) (fun bg h1 n_bg le_bg at_bg ot_bg=>cw_ ?_)
 refine bgather_x w hw64 [(31,1),(7,1),(25,6),(8,4)] bg 4 at_bg (by decide) (by decide) ?_
 have hg:gath w [(31,1),(7,1),(25,6),(8,4)] 0=orP w (immL 4) / 2:=GATH4 w
 rw [hg]
 conv=>whnf
 refine ov_by (shl64 (orP w (immL 4) / 2) 1 (by decide)) ?_
 have hlt:=orP_lt w (immL 4) (by decide)
 have hev:=ev4 w
 rw [show orP w (immL 4) / 2*2 ^ 1 % 18446744073709551616=orP w (immL 4) by omega]
 conv=>whnf
 have hl2:orP w (immL 4)<2 ^ 13:=by
  rw [he];exact immBits_lt (placesL 4) w
 refine bsign_x (orP w (immL 4)) 13 (Nat.lt_trans hlt (by decide)) (by decide) ?_
 rw [Nat.mod_eq_of_lt hl2]
 conv=>whnf
 refine ov_by (wrapI64N _ (sign_lt _ _)) (cw_ ?_)
 exact ⟨h,le_bg,hk⟩
theorem imm5_x (w:Nat) (hw:w<2 ^ 32) (hk:K (.int .i64 (i64N (immN 5 w))) h):X Tryz.prog 171 #[.int .i64 5,wx w] h K:=by
 have he:=imm_eq 5 (by decide) w
 have hw64:w<2 ^ 64:=Nat.lt_trans hw (by decide)
 rw [show immN 5 w=signN (ofL (immBits (placesL 5) w)) 32 from rfl,← he] at hk
 refine fnv (args:=_) mixed [] [] [] Tryz.func171 rfl (by kernel_rfl) (cw_ ?_)
 refine ov_u64 (by omega) (cw_ ?_)
 refine val_by (andNot64 hw64 (show 4095<2 ^ 64 by decide)) (cw_ ?_)
 refine bword_x (andN w 4095) (andN_lt _ _) (cw_ ?_)
 refine ov_by (wrapI64N _ (sign_lt _ _)) ?_
 rw [show orP w (immL 5)=andN w 4095 % 2 ^ 32 by
  refine eq_bits (n:=32) (orP_lt w (immL 5) (by decide)) (Nat.mod_lt _ (by decide)) fun q hq=>?_
  rw [orP_bit,bit_mod,if_pos hq,andN_bit,if_pos (by omega)]
  have hb:bitN 4095 q=if q<12 then 1 else 0:=by
   have:∀ q:Nat,q<32→bitN 4095 q=if q<12 then 1 else 0:=by decide
   exact this q hq
  rw [hb]
  by_cases hq2:q<12
  ·have:(immL 5).filterMap (covers q)=[]:=by
    have:∀ q:Nat,q<12→(immL 5).filterMap (covers q)=[]:=by decide
    exact this q hq2
   rw [this,if_pos hq2];rfl
  ·have:(immL 5).filterMap (covers q)=[q]:=by
    have:∀ q:Nat,q<32→¬ q<12→(immL 5).filterMap (covers q)=[q]:=by decide
    exact this q hq hq2
   rw [this,if_neg hq2];simp [mx]] at hk
 conv=>whnf
 exact hk
theorem imm6_x (w:Nat) (hw:w<2 ^ 32) (hk:K (.int .i64 (i64N (immN 6 w))) h):X Tryz.prog 171 #[.int .i64 6,wx w] h K:=by
 refine X.forget ?_
 have he:=imm_eq 6 (by decide) w
 have hw64:w<2 ^ 64:=Nat.lt_trans hw (by decide)
 rw [show immN 6 w=signN (ofL (immBits (placesL 6) w)) 21 from rfl,← he] at hk
 refine fnv (args:=_) mixed [] [] [] Tryz.func171 rfl (by kernel_rfl) (cw_ ?_)
 refine ov_u64 (by omega) (cw_ ?_)
 refine new_intro (o:=rowO 366 (([(31,1),(12,8),(20,1),(21,10)]:List (Nat×Nat)).flatMap partC)) (fun bg h1 n_bg le_bg at_bg ot_bg=>cw_ ?_)
 refine bgather_x w hw64 [(31,1),(12,8),(20,1),(21,10)] bg 4 at_bg (by decide) (by decide) ?_
 have hg:gath w [(31,1),(12,8),(20,1),(21,10)] 0=orP w (immL 6) / 2:=GATH6 w
 rw [hg]
 conv=>whnf
 refine ov_by (shl64 (orP w (immL 6) / 2) 1 (by decide)) ?_
 have hlt:=orP_lt w (immL 6) (by decide)
 have hev:=ev6 w
 rw [show orP w (immL 6) / 2*2 ^ 1 % 18446744073709551616=orP w (immL 6) by omega]
 conv=>whnf
 have hl2:orP w (immL 6)<2 ^ 21:=by
  rw [he];exact immBits_lt (placesL 6) w
 refine bsign_x (orP w (immL 6)) 21 (Nat.lt_trans hlt (by decide)) (by decide) ?_
 rw [Nat.mod_eq_of_lt hl2]
 conv=>whnf
 refine ov_by (wrapI64N _ (sign_lt _ _)) (cw_ ?_)
 exact ⟨h,le_bg,hk⟩
theorem imm7_x (w:Nat) (hw:w<2 ^ 32) (hk:K (.int .i64 (i64N (immN 7 w))) h):X Tryz.prog 171 #[.int .i64 7,wx w] h K:=by
 have he:=imm_eq 7 (by decide) w
 have hw64:w<2 ^ 64:=Nat.lt_trans hw (by decide)
 rw [show immN 7 w=ofL (immBits (placesL 7) w) from rfl,← he] at hk
 refine fnv (args:=_) mixed [] [] [] Tryz.func171 rfl (by kernel_rfl) (cw_ ?_)
 refine ov_u64 (by omega) (cw_ ?_)
 refine bcut_x w 20 6 hw64 (by decide) (by decide) (cw_ ?_)
 have hlt:w / 2 ^ 20 % 2 ^ 6<2 ^ 64:=Nat.lt_trans (Nat.mod_lt _ (by decide)) (show 2 ^ 6<2 ^ 64 by decide)
 refine ov_by (wrapI64N _ hlt) ?_
 rw [show orP w (immL 7)=w / 2 ^ 20 % 2 ^ 6 by unfold immL orP orP pieceN;simp] at hk
 conv=>whnf
 exact hk
theorem imm8_x (w:Nat) (hw:w<2 ^ 32) (hk:K (.int .i64 (i64N (immN 8 w))) h):X Tryz.prog 171 #[.int .i64 8,wx w] h K:=by
 have he:=imm_eq 8 (by decide) w
 have hw64:w<2 ^ 64:=Nat.lt_trans hw (by decide)
 rw [show immN 8 w=ofL (immBits (placesL 8) w) from rfl,← he] at hk
 refine fnv (args:=_) mixed [] [] [] Tryz.func171 rfl (by kernel_rfl) (cw_ ?_)
 refine ov_u64 (by omega) (cw_ ?_)
 refine bcut_x w 20 5 hw64 (by decide) (by decide) (cw_ ?_)
 have hlt:w / 2 ^ 20 % 2 ^ 5<2 ^ 64:=Nat.lt_trans (Nat.mod_lt _ (by decide)) (show 2 ^ 5<2 ^ 64 by decide)
 refine ov_by (wrapI64N _ hlt) ?_
 rw [show orP w (immL 8)=w / 2 ^ 20 % 2 ^ 5 by unfold immL orP orP pieceN;simp] at hk
 conv=>whnf
 exact hk
theorem imm9_x (w:Nat) (hw:w<2 ^ 32) (hk:K (.int .i64 (i64N (immN 9 w))) h):X Tryz.prog 171 #[.int .i64 9,wx w] h K:=by
 have he:=imm_eq 9 (by decide) w
 have hw64:w<2 ^ 64:=Nat.lt_trans hw (by decide)
 rw [show immN 9 w=ofL (immBits (placesL 9) w) from rfl,← he] at hk
 refine fnv (args:=_) mixed [] [] [] Tryz.func171 rfl (by kernel_rfl) (cw_ ?_)
 refine ov_u64 (by omega) (cw_ ?_)
 exact hk
theorem imm10_x (w:Nat) (hw:w<2 ^ 32) (hk:K (.int .i64 (i64N (immN 10 w))) h):X Tryz.prog 171 #[.int .i64 10,wx w] h K:=by
 have he:=imm_eq 10 (by decide) w
 have hw64:w<2 ^ 64:=Nat.lt_trans hw (by decide)
 rw [show immN 10 w=ofL (immBits (placesL 10) w) from rfl,← he] at hk
 refine fnv (args:=_) mixed [] [] [] Tryz.func171 rfl (by kernel_rfl) (cw_ ?_)
 refine ov_u64 (by omega) (cw_ ?_)
 exact hk
theorem imm11_x (w:Nat) (hw:w<2 ^ 32) (hk:K (.int .i64 (i64N (immN 11 w))) h):X Tryz.prog 171 #[.int .i64 11,wx w] h K:=by
 have he:=imm_eq 11 (by decide) w
 have hw64:w<2 ^ 64:=Nat.lt_trans hw (by decide)
 rw [show immN 11 w=ofL (immBits (placesL 11) w) from rfl,← he] at hk
 refine fnv (args:=_) mixed [] [] [] Tryz.func171 rfl (by kernel_rfl) (cw_ ?_)
 refine ov_u64 (by omega) (cw_ ?_)
 exact hk
theorem imm12_x (w:Nat) (hw:w<2 ^ 32) (hk:K (.int .i64 (i64N (immN 12 w))) h):X Tryz.prog 171 #[.int .i64 12,wx w] h K:=by
 have he:=imm_eq 12 (by decide) w
 have hw64:w<2 ^ 64:=Nat.lt_trans hw (by decide)
 rw [show immN 12 w=ofL (immBits (placesL 12) w) from rfl,← he] at hk
 refine fnv (args:=_) mixed [] [] [] Tryz.func171 rfl (by kernel_rfl) (cw_ ?_)
 refine ov_u64 (by omega) (cw_ ?_)
 exact hk
theorem imm13_x (w:Nat) (hw:w<2 ^ 32) (hk:K (.int .i64 (i64N (immN 13 w))) h):X Tryz.prog 171 #[.int .i64 13,wx w] h K:=by
 have he:=imm_eq 13 (by decide) w
 have hw64:w<2 ^ 64:=Nat.lt_trans hw (by decide)
 rw [show immN 13 w=ofL (immBits (placesL 13) w) from rfl,← he] at hk
 refine fnv (args:=_) mixed [] [] [] Tryz.func171 rfl (by kernel_rfl) (cw_ ?_)
 refine ov_u64 (by omega) (cw_ ?_)
 exact hk
theorem imm14_x (w:Nat) (hw:w<2 ^ 32) (hk:K (.int .i64 (i64N (immN 14 w))) h):X Tryz.prog 171 #[.int .i64 14,wx w] h K:=by
 have he:=imm_eq 14 (by decide) w
 have hw64:w<2 ^ 64:=Nat.lt_trans hw (by decide)
 rw [show immN 14 w=ofL (immBits (placesL 14) w) from rfl,← he] at hk
 refine fnv (args:=_) mixed [] [] [] Tryz.func171 rfl (by kernel_rfl) (cw_ ?_)
 refine ov_u64 (by omega) (cw_ ?_)
 exact hk
theorem imm_x (f:Nat) (hf:f<15) (w:Nat) (hw:w<2 ^ 32) (hk:K (.int .i64 (i64N (immN f w))) h):X Tryz.prog 171 #[.int .i64 f,wx w] h K:=by
 match f,hf,hk with
 | 0,_,hk=>exact imm0_x w hw hk
 | 1,_,hk=>exact imm1_x w hw hk
 | 2,_,hk=>exact imm2_x w hw hk
 | 3,_,hk=>exact imm3_x w hw hk
 | 4,_,hk=>exact imm4_x w hw hk
 | 5,_,hk=>exact imm5_x w hw hk
 | 6,_,hk=>exact imm6_x w hw hk
 | 7,_,hk=>exact imm7_x w hw hk
 | 8,_,hk=>exact imm8_x w hw hk
 | 9,_,hk=>exact imm9_x w hw hk
 | 10,_,hk=>exact imm10_x w hw hk
 | 11,_,hk=>exact imm11_x w hw hk
 | 12,_,hk=>exact imm12_x w hw hk
 | 13,_,hk=>exact imm13_x w hw hk
 | 14,_,hk=>exact imm14_x w hw hk
 | f+15,hf,_=>exact absurd hf (by omega)
end
end Go.Proofs.YtdhlpighdlnohaaGreat.As
