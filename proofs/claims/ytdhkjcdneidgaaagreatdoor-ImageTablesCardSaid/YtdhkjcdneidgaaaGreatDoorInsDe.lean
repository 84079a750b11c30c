/-
  Instructions as words: decoded and encoded, the program's (printed by a program).
-/
import Derived.Test.YtdhkjcdneidgaaaGreatDoorAsP
import Derived.Test.YtdhkjcdneidgaaaGreatDoorBitX
import Derived.Test.YtdhkjcdneidgaaaGreatDoorMidM
namespace Go.Proofs.YtdhkjcdneidgaaaGreatDoor
set_option linter.unusedSimpArgs false
set_option linter.unusedVariables false
set_option linter.unusedSimpArgs false
set_option linter.unusedVariables false
open Go Go.Mid Go.RowKit
attribute [local irreducible] mid
theorem chk_ok {x:Ins} (h:x.chk=0):1≤x.op∧x.op≤98∧fmtN x.op≠0∧(0≤x.a∧x.a≤31)∧(0≤x.b∧x.b≤31)∧(0≤x.c∧x.c≤31)∧(0≤x.s∧x.s≤4095)∧fitsN (fmtN x.op) x.m=true∧¬ badF (fieldsL.getD (fmtN x.op) []) x.a x.b x.c x.m x.s x.aq x.rl:=by
 unfold Ins.chk checkF at h
 by_cases h0:fmtN x.op=0
 ·rw [if_pos h0] at h;cases h
 rw [if_neg h0] at h
 by_cases hb:badF (fieldsL.getD (fmtN x.op) []) x.a x.b x.c x.m x.s x.aq x.rl
 ·rw [if_pos hb] at h;cases h
 rw [if_neg hb] at h
 by_cases hr:x.a<0∨31<x.a∨x.b<0∨31<x.b∨x.c<0∨31<x.c
 ·rw [if_pos hr] at h;cases h
 rw [if_neg hr] at h
 by_cases hs:x.s<0∨4095<x.s∨fitsN (fmtN x.op) x.m=false
 ·rw [if_pos hs] at h;cases h
 have hf:fitsN (fmtN x.op) x.m=true:=by
  cases hq:fitsN (fmtN x.op) x.m with
  | true=>rfl
  | false=>exact absurd (.inr (.inr hq)) hs
 have hop:1≤x.op∧x.op≤98:=by
  unfold fmtN at h0
  split at h0
  ·rename_i h2
   refine ⟨?_,by omega⟩
   by_cases hz:x.op=0
   ·rw [hz] at h0;exact absurd (by decide) h0
   ·omega
  ·exact absurd rfl h0
 exact ⟨hop.1,hop.2,h0,by omega,by omega,by omega,by omega,hf,hb⟩
section
set_option maxHeartbeats 8000000
set_option maxRecDepth 10000
variable {h:Hp} {K:Value→Hp→Prop}
end
end Go.Proofs.YtdhkjcdneidgaaaGreatDoor

namespace Go.Bits
set_option linter.unusedSimpArgs false
set_option linter.unusedVariables false
set_option linter.unusedSimpArgs false
set_option linter.unusedVariables false
abbrev Piece:=Nat×Nat×Nat
def pieceN (u:Nat) (p:Piece):Nat:=u / 2 ^ p.1 % 2 ^ p.2.1*2 ^ p.2.2
def orP (u:Nat):List Piece→Nat
 | []=>0
 | p :: l=>pieceN u p ||| orP u l
def covers (q:Nat) (p:Piece):Option Nat:=if p.2.2≤q∧q<p.2.2+p.2.1 then some (p.1+(q - p.2.2)) else none
def mx (u:Nat):List Nat→Nat
 | []=>0
 | j :: l=>max (bitN u j) (mx u l)
theorem piece_bit (u:Nat) (p:Piece) (q:Nat):bitN (pieceN u p) q=match covers q p with | some j=>bitN u j | none=>0:=by
 unfold pieceN covers
 rw [bit_mul,bit_mod,bit_div]
 by_cases h1:p.2.2≤q
 ·rw [if_pos h1]
  by_cases h2:q<p.2.2+p.2.1
  ·rw [if_pos (by omega),if_pos ⟨h1,h2⟩]
  ·rw [if_neg (by omega),if_neg (fun h=>h2 h.2)]
 ·rw [if_neg h1,if_neg (fun h=>h1 h.1)]
theorem orP_bit (u:Nat):∀ (l:List Piece) (q:Nat),bitN (orP u l) q=mx u (l.filterMap (covers q))
 | [],q=>by simp [orP,mx,bitN]
 | p :: l,q=>by
  show bitN (pieceN u p ||| orP u l) q=_
  rw [bit_or,piece_bit,orP_bit u l q,List.filterMap_cons]
  cases covers q p with
  | none=>simp
  | some j=>rfl
theorem orP_lt (u:Nat):∀ (l:List Piece),(∀ p ∈ l,p.2.1+p.2.2≤32)→orP u l<2 ^ 32
 | [],_=>(show (0:Nat)<2 ^ 32 by decide)
 | p :: l,h=>by
  have hp:=h p (by simp)
  refine Nat.or_lt_two_pow ?_ (orP_lt u l fun x hx=>h x (by simp [hx]))
  have h1:u / 2 ^ p.1 % 2 ^ p.2.1<2 ^ p.2.1:=Nat.mod_lt _ (Nat.pow_pos (by decide))
  have h2:=Nat.mul_lt_mul_of_pos_right h1 (show 0<2 ^ p.2.2 from Nat.pow_pos (by decide))
  rw [← Nat.pow_add] at h2
  exact Nat.lt_of_lt_of_le h2 (Nat.pow_le_pow_right (by decide) hp)
def layL:Nat→List Piece
 | 2=>[(0,12,20)]
 | 3=>[(5,7,25),(0,5,7)]
 | 4=>[(12,1,31),(5,6,25),(1,4,8),(11,1,7)]
 | 5=>[(12,20,12)]
 | 6=>[(20,1,31),(1,10,21),(11,1,20),(12,8,12)]
 | 7=>[(0,6,20)]
 | 8=>[(0,5,20)]
 | _=>[]
def layP (f u:Nat):Nat:=orP u (layL f)
def immL:Nat→List Piece
 | 2=>[(20,12,0)]
 | 3=>[(25,7,5),(7,5,0)]
 | 4=>[(31,1,12),(7,1,11),(25,6,5),(8,4,1)]
 | 5=>[(12,20,12)]
 | 6=>[(31,1,20),(12,8,12),(20,1,11),(21,10,1)]
 | 7=>[(20,6,0)]
 | 8=>[(20,5,0)]
 | _=>[]
theorem layL_ok:∀ f:Nat,f<15→(∀ p ∈ layL f,p.2.1+p.2.2≤32)∧(∀ p ∈ immL f,p.2.1+p.2.2≤32)∧once (placesL f)=true:=by decide
def placeOf (ps:List Int) (q:Nat):List Nat:=match ps.findIdx? (·==(q:Int)) with
 | some j=>[j]
 | none=>[]
theorem layN_bit (u:Nat) (ps:List Int) (ho:once ps=true) (q:Nat) (hq:q<64):bitN (layFrom u ps 0 0) q=mx u (placeOf ps q):=by
 unfold placeOf
 cases hf:ps.findIdx? (·==(q:Int)) with
 | none =>
  rw [List.findIdx?_eq_none_iff] at hf
  rw [lay_other ps 0 0 q hq (fun hm=>by have:=hf _ hm;simp at this)]
  simp [mx,bitN]
 | some j =>
  rw [List.findIdx?_eq_some_iff_getElem] at hf
  obtain ⟨hj,e,_⟩:=hf
  have e:ps[j]=(q:Int):=by simpa using e
  rw [lay_at ps 0 0 j q hq ho (by rw [List.getElem?_eq_getElem hj,e])]
  simp [mx]
theorem lay_maps:∀ f:Nat,f<15→∀ q:Nat,q<64→(layL f).filterMap (covers q)=placeOf (placesL f) q:=by decide +kernel
theorem lay_eq (f:Nat) (hf:f<15) (u:Nat):layP f u=layN f u:=by
 have hlt:=orP_lt u (layL f) (layL_ok f hf).1
 have hl2:∀ (ps:List Int) (i w:Nat),w<2 ^ 64→layFrom u ps i w<2 ^ 64:=fun ps=>by
  induction ps with
  | nil=>intro i w hw;exact hw
  | cons p ps ih =>
   intro i w hw
   refine ih (i+1) _ ?_
   split
   ·exact put_lt _ _ _ _
   ·exact hw
 refine eq_bits (n:=64) (Nat.lt_trans hlt (by decide)) (hl2 _ 0 0 (by decide)) fun q hq=>?_
 unfold layP layN
 rw [orP_bit,lay_maps f hf q hq,layN_bit u _ (layL_ok f hf).2.2 q hq]
end Go.Bits

namespace Go.Proofs.YtdhkjcdneidgaaaGreatDoor
set_option linter.unusedSimpArgs false
set_option linter.unusedVariables false
set_option linter.unusedSimpArgs false
set_option linter.unusedVariables false
open Go Go.Mid Go.RowKit Go.Bits
attribute [local irreducible] mid
theorem piece_lt {u:Nat} {p:Piece} (h:p.2.1+p.2.2≤32):pieceN u p<2 ^ 32:=by
 have:=orP_lt u [p] (fun q hq=>by rw [List.mem_singleton.1 hq];exact h)
 simpa [orP] using this
theorem u64N_lt64 (n:Int):u64N n<2 ^ 64:=by unfold u64N;omega
section
set_option maxHeartbeats 8000000
set_option maxRecDepth 10000
variable {h:Hp} {K:Value→Hp→Prop}
theorem agg64:isAggT Tryz.prog 25=some false:=by kernel_rfl
theorem siz64:sizeT Tryz.prog 25=some 1:=by kernel_rfl
theorem laycut_x (bn u:Nat) (hb:h bn=some (rowO 25 [ux u])) (hu:u<2 ^ 64) (a s t:Nat) (ha:a≤63) (hs:1≤s) (ht:s+t≤32) (hk:K (wx (pieceN u (a,s,t))) h):X Tryz.prog 155 #[.int .i64 a,.int .i64 s,.int .i64 t,.pointer (some ⟨bn,0,none⟩)] h K:=by
 have hlt:u / 2 ^ a % 2 ^ s*2 ^ t<2 ^ 32:=piece_lt (u:=u) (p:=(a,s,t)) ht
 have hk:K (wx (u / 2 ^ a % 2 ^ s*2 ^ t)) h:=hk
 refine fnv (args:=_) mixed [] [] [] Tryz.func155 rfl (by kernel_rfl) ?_;conv=>whnf
 refine ⟨_,loadC0 agg64 hb rfl,?_⟩;conv=>whnf
 refine bcut_x u a s hu ha (by omega) ?_
 conv=>whnf
 refine ov_u64 (by omega) ?_;conv=>whnf
 refine ov_by (shl64 _ t (by omega)) ?_
 rw [Nat.mod_eq_of_lt (Nat.lt_trans hlt (by decide))]
 conv=>whnf
 refine ov_by (toU32 _) ?_
 rw [Nat.mod_eq_of_lt hlt]
 conv=>whnf
 exact hk
theorem lay0_x (n:Int) (hk:K (wx (layP 0 (u64N n))) h):X Tryz.prog 115 #[.int .i64 0,.int .i64 n] h K:=by
 refine X.forget ?_
 refine fnv (args:=_) mixed [] [] [] Tryz.func115 rfl (by kernel_rfl) ?_;conv=>whnf
 refine ov_by (wrapU64N n) ?_
 conv=>whnf
 refine new_intro (o:=rowO 25 [ux 0]) (fun bn h1 n_bn le_bn at_bn ot_bn=>?_);conv=>whnf
 refine wr_intro (by exact storeC0 siz64 at_bn (show (0:Nat)<1 by decide) rfl rfl) (fun h2 at_h2 ot_h2=>?_)
 try (conv=>whnf)
 conv=>whnf
 exact ⟨h,fun c o e=>by rw [ot_h2 c (Hp.ne n_bn e)];exact le_bn _ _ e,hk⟩
theorem lay1_x (n:Int) (hk:K (wx (layP 1 (u64N n))) h):X Tryz.prog 115 #[.int .i64 1,.int .i64 n] h K:=by
 refine X.forget ?_
 refine fnv (args:=_) mixed [] [] [] Tryz.func115 rfl (by kernel_rfl) ?_;conv=>whnf
 refine ov_by (wrapU64N n) ?_
 conv=>whnf
 refine new_intro (o:=rowO 25 [ux 0]) (fun bn h1 n_bn le_bn at_bn ot_bn=>?_);conv=>whnf
 refine wr_intro (by exact storeC0 siz64 at_bn (show (0:Nat)<1 by decide) rfl rfl) (fun h2 at_h2 ot_h2=>?_)
 try (conv=>whnf)
 conv=>whnf
 exact ⟨h,fun c o e=>by rw [ot_h2 c (Hp.ne n_bn e)];exact le_bn _ _ e,hk⟩
theorem lay2_x (n:Int) (hk:K (wx (layP 2 (u64N n))) h):X Tryz.prog 115 #[.int .i64 2,.int .i64 n] h K:=by
 refine X.forget ?_
 have hu:=u64N_lt64 n
 have hP:layP 2 (u64N n)=pieceN (u64N n) (0,12,20):=by
  unfold layP layL;simp only [orP,Nat.or_zero,Nat.or_assoc]
 rw [hP] at hk
 refine fnv (args:=_) mixed [] [] [] Tryz.func115 rfl (by kernel_rfl) ?_;conv=>whnf
 refine ov_by (wrapU64N n) ?_
 conv=>whnf
 refine new_intro (o:=rowO 25 [ux 0]) (fun bn h1 n_bn le_bn at_bn ot_bn=>?_);conv=>whnf
 refine wr_intro (by exact storeC0 siz64 at_bn (show (0:Nat)<1 by decide) rfl rfl) (fun h2 at_h2 ot_h2=>?_)
 try (conv=>whnf)
 have hle:h.le h2:=fun c o e=>by rw [ot_h2 c (Hp.ne n_bn e)];exact le_bn _ _ e
 have hb2:h2 bn=some (rowO 25 [ux (u64N n)]):=at_h2
 conv=>whnf
 refine laycut_x bn _ hb2 hu 0 12 20 (by decide) (by decide) (by decide) ?_
 conv=>whnf
 exact ⟨h,hle,hk⟩
theorem lay3_x (n:Int) (hk:K (wx (layP 3 (u64N n))) h):X Tryz.prog 115 #[.int .i64 3,.int .i64 n] h K:=by
 refine X.forget ?_
 have hu:=u64N_lt64 n
 have hP:layP 3 (u64N n)=pieceN (u64N n) (5,7,25) ||| pieceN (u64N n) (0,5,7):=by
  unfold layP layL;simp only [orP,Nat.or_zero,Nat.or_assoc]
 rw [hP] at hk
 refine fnv (args:=_) mixed [] [] [] Tryz.func115 rfl (by kernel_rfl) ?_;conv=>whnf
 refine ov_by (wrapU64N n) ?_
 conv=>whnf
 refine new_intro (o:=rowO 25 [ux 0]) (fun bn h1 n_bn le_bn at_bn ot_bn=>?_);conv=>whnf
 refine wr_intro (by exact storeC0 siz64 at_bn (show (0:Nat)<1 by decide) rfl rfl) (fun h2 at_h2 ot_h2=>?_)
 try (conv=>whnf)
 have hle:h.le h2:=fun c o e=>by rw [ot_h2 c (Hp.ne n_bn e)];exact le_bn _ _ e
 have hb2:h2 bn=some (rowO 25 [ux (u64N n)]):=at_h2
 conv=>whnf
 refine laycut_x bn _ hb2 hu 5 7 25 (by decide) (by decide) (by decide) ?_
 conv=>whnf
 refine laycut_x bn _ hb2 hu 0 5 7 (by decide) (by decide) (by decide) ?_
 conv=>whnf
 refine val_by (or32 (piece_lt (by decide)) (piece_lt (by decide))) ?_;conv=>whnf
 exact ⟨h,hle,hk⟩
theorem lay4_x (n:Int) (hk:K (wx (layP 4 (u64N n))) h):X Tryz.prog 115 #[.int .i64 4,.int .i64 n] h K:=by
 refine X.forget ?_
 have hu:=u64N_lt64 n
 have hP:layP 4 (u64N n)=pieceN (u64N n) (12,1,31) ||| pieceN (u64N n) (5,6,25) ||| pieceN (u64N n) (1,4,8) ||| pieceN (u64N n) (11,1,7):=by
  unfold layP layL;simp only [orP,Nat.or_zero,Nat.or_assoc]
 rw [hP] at hk
 refine fnv (args:=_) mixed [] [] [] Tryz.func115 rfl (by kernel_rfl) ?_;conv=>whnf
 refine ov_by (wrapU64N n) ?_
 conv=>whnf
 refine new_intro (o:=rowO 25 [ux 0]) (fun bn h1 n_bn le_bn at_bn ot_bn=>?_);conv=>whnf
 refine wr_intro (by exact storeC0 siz64 at_bn (show (0:Nat)<1 by decide) rfl rfl) (fun h2 at_h2 ot_h2=>?_)
 try (conv=>whnf)
 have hle:h.le h2:=fun c o e=>by rw [ot_h2 c (Hp.ne n_bn e)];exact le_bn _ _ e
 have hb2:h2 bn=some (rowO 25 [ux (u64N n)]):=at_h2
 conv=>whnf
 refine laycut_x bn _ hb2 hu 12 1 31 (by decide) (by decide) (by decide) ?_
 conv=>whnf
 refine laycut_x bn _ hb2 hu 5 6 25 (by decide) (by decide) (by decide) ?_
 conv=>whnf
 refine val_by (or32 (piece_lt (by decide)) (piece_lt (by decide))) ?_;conv=>whnf
 refine laycut_x bn _ hb2 hu 1 4 8 (by decide) (by decide) (by decide) ?_
 conv=>whnf
 refine val_by (or32 (Nat.or_lt_two_pow (piece_lt (by decide)) (piece_lt (by decide))) (piece_lt (by decide))) ?_;conv=>whnf
 refine laycut_x bn _ hb2 hu 11 1 7 (by decide) (by decide) (by decide) ?_
 conv=>whnf
 refine val_by (or32 (Nat.or_lt_two_pow (Nat.or_lt_two_pow (piece_lt (by decide)) (piece_lt (by decide))) (piece_lt (by decide))) (piece_lt (by decide))) ?_;conv=>whnf
 exact ⟨h,hle,hk⟩
theorem lay5_x (n:Int) (hk:K (wx (layP 5 (u64N n))) h):X Tryz.prog 115 #[.int .i64 5,.int .i64 n] h K:=by
 refine X.forget ?_
 have hu:=u64N_lt64 n
 have hP:layP 5 (u64N n)=pieceN (u64N n) (12,20,12):=by
  unfold layP layL;simp only [orP,Nat.or_zero,Nat.or_assoc]
 rw [hP] at hk
 refine fnv (args:=_) mixed [] [] [] Tryz.func115 rfl (by kernel_rfl) ?_;conv=>whnf
 refine ov_by (wrapU64N n) ?_
 conv=>whnf
 refine new_intro (o:=rowO 25 [ux 0]) (fun bn h1 n_bn le_bn at_bn ot_bn=>?_);conv=>whnf
 refine wr_intro (by exact storeC0 siz64 at_bn (show (0:Nat)<1 by decide) rfl rfl) (fun h2 at_h2 ot_h2=>?_)
 try (conv=>whnf)
 have hle:h.le h2:=fun c o e=>by rw [ot_h2 c (Hp.ne n_bn e)];exact le_bn _ _ e
 have hb2:h2 bn=some (rowO 25 [ux (u64N n)]):=at_h2
 conv=>whnf
 refine laycut_x bn _ hb2 hu 12 20 12 (by decide) (by decide) (by decide) ?_
 conv=>whnf
 exact ⟨h,hle,hk⟩
theorem lay6_x (n:Int) (hk:K (wx (layP 6 (u64N n))) h):X Tryz.prog 115 #[.int .i64 6,.int .i64 n] h K:=by
 refine X.forget ?_
 have hu:=u64N_lt64 n
 have hP:layP 6 (u64N n)=pieceN (u64N n) (20,1,31) ||| pieceN (u64N n) (1,10,21) ||| pieceN (u64N n) (11,1,20) ||| pieceN (u64N n) (12,8,12):=by
  unfold layP layL;simp only [orP,Nat.or_zero,Nat.or_assoc]
 rw [hP] at hk
 refine fnv (args:=_) mixed [] [] [] Tryz.func115 rfl (by kernel_rfl) ?_;conv=>whnf
 refine ov_by (wrapU64N n) ?_
 conv=>whnf
 refine new_intro (o:=rowO 25 [ux 0]) (fun bn h1 n_bn le_bn at_bn ot_bn=>?_);conv=>whnf
 refine wr_intro (by exact storeC0 siz64 at_bn (show (0:Nat)<1 by decide) rfl rfl) (fun h2 at_h2 ot_h2=>?_)
 try (conv=>whnf)
 have hle:h.le h2:=fun c o e=>by rw [ot_h2 c (Hp.ne n_bn e)];exact le_bn _ _ e
 have hb2:h2 bn=some (rowO 25 [ux (u64N n)]):=at_h2
 conv=>whnf
 refine laycut_x bn _ hb2 hu 20 1 31 (by decide) (by decide) (by decide) ?_
 conv=>whnf
 refine laycut_x bn _ hb2 hu 1 10 21 (by decide) (by decide) (by decide) ?_
 conv=>whnf
 refine val_by (or32 (piece_lt (by decide)) (piece_lt (by decide))) ?_;conv=>whnf
 refine laycut_x bn _ hb2 hu 11 1 20 (by decide) (by decide) (by decide) ?_
 conv=>whnf
 refine val_by (or32 (Nat.or_lt_two_pow (piece_lt (by decide)) (piece_lt (by decide))) (piece_lt (by decide))) ?_;conv=>whnf
 refine laycut_x bn _ hb2 hu 12 8 12 (by decide) (by decide) (by decide) ?_
 conv=>whnf
 refine val_by (or32 (Nat.or_lt_two_pow (Nat.or_lt_two_pow (piece_lt (by decide)) (piece_lt (by decide))) (piece_lt (by decide))) (piece_lt (by decide))) ?_;conv=>whnf
 exact ⟨h,hle,hk⟩
theorem lay7_x (n:Int) (hk:K (wx (layP 7 (u64N n))) h):X Tryz.prog 115 #[.int .i64 7,.int .i64 n] h K:=by
 refine X.forget ?_
 have hu:=u64N_lt64 n
 have hP:layP 7 (u64N n)=pieceN (u64N n) (0,6,20):=by
  unfold layP layL;simp only [orP,Nat.or_zero,Nat.or_assoc]
 rw [hP] at hk
 refine fnv (args:=_) mixed [] [] [] Tryz.func115 rfl (by kernel_rfl) ?_;conv=>whnf
 refine ov_by (wrapU64N n) ?_
 conv=>whnf
 refine new_intro (o:=rowO 25 [ux 0]) (fun bn h1 n_bn le_bn at_bn ot_bn=>?_);conv=>whnf
 refine wr_intro (by exact storeC0 siz64 at_bn (show (0:Nat)<1 by decide) rfl rfl) (fun h2 at_h2 ot_h2=>?_)
 try (conv=>whnf)
 have hle:h.le h2:=fun c o e=>by rw [ot_h2 c (Hp.ne n_bn e)];exact le_bn _ _ e
 have hb2:h2 bn=some (rowO 25 [ux (u64N n)]):=at_h2
 conv=>whnf
 refine laycut_x bn _ hb2 hu 0 6 20 (by decide) (by decide) (by decide) ?_
 conv=>whnf
 exact ⟨h,hle,hk⟩
theorem lay8_x (n:Int) (hk:K (wx (layP 8 (u64N n))) h):X Tryz.prog 115 #[.int .i64 8,.int .i64 n] h K:=by
 refine X.forget ?_
 have hu:=u64N_lt64 n
 have hP:layP 8 (u64N n)=pieceN (u64N n) (0,5,20):=by
  unfold layP layL;simp only [orP,Nat.or_zero,Nat.or_assoc]
 rw [hP] at hk
 refine fnv (args:=_) mixed [] [] [] Tryz.func115 rfl (by kernel_rfl) ?_;conv=>whnf
 refine ov_by (wrapU64N n) ?_
 conv=>whnf
 refine new_intro (o:=rowO 25 [ux 0]) (fun bn h1 n_bn le_bn at_bn ot_bn=>?_);conv=>whnf
 refine wr_intro (by exact storeC0 siz64 at_bn (show (0:Nat)<1 by decide) rfl rfl) (fun h2 at_h2 ot_h2=>?_)
 try (conv=>whnf)
 have hle:h.le h2:=fun c o e=>by rw [ot_h2 c (Hp.ne n_bn e)];exact le_bn _ _ e
 have hb2:h2 bn=some (rowO 25 [ux (u64N n)]):=at_h2
 conv=>whnf
 refine laycut_x bn _ hb2 hu 0 5 20 (by decide) (by decide) (by decide) ?_
 conv=>whnf
 exact ⟨h,hle,hk⟩
theorem lay9_x (n:Int) (hk:K (wx (layP 9 (u64N n))) h):X Tryz.prog 115 #[.int .i64 9,.int .i64 n] h K:=by
 refine X.forget ?_
 refine fnv (args:=_) mixed [] [] [] Tryz.func115 rfl (by kernel_rfl) ?_;conv=>whnf
 refine ov_by (wrapU64N n) ?_
 conv=>whnf
 refine new_intro (o:=rowO 25 [ux 0]) (fun bn h1 n_bn le_bn at_bn ot_bn=>?_);conv=>whnf
 refine wr_intro (by exact storeC0 siz64 at_bn (show (0:Nat)<1 by decide) rfl rfl) (fun h2 at_h2 ot_h2=>?_)
 try (conv=>whnf)
 conv=>whnf
 exact ⟨h,fun c o e=>by rw [ot_h2 c (Hp.ne n_bn e)];exact le_bn _ _ e,hk⟩
theorem lay10_x (n:Int) (hk:K (wx (layP 10 (u64N n))) h):X Tryz.prog 115 #[.int .i64 10,.int .i64 n] h K:=by
 refine X.forget ?_
 refine fnv (args:=_) mixed [] [] [] Tryz.func115 rfl (by kernel_rfl) ?_;conv=>whnf
 refine ov_by (wrapU64N n) ?_
 conv=>whnf
 refine new_intro (o:=rowO 25 [ux 0]) (fun bn h1 n_bn le_bn at_bn ot_bn=>?_);conv=>whnf
 refine wr_intro (by exact storeC0 siz64 at_bn (show (0:Nat)<1 by decide) rfl rfl) (fun h2 at_h2 ot_h2=>?_)
 try (conv=>whnf)
 conv=>whnf
 exact ⟨h,fun c o e=>by rw [ot_h2 c (Hp.ne n_bn e)];exact le_bn _ _ e,hk⟩
theorem lay11_x (n:Int) (hk:K (wx (layP 11 (u64N n))) h):X Tryz.prog 115 #[.int .i64 11,.int .i64 n] h K:=by
 refine X.forget ?_
 refine fnv (args:=_) mixed [] [] [] Tryz.func115 rfl (by kernel_rfl) ?_;conv=>whnf
 refine ov_by (wrapU64N n) ?_
 conv=>whnf
 refine new_intro (o:=rowO 25 [ux 0]) (fun bn h1 n_bn le_bn at_bn ot_bn=>?_);conv=>whnf
 refine wr_intro (by exact storeC0 siz64 at_bn (show (0:Nat)<1 by decide) rfl rfl) (fun h2 at_h2 ot_h2=>?_)
 try (conv=>whnf)
 conv=>whnf
 exact ⟨h,fun c o e=>by rw [ot_h2 c (Hp.ne n_bn e)];exact le_bn _ _ e,hk⟩
theorem lay12_x (n:Int) (hk:K (wx (layP 12 (u64N n))) h):X Tryz.prog 115 #[.int .i64 12,.int .i64 n] h K:=by
 refine X.forget ?_
 refine fnv (args:=_) mixed [] [] [] Tryz.func115 rfl (by kernel_rfl) ?_;conv=>whnf
 refine ov_by (wrapU64N n) ?_
 conv=>whnf
 refine new_intro (o:=rowO 25 [ux 0]) (fun bn h1 n_bn le_bn at_bn ot_bn=>?_);conv=>whnf
 refine wr_intro (by exact storeC0 siz64 at_bn (show (0:Nat)<1 by decide) rfl rfl) (fun h2 at_h2 ot_h2=>?_)
 try (conv=>whnf)
 conv=>whnf
 exact ⟨h,fun c o e=>by rw [ot_h2 c (Hp.ne n_bn e)];exact le_bn _ _ e,hk⟩
theorem lay13_x (n:Int) (hk:K (wx (layP 13 (u64N n))) h):X Tryz.prog 115 #[.int .i64 13,.int .i64 n] h K:=by
 refine X.forget ?_
 refine fnv (args:=_) mixed [] [] [] Tryz.func115 rfl (by kernel_rfl) ?_;conv=>whnf
 refine ov_by (wrapU64N n) ?_
 conv=>whnf
 refine new_intro (o:=rowO 25 [ux 0]) (fun bn h1 n_bn le_bn at_bn ot_bn=>?_);conv=>whnf
 refine wr_intro (by exact storeC0 siz64 at_bn (show (0:Nat)<1 by decide) rfl rfl) (fun h2 at_h2 ot_h2=>?_)
 try (conv=>whnf)
 conv=>whnf
 exact ⟨h,fun c o e=>by rw [ot_h2 c (Hp.ne n_bn e)];exact le_bn _ _ e,hk⟩
theorem lay14_x (n:Int) (hk:K (wx (layP 14 (u64N n))) h):X Tryz.prog 115 #[.int .i64 14,.int .i64 n] h K:=by
 refine X.forget ?_
 refine fnv (args:=_) mixed [] [] [] Tryz.func115 rfl (by kernel_rfl) ?_;conv=>whnf
 refine ov_by (wrapU64N n) ?_
 conv=>whnf
 refine new_intro (o:=rowO 25 [ux 0]) (fun bn h1 n_bn le_bn at_bn ot_bn=>?_);conv=>whnf
 refine wr_intro (by exact storeC0 siz64 at_bn (show (0:Nat)<1 by decide) rfl rfl) (fun h2 at_h2 ot_h2=>?_)
 try (conv=>whnf)
 conv=>whnf
 exact ⟨h,fun c o e=>by rw [ot_h2 c (Hp.ne n_bn e)];exact le_bn _ _ e,hk⟩
theorem lay_x (f:Nat) (hf:f<15) (n:Int) (hk:K (wx (layN f (u64N n))) h):X Tryz.prog 115 #[.int .i64 f,.int .i64 n] h K:=by
 rw [← lay_eq f hf] at hk
 match f,hf,hk with
 | 0,_,hk=>exact lay0_x n hk
 | 1,_,hk=>exact lay1_x n hk
 | 2,_,hk=>exact lay2_x n hk
 | 3,_,hk=>exact lay3_x n hk
 | 4,_,hk=>exact lay4_x n hk
 | 5,_,hk=>exact lay5_x n hk
 | 6,_,hk=>exact lay6_x n hk
 | 7,_,hk=>exact lay7_x n hk
 | 8,_,hk=>exact lay8_x n hk
 | 9,_,hk=>exact lay9_x n hk
 | 10,_,hk=>exact lay10_x n hk
 | 11,_,hk=>exact lay11_x n hk
 | 12,_,hk=>exact lay12_x n hk
 | 13,_,hk=>exact lay13_x n hk
 | 14,_,hk=>exact lay14_x n hk
 | f+15,hf,_=>exact absurd hf (by omega)
end
end Go.Proofs.YtdhkjcdneidgaaaGreatDoor

namespace Go.Proofs.YtdhkjcdneidgaaaGreatDoor
set_option linter.unusedSimpArgs false
set_option linter.unusedVariables false
set_option linter.unusedSimpArgs false
set_option linter.unusedVariables false
open Go Go.Mid Go.RowKit Go.Bits
abbrev rfXInsDe0:Go.Mid.RF:=[(1,1),(13,1),(19,1),(22,1),(25,1),(30,1),(35,1),(40,1),(46,1),(50,1)]
attribute [local irreducible] mid
def encW (x:Ins):Nat :=
 let w:=isN (x.op.toNat - 1) ||| ((((layN (fmtN x.op) (u64N x.m) ||| x.a.toNat*2 ^ 7) ||| x.b.toNat*2 ^ 15) ||| x.c.toNat*2 ^ 20) ||| x.s.toNat*2 ^ 20)
 let w:=if x.aq then w ||| 67108864 else w
 if x.rl then w ||| 33554432 else w
section
set_option maxHeartbeats 8000000
set_option maxRecDepth 10000
variable {h:Hp} {K:Value→Hp→Prop}
theorem sh7 {a:Nat} (h:a≤31):a*2 ^ 7<2 ^ 32:=show a*128<4294967296 by omega
theorem sh15 {a:Nat} (h:a≤31):a*2 ^ 15<2 ^ 32:=show a*32768<4294967296 by omega
theorem sh20 {a:Nat} (h:a≤4095):a*2 ^ 20<2 ^ 32:=show a*1048576<4294967296 by omega
theorem layN_lt32 (f:Nat) (hf:f<15) (u:Nat):layN f u<2 ^ 32:=by
 rw [← lay_eq f hf];exact orP_lt u _ (layL_ok f hf).1
theorem encode_x (x:Ins) (m1 : -9223372036854775808≤x.m) (m2:x.m≤9223372036854775807) (hk:K (.tuple #[wx (if x.chk=0 then encW x else 0),.int .i64 x.chk]) h):X Tryz.prog 82 #[.agg x.cs.toArray] h K:=by
 by_cases hc:x.chk=0
 rotate_left
 ·rw [if_neg hc] at hk
  refine fnv (args:=_) mixed rfXInsDe0 [] [] Tryz.func82 rfl (by kernel_rfl) ?_;conv=>whnf
  refine check_x x.op x.a x.b x.c x.m x.s x.aq x.rl m1 m2 ?_
  rw [show checkF (fmtN x.op) x.a x.b x.c x.m x.s x.aq x.rl=x.chk from rfl]
  generalize x.chk=e at hc hk ⊢
  conv=>whnf
  refine bsel_true (by simpa using hc) ?_;conv=>whnf
  exact hk
 rw [if_pos hc,hc] at hk
 obtain ⟨o1,o2,_,ha,hb,hc2,hs,_,_⟩:=chk_ok hc
 obtain ⟨i,hi⟩:∃ i:Nat,x.op=((i+1:Nat):Int):=⟨x.op.toNat - 1,by omega⟩
 obtain ⟨a,ea⟩:∃ a:Nat,x.a=a:=⟨x.a.toNat,by omega⟩
 obtain ⟨b,eb⟩:∃ b:Nat,x.b=b:=⟨x.b.toNat,by omega⟩
 obtain ⟨c,ec⟩:∃ c:Nat,x.c=c:=⟨x.c.toNat,by omega⟩
 obtain ⟨s,es⟩:∃ s:Nat,x.s=s:=⟨x.s.toNat,by omega⟩
 have hil:i<98:=by omega
 have hf15:=fmtN_lt x.op
 have hly:=layN_lt32 (fmtN x.op) hf15 (u64N x.m)
 have hisl:=(mask_lt i hil).2
 have he:encW x=(if x.rl then (if x.aq then (isN i ||| ((((layN (fmtN x.op) (u64N x.m) ||| a*2 ^ 7) ||| b*2 ^ 15) ||| c*2 ^ 20) ||| s*2 ^ 20)) ||| 67108864 else (isN i ||| ((((layN (fmtN x.op) (u64N x.m) ||| a*2 ^ 7) ||| b*2 ^ 15) ||| c*2 ^ 20) ||| s*2 ^ 20))) ||| 33554432 else (if x.aq then (isN i ||| ((((layN (fmtN x.op) (u64N x.m) ||| a*2 ^ 7) ||| b*2 ^ 15) ||| c*2 ^ 20) ||| s*2 ^ 20)) ||| 67108864 else (isN i ||| ((((layN (fmtN x.op) (u64N x.m) ||| a*2 ^ 7) ||| b*2 ^ 15) ||| c*2 ^ 20) ||| s*2 ^ 20)))):=by
  unfold encW
  rw [ea,eb,ec,es,show x.op.toNat - 1=i by omega]
  simp only [Int.toNat_natCast]
 rw [he] at hk
 clear he
 have hx:x=⟨x.op,x.a,x.b,x.c,x.m,x.s,x.aq,x.rl⟩:=rfl
 have la:a≤31:=by omega
 have lb:b≤31:=by omega
 have lc:c≤31:=by omega
 have ls:s≤4095:=by omega
 have a1:=sh7 la
 have b1:=sh15 lb
 have c1:=sh20 (Nat.le_trans lc (by decide))
 have s1:=sh20 ls
 have t1:=Nat.or_lt_two_pow hly a1
 have t2:=Nat.or_lt_two_pow t1 b1
 have t3:=Nat.or_lt_two_pow t2 c1
 have t4:=Nat.or_lt_two_pow t3 s1
 have t5:=Nat.or_lt_two_pow hisl t4
 have t6:=Nat.or_lt_two_pow t5 (show 67108864<2 ^ 32 by decide)
 refine fnv (args:=_) mixed rfXInsDe0 [] [] Tryz.func82 rfl (by kernel_rfl) ?_;conv=>whnf
 refine check_x x.op x.a x.b x.c x.m x.s x.aq x.rl m1 m2 ?_
 rw [show checkF (fmtN x.op) x.a x.b x.c x.m x.s x.aq x.rl=x.chk from rfl]
 rw [hc]
 conv=>whnf
 rw [hi]
 refine fixed_x i hil ?_
 rw [← hi]
 conv=>whnf
 refine fmt_x x.op ?_
 refine ⟨trivial,?_⟩;conv=>whnf
 refine lay_x (fmtN x.op) hf15 x.m ?_
 generalize layN (fmtN x.op) (u64N x.m)=ly at hk t1 t2 t3 t4 t5 t6 hly ⊢
 generalize isN i=is at hk t5 t6 hisl ⊢
 refine ⟨trivial,?_⟩;conv=>whnf
 rw [ea]
 (first | refine ov_c (by simp only [loK,hiK];omega) ?_ | refine ov_c (by decide) ?_);conv=>whnf
 refine ov_by (shl32 a 7 (by decide)) ?_
 rw [Nat.mod_eq_of_lt a1]
 conv=>whnf
 refine val_by (or32 hly a1) ?_;conv=>whnf
 rw [eb]
 (first | refine ov_c (by simp only [loK,hiK];omega) ?_ | refine ov_c (by decide) ?_);conv=>whnf
 refine ov_by (shl32 b 15 (by decide)) ?_
 rw [Nat.mod_eq_of_lt b1]
 conv=>whnf
 refine val_by (or32 t1 b1) ?_;conv=>whnf
 rw [ec]
 (first | refine ov_c (by simp only [loK,hiK];omega) ?_ | refine ov_c (by decide) ?_);conv=>whnf
 refine ov_by (shl32 c 20 (by decide)) ?_
 rw [Nat.mod_eq_of_lt c1]
 conv=>whnf
 refine val_by (or32 t2 c1) ?_;conv=>whnf
 rw [es]
 (first | refine ov_c (by simp only [loK,hiK];omega) ?_ | refine ov_c (by decide) ?_);conv=>whnf
 refine ov_by (shl32 s 20 (by decide)) ?_
 rw [Nat.mod_eq_of_lt s1]
 conv=>whnf
 refine val_by (or32 t3 s1) ?_;conv=>whnf
 refine val_by (or32 hisl t4) ?_;conv=>whnf
 cases hq:x.aq with
 | true =>
  rw [hq] at hk
  conv=>whnf
  refine val_by (or32 t5 (show 67108864<2 ^ 32 by decide)) ?_;conv=>whnf
  cases hr:x.rl with
  | true =>
   rw [hr] at hk
   conv=>whnf
   refine val_by (or32 t6 (show 33554432<2 ^ 32 by decide)) ?_;conv=>whnf
   exact hk
  | false =>
   rw [hr] at hk
   conv=>whnf
   exact hk
 | false =>
  rw [hq] at hk
  conv=>whnf
  cases hr:x.rl with
  | true =>
   rw [hr] at hk
   conv=>whnf
   refine val_by (or32 t5 (show 33554432<2 ^ 32 by decide)) ?_;conv=>whnf
   exact hk
  | false =>
   rw [hr] at hk
   conv=>whnf
   exact hk
end
end Go.Proofs.YtdhkjcdneidgaaaGreatDoor
