/-
  Instructions as words: the document's row of an op.
-/
import Derived.Test.YtdhkjcdneidgaaaGreatDoorInsM
import Derived.Test.YtdhkjcdneidgaaaGreatDoorInsP
import Derived.Test.YtdhkjcdneidgaaaGreatDoorImmP
set_option linter.unusedSimpArgs false
set_option linter.unusedVariables false
set_option maxHeartbeats 8000000
set_option maxRecDepth 10000
set_option linter.unusedSimpArgs false
set_option linter.unusedVariables false
namespace Go.Proofs.YtdhkjcdneidgaaaGreatDoor
open Go Go.Mid Go.RowKit Go.Bits
attribute [local irreducible] mid
theorem piece_lt {u:Nat} {p:Piece} (h:p.2.1+p.2.2≤32):pieceN u p<2 ^ 32:=by
 have:=orP_lt u [p] (fun q hq=>by rw [List.mem_singleton.1 hq];exact h)
 simpa [orP] using this
theorem u64N_lt64 (n:Int):u64N n<2 ^ 64:=by unfold u64N;omega
section
variable {h:Hp} {K:Value→Hp→Prop}
theorem agg64:isAggT Tryz.prog 25=some false:=by kernel_rfl
theorem siz64:sizeT Tryz.prog 25=some 1:=by kernel_rfl
theorem laycut_x (bn u:Nat) (hb:h bn=some (rowO 25 [ux u])) (hu:u<2 ^ 64) (a s t:Nat) (ha:a≤63) (hs:1≤s) (ht:s+t≤32) (hk:K (wx (pieceN u (a,s,t))) h):X Tryz.prog 155 #[.int .i64 a,.int .i64 s,.int .i64 t,.pointer (some ⟨bn,0,none⟩)] h K:=by
 have hlt:u / 2 ^ a % 2 ^ s*2 ^ t<2 ^ 32:=piece_lt (u:=u) (p:=(a,s,t)) ht
 have hk:K (wx (u / 2 ^ a % 2 ^ s*2 ^ t)) h:=hk
 refine fnv (args:=_) mixed [] [] [] Tryz.func155 rfl (by kernel_rfl) (cw_ ?_)
 refine ⟨_,loadC0 agg64 hb rfl,cw_ ?_⟩
 refine bcut_x u a s hu ha (by omega) (cw_ ?_)
 refine ov_u64 (by omega) (cw_ ?_)
 refine ov_by (shl64 _ t (by omega)) ?_
 rw [Nat.mod_eq_of_lt (Nat.lt_trans hlt (by decide))]
 conv=>whnf
 refine ov_by (toU32 _) ?_
 rw [Nat.mod_eq_of_lt hlt]
 conv=>whnf
 exact hk
theorem lay0_x (n:Int) (hk:K (wx (layP 0 (u64N n))) h):X Tryz.prog 115 #[.int .i64 0,.int .i64 n] h K:=by
 refine X.forget ?_
 refine fnv (args:=_) mixed [] [] [] Tryz.func115 rfl (by kernel_rfl) (cw_ ?_)
 refine ov_by (wrapU64N n) (cw_ ?_)
 refine new_intro (o:=rowO 25 [ux 0]) (fun bn h1 n_bn le_bn at_bn ot_bn=>cw_ ?_)
 refine wr_intro (by exact storeC0 siz64 at_bn (show (0:Nat)<1 by decide) rfl rfl) (fun h2 at_h2 ot_h2=>cw_ ?_)
 exact ⟨h,fun c o e=>by rw [ot_h2 c (Hp.ne n_bn e)];exact le_bn _ _ e,hk⟩
theorem lay1_x (n:Int) (hk:K (wx (layP 1 (u64N n))) h):X Tryz.prog 115 #[.int .i64 1,.int .i64 n] h K:=by
 refine X.forget ?_
 refine fnv (args:=_) mixed [] [] [] Tryz.func115 rfl (by kernel_rfl) (cw_ ?_)
 refine ov_by (wrapU64N n) (cw_ ?_)
 refine new_intro (o:=rowO 25 [ux 0]) (fun bn h1 n_bn le_bn at_bn ot_bn=>cw_ ?_)
 refine wr_intro (by exact storeC0 siz64 at_bn (show (0:Nat)<1 by decide) rfl rfl) (fun h2 at_h2 ot_h2=>cw_ ?_)
 exact ⟨h,fun c o e=>by rw [ot_h2 c (Hp.ne n_bn e)];exact le_bn _ _ e,hk⟩
theorem lay2_x (n:Int) (hk:K (wx (layP 2 (u64N n))) h):X Tryz.prog 115 #[.int .i64 2,.int .i64 n] h K:=by
 refine X.forget ?_
 have hu:=u64N_lt64 n
 have hP:layP 2 (u64N n)=pieceN (u64N n) (0,12,20):=by
  unfold layP layL;simp only [orP,Nat.or_zero,Nat.or_assoc]
 rw [hP] at hk
 refine fnv (args:=_) mixed [] [] [] Tryz.func115 rfl (by kernel_rfl) (cw_ ?_)
 refine ov_by (wrapU64N n) (cw_ ?_)
 refine new_intro (o:=rowO 25 [ux 0]) (fun bn h1 n_bn le_bn at_bn ot_bn=>cw_ ?_)
 refine wr_intro (by exact storeC0 siz64 at_bn (show (0:Nat)<1 by decide) rfl rfl) (fun h2 at_h2 ot_h2=>cw_ ?_)
 have hle:h.le h2:=fun c o e=>by rw [ot_h2 c (Hp.ne n_bn e)];exact le_bn _ _ e
 have hb2:h2 bn=some (rowO 25 [ux (u64N n)]):=at_h2
 conv=>whnf
 refine laycut_x bn _ hb2 hu 0 12 20 (by decide) (by decide) (by decide) (cw_ ?_)
 exact ⟨h,hle,hk⟩
theorem lay3_x (n:Int) (hk:K (wx (layP 3 (u64N n))) h):X Tryz.prog 115 #[.int .i64 3,.int .i64 n] h K:=by
 refine X.forget ?_
 have hu:=u64N_lt64 n
 have hP:layP 3 (u64N n)=pieceN (u64N n) (5,7,25) ||| pieceN (u64N n) (0,5,7):=by
  unfold layP layL;simp only [orP,Nat.or_zero,Nat.or_assoc]
 rw [hP] at hk
 refine fnv (args:=_) mixed [] [] [] Tryz.func115 rfl (by kernel_rfl) (cw_ ?_)
 refine ov_by (wrapU64N n) (cw_ ?_)
 refine new_intro (o:=rowO 25 [ux 0]) (fun bn h1 n_bn le_bn at_bn ot_bn=>cw_ ?_)
 refine wr_intro (by exact storeC0 siz64 at_bn (show (0:Nat)<1 by decide) rfl rfl) (fun h2 at_h2 ot_h2=>cw_ ?_)
 have hle:h.le h2:=fun c o e=>by rw [ot_h2 c (Hp.ne n_bn e)];exact le_bn _ _ e
 have hb2:h2 bn=some (rowO 25 [ux (u64N n)]):=at_h2
 conv=>whnf
 refine laycut_x bn _ hb2 hu 5 7 25 (by decide) (by decide) (by decide) (cw_ ?_)
 refine laycut_x bn _ hb2 hu 0 5 7 (by decide) (by decide) (by decide) (cw_ ?_)
 refine val_by (or32 (piece_lt (by decide)) (piece_lt (by decide))) (cw_ ?_)
 exact ⟨h,hle,hk⟩
theorem lay4_x (n:Int) (hk:K (wx (layP 4 (u64N n))) h):X Tryz.prog 115 #[.int .i64 4,.int .i64 n] h K:=by
 refine X.forget ?_
 have hu:=u64N_lt64 n
 have hP:layP 4 (u64N n)=pieceN (u64N n) (12,1,31) ||| pieceN (u64N n) (5,6,25) ||| pieceN (u64N n) (1,4,8) ||| pieceN (u64N n) (11,1,7):=by
  unfold layP layL;simp only [orP,Nat.or_zero,Nat.or_assoc]
 rw [hP] at hk
 refine fnv (args:=_) mixed [] [] [] Tryz.func115 rfl (by kernel_rfl) (cw_ ?_)
 refine ov_by (wrapU64N n) (cw_ ?_)
 refine new_intro (o:=rowO 25 [ux 0]) (fun bn h1 n_bn le_bn at_bn ot_bn=>cw_ ?_)
 refine wr_intro (by exact storeC0 siz64 at_bn (show (0:Nat)<1 by decide) rfl rfl) (fun h2 at_h2 ot_h2=>cw_ ?_)
 have hle:h.le h2:=fun c o e=>by rw [ot_h2 c (Hp.ne n_bn e)];exact le_bn _ _ e
 have hb2:h2 bn=some (rowO 25 [ux (u64N n)]):=at_h2
 conv=>whnf
 refine laycut_x bn _ hb2 hu 12 1 31 (by decide) (by decide) (by decide) (cw_ ?_)
 refine laycut_x bn _ hb2 hu 5 6 25 (by decide) (by decide) (by decide) (cw_ ?_)
 refine val_by (or32 (piece_lt (by decide)) (piece_lt (by decide))) (cw_ ?_)
 refine laycut_x bn _ hb2 hu 1 4 8 (by decide) (by decide) (by decide) (cw_ ?_)
 refine val_by (or32 (Nat.or_lt_two_pow (piece_lt (by decide)) (piece_lt (by decide))) (piece_lt (by decide))) (cw_ ?_)
 refine laycut_x bn _ hb2 hu 11 1 7 (by decide) (by decide) (by decide) (cw_ ?_)
 refine val_by (or32 (Nat.or_lt_two_pow (Nat.or_lt_two_pow (piece_lt (by decide)) (piece_lt (by decide))) (piece_lt (by decide))) (piece_lt (by decide))) (cw_ ?_)
 exact ⟨h,hle,hk⟩
theorem lay5_x (n:Int) (hk:K (wx (layP 5 (u64N n))) h):X Tryz.prog 115 #[.int .i64 5,.int .i64 n] h K:=by
 refine X.forget ?_
 have hu:=u64N_lt64 n
 have hP:layP 5 (u64N n)=pieceN (u64N n) (12,20,12):=by
  unfold layP layL;simp only [orP,Nat.or_zero,Nat.or_assoc]
 rw [hP] at hk
 refine fnv (args:=_) mixed [] [] [] Tryz.func115 rfl (by kernel_rfl) (cw_ ?_)
 refine ov_by (wrapU64N n) (cw_ ?_)
 refine new_intro (o:=rowO 25 [ux 0]) (fun bn h1 n_bn le_bn at_bn ot_bn=>cw_ ?_)
 refine wr_intro (by exact storeC0 siz64 at_bn (show (0:Nat)<1 by decide) rfl rfl) (fun h2 at_h2 ot_h2=>cw_ ?_)
 have hle:h.le h2:=fun c o e=>by rw [ot_h2 c (Hp.ne n_bn e)];exact le_bn _ _ e
 have hb2:h2 bn=some (rowO 25 [ux (u64N n)]):=at_h2
 conv=>whnf
 refine laycut_x bn _ hb2 hu 12 20 12 (by decide) (by decide) (by decide) (cw_ ?_)
 exact ⟨h,hle,hk⟩
theorem lay6_x (n:Int) (hk:K (wx (layP 6 (u64N n))) h):X Tryz.prog 115 #[.int .i64 6,.int .i64 n] h K:=by
 refine X.forget ?_
 have hu:=u64N_lt64 n
 have hP:layP 6 (u64N n)=pieceN (u64N n) (20,1,31) ||| pieceN (u64N n) (1,10,21) ||| pieceN (u64N n) (11,1,20) ||| pieceN (u64N n) (12,8,12):=by
  unfold layP layL;simp only [orP,Nat.or_zero,Nat.or_assoc]
 rw [hP] at hk
 refine fnv (args:=_) mixed [] [] [] Tryz.func115 rfl (by kernel_rfl) (cw_ ?_)
 refine ov_by (wrapU64N n) (cw_ ?_)
 refine new_intro (o:=rowO 25 [ux 0]) (fun bn h1 n_bn le_bn at_bn ot_bn=>cw_ ?_)
 refine wr_intro (by exact storeC0 siz64 at_bn (show (0:Nat)<1 by decide) rfl rfl) (fun h2 at_h2 ot_h2=>cw_ ?_)
 have hle:h.le h2:=fun c o e=>by rw [ot_h2 c (Hp.ne n_bn e)];exact le_bn _ _ e
 have hb2:h2 bn=some (rowO 25 [ux (u64N n)]):=at_h2
 conv=>whnf
 refine laycut_x bn _ hb2 hu 20 1 31 (by decide) (by decide) (by decide) (cw_ ?_)
 refine laycut_x bn _ hb2 hu 1 10 21 (by decide) (by decide) (by decide) (cw_ ?_)
 refine val_by (or32 (piece_lt (by decide)) (piece_lt (by decide))) (cw_ ?_)
 refine laycut_x bn _ hb2 hu 11 1 20 (by decide) (by decide) (by decide) (cw_ ?_)
 refine val_by (or32 (Nat.or_lt_two_pow (piece_lt (by decide)) (piece_lt (by decide))) (piece_lt (by decide))) (cw_ ?_)
 refine laycut_x bn _ hb2 hu 12 8 12 (by decide) (by decide) (by decide) (cw_ ?_)
 refine val_by (or32 (Nat.or_lt_two_pow (Nat.or_lt_two_pow (piece_lt (by decide)) (piece_lt (by decide))) (piece_lt (by decide))) (piece_lt (by decide))) (cw_ ?_)
 exact ⟨h,hle,hk⟩
theorem lay7_x (n:Int) (hk:K (wx (layP 7 (u64N n))) h):X Tryz.prog 115 #[.int .i64 7,.int .i64 n] h K:=by
 refine X.forget ?_
 have hu:=u64N_lt64 n
 have hP:layP 7 (u64N n)=pieceN (u64N n) (0,6,20):=by
  unfold layP layL;simp only [orP,Nat.or_zero,Nat.or_assoc]
 rw [hP] at hk
 refine fnv (args:=_) mixed [] [] [] Tryz.func115 rfl (by kernel_rfl) (cw_ ?_)
 refine ov_by (wrapU64N n) (cw_ ?_)
 refine new_intro (o:=rowO 25 [ux 0]) (fun bn h1 n_bn le_bn at_bn ot_bn=>cw_ ?_)
 refine wr_intro (by exact storeC0 siz64 at_bn (show (0:Nat)<1 by decide) rfl rfl) (fun h2 at_h2 ot_h2=>cw_ ?_)
 have hle:h.le h2:=fun c o e=>by rw [ot_h2 c (Hp.ne n_bn e)];exact le_bn _ _ e
 have hb2:h2 bn=some (rowO 25 [ux (u64N n)]):=at_h2
 conv=>whnf
 refine laycut_x bn _ hb2 hu 0 6 20 (by decide) (by decide) (by decide) (cw_ ?_)
 exact ⟨h,hle,hk⟩
theorem lay8_x (n:Int) (hk:K (wx (layP 8 (u64N n))) h):X Tryz.prog 115 #[.int .i64 8,.int .i64 n] h K:=by
 refine X.forget ?_
 have hu:=u64N_lt64 n
 have hP:layP 8 (u64N n)=pieceN (u64N n) (0,5,20):=by
  unfold layP layL;simp only [orP,Nat.or_zero,Nat.or_assoc]
 rw [hP] at hk
 refine fnv (args:=_) mixed [] [] [] Tryz.func115 rfl (by kernel_rfl) (cw_ ?_)
 refine ov_by (wrapU64N n) (cw_ ?_)
 refine new_intro (o:=rowO 25 [ux 0]) (fun bn h1 n_bn le_bn at_bn ot_bn=>cw_ ?_)
 refine wr_intro (by exact storeC0 siz64 at_bn (show (0:Nat)<1 by decide) rfl rfl) (fun h2 at_h2 ot_h2=>cw_ ?_)
 have hle:h.le h2:=fun c o e=>by rw [ot_h2 c (Hp.ne n_bn e)];exact le_bn _ _ e
 have hb2:h2 bn=some (rowO 25 [ux (u64N n)]):=at_h2
 conv=>whnf
 refine laycut_x bn _ hb2 hu 0 5 20 (by decide) (by decide) (by decide) (cw_ ?_)
 exact ⟨h,hle,hk⟩
theorem lay9_x (n:Int) (hk:K (wx (layP 9 (u64N n))) h):X Tryz.prog 115 #[.int .i64 9,.int .i64 n] h K:=by
 refine X.forget ?_
 refine fnv (args:=_) mixed [] [] [] Tryz.func115 rfl (by kernel_rfl) (cw_ ?_)
 refine ov_by (wrapU64N n) (cw_ ?_)
 refine new_intro (o:=rowO 25 [ux 0]) (fun bn h1 n_bn le_bn at_bn ot_bn=>cw_ ?_)
 refine wr_intro (by exact storeC0 siz64 at_bn (show (0:Nat)<1 by decide) rfl rfl) (fun h2 at_h2 ot_h2=>cw_ ?_)
 exact ⟨h,fun c o e=>by rw [ot_h2 c (Hp.ne n_bn e)];exact le_bn _ _ e,hk⟩
theorem lay10_x (n:Int) (hk:K (wx (layP 10 (u64N n))) h):X Tryz.prog 115 #[.int .i64 10,.int .i64 n] h K:=by
 refine X.forget ?_
 refine fnv (args:=_) mixed [] [] [] Tryz.func115 rfl (by kernel_rfl) (cw_ ?_)
 refine ov_by (wrapU64N n) (cw_ ?_)
 refine new_intro (o:=rowO 25 [ux 0]) (fun bn h1 n_bn le_bn at_bn ot_bn=>cw_ ?_)
 refine wr_intro (by exact storeC0 siz64 at_bn (show (0:Nat)<1 by decide) rfl rfl) (fun h2 at_h2 ot_h2=>cw_ ?_)
 exact ⟨h,fun c o e=>by rw [ot_h2 c (Hp.ne n_bn e)];exact le_bn _ _ e,hk⟩
theorem lay11_x (n:Int) (hk:K (wx (layP 11 (u64N n))) h):X Tryz.prog 115 #[.int .i64 11,.int .i64 n] h K:=by
 refine X.forget ?_
 refine fnv (args:=_) mixed [] [] [] Tryz.func115 rfl (by kernel_rfl) (cw_ ?_)
 refine ov_by (wrapU64N n) (cw_ ?_)
 refine new_intro (o:=rowO 25 [ux 0]) (fun bn h1 n_bn le_bn at_bn ot_bn=>cw_ ?_)
 refine wr_intro (by exact storeC0 siz64 at_bn (show (0:Nat)<1 by decide) rfl rfl) (fun h2 at_h2 ot_h2=>cw_ ?_)
 exact ⟨h,fun c o e=>by rw [ot_h2 c (Hp.ne n_bn e)];exact le_bn _ _ e,hk⟩
theorem lay12_x (n:Int) (hk:K (wx (layP 12 (u64N n))) h):X Tryz.prog 115 #[.int .i64 12,.int .i64 n] h K:=by
 refine X.forget ?_
 refine fnv (args:=_) mixed [] [] [] Tryz.func115 rfl (by kernel_rfl) (cw_ ?_)
 refine ov_by (wrapU64N n) (cw_ ?_)
 refine new_intro (o:=rowO 25 [ux 0]) (fun bn h1 n_bn le_bn at_bn ot_bn=>cw_ ?_)
 refine wr_intro (by exact storeC0 siz64 at_bn (show (0:Nat)<1 by decide) rfl rfl) (fun h2 at_h2 ot_h2=>cw_ ?_)
 exact ⟨h,fun c o e=>by rw [ot_h2 c (Hp.ne n_bn e)];exact le_bn _ _ e,hk⟩
theorem lay13_x (n:Int) (hk:K (wx (layP 13 (u64N n))) h):X Tryz.prog 115 #[.int .i64 13,.int .i64 n] h K:=by
 refine X.forget ?_
 refine fnv (args:=_) mixed [] [] [] Tryz.func115 rfl (by kernel_rfl) (cw_ ?_)
 refine ov_by (wrapU64N n) (cw_ ?_)
 refine new_intro (o:=rowO 25 [ux 0]) (fun bn h1 n_bn le_bn at_bn ot_bn=>cw_ ?_)
 refine wr_intro (by exact storeC0 siz64 at_bn (show (0:Nat)<1 by decide) rfl rfl) (fun h2 at_h2 ot_h2=>cw_ ?_)
 exact ⟨h,fun c o e=>by rw [ot_h2 c (Hp.ne n_bn e)];exact le_bn _ _ e,hk⟩
theorem lay14_x (n:Int) (hk:K (wx (layP 14 (u64N n))) h):X Tryz.prog 115 #[.int .i64 14,.int .i64 n] h K:=by
 refine X.forget ?_
 refine fnv (args:=_) mixed [] [] [] Tryz.func115 rfl (by kernel_rfl) (cw_ ?_)
 refine ov_by (wrapU64N n) (cw_ ?_)
 refine new_intro (o:=rowO 25 [ux 0]) (fun bn h1 n_bn le_bn at_bn ot_bn=>cw_ ?_)
 refine wr_intro (by exact storeC0 siz64 at_bn (show (0:Nat)<1 by decide) rfl rfl) (fun h2 at_h2 ot_h2=>cw_ ?_)
 exact ⟨h,fun c o e=>by rw [ot_h2 c (Hp.ne n_bn e)];exact le_bn _ _ e,hk⟩
theorem lay_x (f:Nat) (hf:f<15) (n:Int) (hk:K (wx (layN f (u64N n))) h):X Tryz.prog 115 #[.int .i64 f,.int .i64 n] h K:=by
 rw [← lay_eq f hf] at hk
 match f,hf,hk with
 | 0,_,hk=>exact lay0_x n hk
 | 1,_,hk=>exact lay1_x n hk
 | 2,_,hk=>exact lay2_x n hk
 | 3,_,hk=>exact lay3_x n hk
 | 4,_,hk=>exact lay4_x n hk
 | 5,_,hk=>exact lay5_x n hk
 | 6,_,hk=>exact lay6_x n hk
 | 7,_,hk=>exact lay7_x n hk
 | 8,_,hk=>exact lay8_x n hk
 | 9,_,hk=>exact lay9_x n hk
 | 10,_,hk=>exact lay10_x n hk
 | 11,_,hk=>exact lay11_x n hk
 | 12,_,hk=>exact lay12_x n hk
 | 13,_,hk=>exact lay13_x n hk
 | 14,_,hk=>exact lay14_x n hk
 | f+15,hf,_=>exact absurd hf (by omega)
end
end Go.Proofs.YtdhkjcdneidgaaaGreatDoor
namespace Go.Proofs.YtdhkjcdneidgaaaGreatDoor
open Go Go.Mid Go.RowKit Go.Bits
abbrev rfXInsDe0:Go.Mid.RF:=[(1,1),(13,1),(19,1),(22,1),(25,1),(30,1),(35,1),(40,1),(46,1),(50,1)]
attribute [local irreducible] mid
def encW (x:Ins):Nat :=
 let w:=isN (x.op.toNat - 1) ||| ((((layN (fmtN x.op) (u64N x.m) ||| x.a.toNat*2 ^ 7) ||| x.b.toNat*2 ^ 15) ||| x.c.toNat*2 ^ 20) ||| x.s.toNat*2 ^ 20)
 let w:=if x.aq then w ||| 67108864 else w
 if x.rl then w ||| 33554432 else w
section
variable {h:Hp} {K:Value→Hp→Prop}
theorem sh7 {a:Nat} (h:a≤31):a*2 ^ 7<2 ^ 32:=show a*128<4294967296 by omega
theorem sh15 {a:Nat} (h:a≤31):a*2 ^ 15<2 ^ 32:=show a*32768<4294967296 by omega
theorem sh20 {a:Nat} (h:a≤4095):a*2 ^ 20<2 ^ 32:=show a*1048576<4294967296 by omega
theorem layN_lt32 (f:Nat) (hf:f<15) (u:Nat):layN f u<2 ^ 32:=by
 rw [← lay_eq f hf];exact orP_lt u _ (layL_ok f hf).1
theorem encode_x (x:Ins) (m1 : -9223372036854775808≤x.m) (m2:x.m≤9223372036854775807) (hk:K (.tuple #[wx (if x.chk=0 then encW x else 0),.int .i64 x.chk]) h):X Tryz.prog 82 #[.agg x.cs.toArray] h K:=by
 by_cases hc:x.chk=0
 rotate_left
 ·rw [if_neg hc] at hk
  refine fnv (args:=_) mixed rfXInsDe0 [] [] Tryz.func82 rfl (by kernel_rfl) (cw_ ?_)
  refine check_x x.op x.a x.b x.c x.m x.s x.aq x.rl m1 m2 ?_
  rw [show checkF (fmtN x.op) x.a x.b x.c x.m x.s x.aq x.rl=x.chk from rfl]
  generalize x.chk=e at hc hk ⊢
  conv=>whnf
  refine bt_ ?_ (by simpa using hc)
  exact hk
 rw [if_pos hc,hc] at hk
 obtain ⟨o1,o2,_,ha,hb,hc2,hs,_,_⟩:=chk_ok hc
 obtain ⟨i,hi⟩:∃ i:Nat,x.op=((i+1:Nat):Int):=⟨x.op.toNat - 1,by omega⟩
 obtain ⟨a,ea⟩:∃ a:Nat,x.a=a:=⟨x.a.toNat,by omega⟩
 obtain ⟨b,eb⟩:∃ b:Nat,x.b=b:=⟨x.b.toNat,by omega⟩
 obtain ⟨c,ec⟩:∃ c:Nat,x.c=c:=⟨x.c.toNat,by omega⟩
 obtain ⟨s,es⟩:∃ s:Nat,x.s=s:=⟨x.s.toNat,by omega⟩
 have hil:i<98:=by omega
 have hf15:=fmtN_lt x.op
 have hly:=layN_lt32 (fmtN x.op) hf15 (u64N x.m)
 have hisl:=(mask_lt i hil).2
 have he:encW x=(if x.rl then (if x.aq then (isN i ||| ((((layN (fmtN x.op) (u64N x.m) ||| a*2 ^ 7) ||| b*2 ^ 15) ||| c*2 ^ 20) ||| s*2 ^ 20)) ||| 67108864 else (isN i ||| ((((layN (fmtN x.op) (u64N x.m) ||| a*2 ^ 7) ||| b*2 ^ 15) ||| c*2 ^ 20) ||| s*2 ^ 20))) ||| 33554432 else (if x.aq then (isN i ||| ((((layN (fmtN x.op) (u64N x.m) ||| a*2 ^ 7) ||| b*2 ^ 15) ||| c*2 ^ 20) ||| s*2 ^ 20)) ||| 67108864 else (isN i ||| ((((layN (fmtN x.op) (u64N x.m) ||| a*2 ^ 7) ||| b*2 ^ 15) ||| c*2 ^ 20) ||| s*2 ^ 20)))):=by
  unfold encW
  rw [ea,eb,ec,es,show x.op.toNat - 1=i by omega]
  simp only [Int.toNat_natCast]
 rw [he] at hk
 clear he
 have hx:x=⟨x.op,x.a,x.b,x.c,x.m,x.s,x.aq,x.rl⟩:=rfl
 have la:a≤31:=by omega
 have lb:b≤31:=by omega
 have lc:c≤31:=by omega
 have ls:s≤4095:=by omega
 have a1:=sh7 la
 have b1:=sh15 lb
 have c1:=sh20 (Nat.le_trans lc (by decide))
 have s1:=sh20 ls
 have t1:=Nat.or_lt_two_pow hly a1
 have t2:=Nat.or_lt_two_pow t1 b1
 have t3:=Nat.or_lt_two_pow t2 c1
 have t4:=Nat.or_lt_two_pow t3 s1
 have t5:=Nat.or_lt_two_pow hisl t4
 have t6:=Nat.or_lt_two_pow t5 (show 67108864<2 ^ 32 by decide)
 refine fnv (args:=_) mixed rfXInsDe0 [] [] Tryz.func82 rfl (by kernel_rfl) (cw_ ?_)
 refine check_x x.op x.a x.b x.c x.m x.s x.aq x.rl m1 m2 ?_
 rw [show checkF (fmtN x.op) x.a x.b x.c x.m x.s x.aq x.rl=x.chk from rfl]
 rw [hc]
 conv=>whnf
 rw [hi]
 refine fixed_x i hil ?_
 rw [← hi]
 conv=>whnf
 refine fmt_x x.op ?_
 refine ⟨trivial,cw_ ?_⟩
 refine lay_x (fmtN x.op) hf15 x.m ?_
 generalize layN (fmtN x.op) (u64N x.m)=ly at hk t1 t2 t3 t4 t5 t6 hly ⊢
 generalize isN i=is at hk t5 t6 hisl ⊢
 refine ⟨trivial,cw_ ?_⟩
 rw [ea]
 refine n_ ?_
 refine ov_by (shl32 a 7 (by decide)) ?_
 rw [Nat.mod_eq_of_lt a1]
 conv=>whnf
 refine val_by (or32 hly a1) (cw_ ?_)
 rw [eb]
 refine n_ ?_
 refine ov_by (shl32 b 15 (by decide)) ?_
 rw [Nat.mod_eq_of_lt b1]
 conv=>whnf
 refine val_by (or32 t1 b1) (cw_ ?_)
 rw [ec]
 refine n_ ?_
 refine ov_by (shl32 c 20 (by decide)) ?_
 rw [Nat.mod_eq_of_lt c1]
 conv=>whnf
 refine val_by (or32 t2 c1) (cw_ ?_)
 rw [es]
 refine n_ ?_
 refine ov_by (shl32 s 20 (by decide)) ?_
 rw [Nat.mod_eq_of_lt s1]
 conv=>whnf
 refine val_by (or32 t3 s1) (cw_ ?_)
 refine val_by (or32 hisl t4) (cw_ ?_)
 cases hq:x.aq with
 | true =>
  rw [hq] at hk
  conv=>whnf
  refine val_by (or32 t5 (show 67108864<2 ^ 32 by decide)) (cw_ ?_)
  cases hr:x.rl with
  | true =>
   rw [hr] at hk
   conv=>whnf
   refine val_by (or32 t6 (show 33554432<2 ^ 32 by decide)) (cw_ ?_)
   exact hk
  | false =>
   rw [hr] at hk
   conv=>whnf
   exact hk
 | false =>
  rw [hq] at hk
  conv=>whnf
  cases hr:x.rl with
  | true =>
   rw [hr] at hk
   conv=>whnf
   refine val_by (or32 t5 (show 33554432<2 ^ 32 by decide)) (cw_ ?_)
   exact hk
  | false =>
   rw [hr] at hk
   conv=>whnf
   exact hk
end
end Go.Proofs.YtdhkjcdneidgaaaGreatDoor
namespace Go.Proofs.YtdhkjcdneidgaaaGreatDoor
open Go Go.Mid Go.RowKit
attribute [local irreducible] mid
theorem rw_len (r:Rw):r.cs.length=4:=rfl
theorem rows_cell:∀ {l:List Rw} {i:Nat} {x:Rw} {k:Nat},l[i]? = some x→k<4→(l.flatMap Rw.cs)[i*4+k]? = x.cs[k]?
 | [],i,x,k,h,_=>by simp at h
 | y :: l,0,x,k,h,hk=>by
  simp only [List.getElem?_cons_zero,Option.some.injEq] at h
  subst h
  rw [List.flatMap_cons,Nat.zero_mul,Nat.zero_add,List.getElem?_append_left (by rw [rw_len];exact hk)]
 | y :: l,i+1,x,k,h,hk=>by
  rw [List.getElem?_cons_succ] at h
  rw [List.flatMap_cons,List.getElem?_append_right (by rw [rw_len];omega),rw_len,show (i+1)*4+k - 4=i*4+k by omega]
  exact rows_cell h hk
def rw0:Rw:=⟨0,[],0,0⟩
def rowN (n:Int):Rw:=if 1≤n∧n≤98 then rowsL.getD (n.toNat - 1) rw0 else rw0
section
variable {h:Hp} {K:Value→Hp→Prop}
theorem aggRw:isAggT Tryz.prog 151=some true:=by kernel_rfl
theorem sizRw:sizeT Tryz.prog 151=some 4:=by kernel_rfl
attribute [local irreducible] rowsL in
theorem rfind3_x (n:Int) (hk:∀ h',h.le h'→K (.agg (rowN n).cs.toArray) h'):X Tryz.prog 86 #[.int .i64 n] h K:=by
 refine fnv (args:=_) mixed [(2,2)] [] [] Tryz.func86 rfl (by kernel_rfl) (cw_ ?_)
 refine rrows_x fun b h1 le1 hb=>(cw_ ?_)
 refine loop_at [4] [2] (fun q vs cs h'=>h1=h'∧∃ i:Nat,i≤98∧q=98 - i∧vs=[.v (zv i)]∧cs=[some rw0.cs]∧¬ (1≤n∧n≤i)) 98 ⟨rfl,0,by omega,by omega,rfl,rfl,by omega⟩ ?_
 rintro q vs cs mm bx9 _ ⟨rfl,i,hi,rfl,rfl,rfl,hn⟩
 conv=>whnf
 refine br_ (fun q1=>?_) fun q1=>?_
 ·have hiL:i<98:=by omega
  obtain ⟨x,hx⟩:∃ x,rowsL[i]? = some x:=⟨_,List.getElem?_eq_getElem (by rw [rowsL_len];exact hiL)⟩
  have hop:x.op=i+1:=by
   have:=rowsL_op i hiL
   rwa [List.getD_eq_getElem?_getD,hx] at this
  have hc:=rows_cell hx (k:=0) (by decide)
  conv=>whnf
  refine n_ ?_
  refine ⟨_,loadCA (k:=i*4+0) (by rw [Int.toNat_natCast];first | (simp [addr_add];done) | (simp [addr_add];kernel_rfl)) aggY0 hb hc,cw_ ?_⟩
  by_cases hni:n=i+1
  ·have e:rowN n=x:=by
    unfold rowN
    rw [if_pos (by omega),show n.toNat - 1=i by omega,List.getD_eq_getElem?_getD,hx]
    rfl
   have hkk:=hk h1 le1
   rw [e] at hkk
   refine bt_ ?_ (by rw [hop,hni];simp)
   refine n_ ?_
   have hl:=loadH_agg (n:=4) (f:=Rw.cs) aggRw sizRw rw_len (rest:=[]) (show h1 b=some (rowO 151 (rowsL.flatMap Rw.cs++[])) by rw [List.append_nil];exact hb) hx
   refine ⟨_,hl,cw_ ?_⟩
   exact hkk
  ·refine bf_ ?_ (by rw [hop];simp;omega)
   refine n_ ?_
   exact ⟨98 - (i+1),by omega,rfl,i+1,by omega,rfl,rfl,rfl,by omega⟩
 ·conv=>whnf
  have e:rowN n=rw0:=if_neg (by omega)
  have:=hk h1 le1
  rw [e] at this
  exact this
end
end Go.Proofs.YtdhkjcdneidgaaaGreatDoor
