/-
  Instructions as words: decoded and encoded, the program's (printed by a program).
-/
import Derived.Test.YtlobclgbbhoeiaaGreatDoorInsX
import Derived.Test.YtlobclgbbhoeiaaGreatDoorAsR
import Derived.Test.YtlobclgbbhoeiaaGreatDoorAsQ
/-! Instructions as words: decoded and encoded, the program's (printed by a program). -/
namespace Go.Proofs.YtlobclgbbhoeiaaGreatDoor
set_option linter.unusedSimpArgs false
set_option linter.unusedVariables false
open Go Go.Mid Go.RowKit Go.Bits
abbrev rfXInsY0 : Go.Mid.RF := [(2, 2), (5, 5), (28, 5), (34, 5), (41, 5), (42, 5), (48, 5), (49, 5), (50, 5), (57, 5), (58, 5), (66, 5), (67, 5), (68, 5), (75, 5), (76, 5), (77, 5), (84, 5), (85, 5)]
abbrev rfXInsY1 : Go.Mid.RF := [(1, 1), (13, 1), (19, 1), (22, 1), (25, 1), (30, 1), (35, 1), (40, 1), (46, 1), (50, 1)]
abbrev rfXInsY2 : Go.Mid.RF := [(1, 1), (12, 1), (19, 1), (24, 1), (29, 1), (34, 1), (39, 1), (44, 1), (48, 1), (5, 5), (15, 5), (17, 5)]
abbrev rfXInsY3 : Go.Mid.RF := [(2, 2), (7, 7), (47, 7), (53, 7), (59, 7), (65, 7), (71, 7), (75, 7)]
attribute [local irreducible] mid
/-- The instruction of a word that is one of an op. -/
def decF (f w i : Nat) : Ins := match f with
  | 1 => ⟨((i + 1 : Nat) : Int), (w / 2 ^ 7 % 2 ^ 5 : Nat), (w / 2 ^ 15 % 2 ^ 5 : Nat), (w / 2 ^ 20 % 2 ^ 5 : Nat), i64N (immN 1 w), 0, false, false⟩
  | 2 => ⟨((i + 1 : Nat) : Int), (w / 2 ^ 7 % 2 ^ 5 : Nat), (w / 2 ^ 15 % 2 ^ 5 : Nat), 0, i64N (immN 2 w), 0, false, false⟩
  | 3 => ⟨((i + 1 : Nat) : Int), 0, (w / 2 ^ 15 % 2 ^ 5 : Nat), (w / 2 ^ 20 % 2 ^ 5 : Nat), i64N (immN 3 w), 0, false, false⟩
  | 4 => ⟨((i + 1 : Nat) : Int), 0, (w / 2 ^ 15 % 2 ^ 5 : Nat), (w / 2 ^ 20 % 2 ^ 5 : Nat), i64N (immN 4 w), 0, false, false⟩
  | 5 => ⟨((i + 1 : Nat) : Int), (w / 2 ^ 7 % 2 ^ 5 : Nat), 0, 0, i64N (immN 5 w), 0, false, false⟩
  | 6 => ⟨((i + 1 : Nat) : Int), (w / 2 ^ 7 % 2 ^ 5 : Nat), 0, 0, i64N (immN 6 w), 0, false, false⟩
  | 7 => ⟨((i + 1 : Nat) : Int), (w / 2 ^ 7 % 2 ^ 5 : Nat), (w / 2 ^ 15 % 2 ^ 5 : Nat), 0, i64N (immN 7 w), 0, false, false⟩
  | 8 => ⟨((i + 1 : Nat) : Int), (w / 2 ^ 7 % 2 ^ 5 : Nat), (w / 2 ^ 15 % 2 ^ 5 : Nat), 0, i64N (immN 8 w), 0, false, false⟩
  | 9 => ⟨((i + 1 : Nat) : Int), (w / 2 ^ 7 % 2 ^ 5 : Nat), (w / 2 ^ 15 % 2 ^ 5 : Nat), 0, i64N (immN 9 w), (w / 2 ^ 20 % 2 ^ 12 : Nat), false, false⟩
  | 10 => ⟨((i + 1 : Nat) : Int), (w / 2 ^ 7 % 2 ^ 5 : Nat), (w / 2 ^ 15 % 2 ^ 5 : Nat), 0, i64N (immN 10 w), (w / 2 ^ 20 % 2 ^ 12 : Nat), false, false⟩
  | 11 => ⟨((i + 1 : Nat) : Int), (w / 2 ^ 7 % 2 ^ 5 : Nat), (w / 2 ^ 15 % 2 ^ 5 : Nat), (w / 2 ^ 20 % 2 ^ 5 : Nat), i64N (immN 11 w), 0, decide (bitN w 26 = 1), decide (bitN w 25 = 1)⟩
  | 12 => ⟨((i + 1 : Nat) : Int), (w / 2 ^ 7 % 2 ^ 5 : Nat), (w / 2 ^ 15 % 2 ^ 5 : Nat), 0, i64N (immN 12 w), 0, decide (bitN w 26 = 1), decide (bitN w 25 = 1)⟩
  | 13 => ⟨((i + 1 : Nat) : Int), 0, 0, 0, i64N (immN 13 w), 0, false, false⟩
  | 14 => ⟨((i + 1 : Nat) : Int), 0, (w / 2 ^ 15 % 2 ^ 5 : Nat), (w / 2 ^ 20 % 2 ^ 5 : Nat), i64N (immN 14 w), 0, false, false⟩
  | _ => ⟨((i + 1 : Nat) : Int), 0, 0, 0, i64N (immN f w), 0, false, false⟩
def decI (w i : Nat) : Ins := decF (fmtN ((i + 1 : Nat) : Int)) w i
def decV (w : Nat) : Value := match opOf w with
  | some i => .tuple #[.agg (decI w i).cs.toArray, .bool true]
  | none => .tuple #[.agg insn0.toArray, .bool false]
theorem lr_two {w i : Nat} (h : hit w i) (hf : fmtN ((i + 1 : Nat) : Int) = 12) : w / 2 ^ 20 % 2 ^ 5 = 0 := by
  have key : ∀ i : Nat, i < 98 → fmtN ((i + 1 : Nat) : Int) = 12 → ∀ q : Nat, q < 5 → bitN (maskN i) (20 + q) = 1 ∧ bitN (isN i) (20 + q) = 0 := by decide +kernel
  refine eq_bits (n := 5) (Nat.mod_lt _ (by decide)) (by decide) fun q hq => ?_
  obtain ⟨k1, k2⟩ := key i h.1 hf q hq
  rw [bit_mod, if_pos hq, bit_div, hit_bit h k1, k2, bitN_zero]
theorem fmt_ne : ∀ i : Nat, i < 98 → fmtN ((i + 1 : Nat) : Int) ≠ 0 := by decide
/-- The word of an instruction. -/
def encW (x : Ins) : Nat :=
  let w := isN (x.op.toNat - 1) ||| ((((layN (fmtN x.op) (u64N x.m) ||| x.a.toNat * 2 ^ 7) ||| x.b.toNat * 2 ^ 15) ||| x.c.toNat * 2 ^ 20) ||| x.s.toNat * 2 ^ 20)
  let w := if x.aq then w ||| 67108864 else w
  if x.rl then w ||| 33554432 else w
section
set_option maxHeartbeats 8000000
set_option maxRecDepth 10000
variable {h : Hp} {K : Value → Hp → Prop}
theorem bitI (w q : Nat) : ((((w / 2 ^ q % 2 ^ 1 : Nat) : Int)) == 1) = decide (bitN w q = 1) := by
  rw [Bool.eq_iff_iff]
  simp only [beq_iff_eq, decide_eq_true_eq]
  unfold bitN
  omega
theorem dec1_x (w i : Nat) (hw : w < 2 ^ 32) (ho : opOf w = some i) (hf : fmtN ((i + 1 : Nat) : Int) = 1) (hk : K (.tuple #[.agg (decF 1 w i).cs.toArray, .bool true]) h) : X Tryz.prog 52 #[wx w] h K := by
  have hlr := fun hf => lr_two (opOf_hit ho) hf
  have hk : K (.tuple #[.agg (Ins.cs ⟨((i + 1 : Nat) : Int), (w / 2 ^ 7 % 2 ^ 5 : Nat), (w / 2 ^ 15 % 2 ^ 5 : Nat), (w / 2 ^ 20 % 2 ^ 5 : Nat), i64N (immN 1 w), 0, false, false⟩).toArray, .bool true]) h := hk
  refine fnv (args := _) mixed rfXInsY0 [] [] Tryz.func52 rfl (by kernel_rfl) ?_; conv => whnf
  refine find_x w hw ?_
  rw [opV_some ho]
  conv => whnf
  refine fmt_x _ ?_
  rw [hf]
  conv => whnf
  refine field_x w 7 5 hw (by decide) (by decide) ?_
  conv => whnf
  refine field_x w 15 5 hw (by decide) (by decide) ?_
  conv => whnf
  refine field_x w 20 5 hw (by decide) (by decide) ?_
  conv => whnf
  refine imm_x 1 (by decide) w hw ?_
  conv => whnf
  exact hk
theorem dec2_x (w i : Nat) (hw : w < 2 ^ 32) (ho : opOf w = some i) (hf : fmtN ((i + 1 : Nat) : Int) = 2) (hk : K (.tuple #[.agg (decF 2 w i).cs.toArray, .bool true]) h) : X Tryz.prog 52 #[wx w] h K := by
  have hlr := fun hf => lr_two (opOf_hit ho) hf
  have hk : K (.tuple #[.agg (Ins.cs ⟨((i + 1 : Nat) : Int), (w / 2 ^ 7 % 2 ^ 5 : Nat), (w / 2 ^ 15 % 2 ^ 5 : Nat), 0, i64N (immN 2 w), 0, false, false⟩).toArray, .bool true]) h := hk
  refine fnv (args := _) mixed rfXInsY0 [] [] Tryz.func52 rfl (by kernel_rfl) ?_; conv => whnf
  refine find_x w hw ?_
  rw [opV_some ho]
  conv => whnf
  refine fmt_x _ ?_
  rw [hf]
  conv => whnf
  refine field_x w 7 5 hw (by decide) (by decide) ?_
  conv => whnf
  refine field_x w 15 5 hw (by decide) (by decide) ?_
  conv => whnf
  refine field_x w 20 5 hw (by decide) (by decide) ?_
  conv => whnf
  refine imm_x 2 (by decide) w hw ?_
  conv => whnf
  exact hk
theorem dec3_x (w i : Nat) (hw : w < 2 ^ 32) (ho : opOf w = some i) (hf : fmtN ((i + 1 : Nat) : Int) = 3) (hk : K (.tuple #[.agg (decF 3 w i).cs.toArray, .bool true]) h) : X Tryz.prog 52 #[wx w] h K := by
  have hlr := fun hf => lr_two (opOf_hit ho) hf
  have hk : K (.tuple #[.agg (Ins.cs ⟨((i + 1 : Nat) : Int), 0, (w / 2 ^ 15 % 2 ^ 5 : Nat), (w / 2 ^ 20 % 2 ^ 5 : Nat), i64N (immN 3 w), 0, false, false⟩).toArray, .bool true]) h := hk
  refine fnv (args := _) mixed rfXInsY0 [] [] Tryz.func52 rfl (by kernel_rfl) ?_; conv => whnf
  refine find_x w hw ?_
  rw [opV_some ho]
  conv => whnf
  refine fmt_x _ ?_
  rw [hf]
  conv => whnf
  refine field_x w 7 5 hw (by decide) (by decide) ?_
  conv => whnf
  refine field_x w 15 5 hw (by decide) (by decide) ?_
  conv => whnf
  refine field_x w 20 5 hw (by decide) (by decide) ?_
  conv => whnf
  refine imm_x 3 (by decide) w hw ?_
  conv => whnf
  exact hk
theorem dec4_x (w i : Nat) (hw : w < 2 ^ 32) (ho : opOf w = some i) (hf : fmtN ((i + 1 : Nat) : Int) = 4) (hk : K (.tuple #[.agg (decF 4 w i).cs.toArray, .bool true]) h) : X Tryz.prog 52 #[wx w] h K := by
  have hlr := fun hf => lr_two (opOf_hit ho) hf
  have hk : K (.tuple #[.agg (Ins.cs ⟨((i + 1 : Nat) : Int), 0, (w / 2 ^ 15 % 2 ^ 5 : Nat), (w / 2 ^ 20 % 2 ^ 5 : Nat), i64N (immN 4 w), 0, false, false⟩).toArray, .bool true]) h := hk
  refine fnv (args := _) mixed rfXInsY0 [] [] Tryz.func52 rfl (by kernel_rfl) ?_; conv => whnf
  refine find_x w hw ?_
  rw [opV_some ho]
  conv => whnf
  refine fmt_x _ ?_
  rw [hf]
  conv => whnf
  refine field_x w 7 5 hw (by decide) (by decide) ?_
  conv => whnf
  refine field_x w 15 5 hw (by decide) (by decide) ?_
  conv => whnf
  refine field_x w 20 5 hw (by decide) (by decide) ?_
  conv => whnf
  refine imm_x 4 (by decide) w hw ?_
  conv => whnf
  exact hk
theorem dec5_x (w i : Nat) (hw : w < 2 ^ 32) (ho : opOf w = some i) (hf : fmtN ((i + 1 : Nat) : Int) = 5) (hk : K (.tuple #[.agg (decF 5 w i).cs.toArray, .bool true]) h) : X Tryz.prog 52 #[wx w] h K := by
  have hlr := fun hf => lr_two (opOf_hit ho) hf
  have hk : K (.tuple #[.agg (Ins.cs ⟨((i + 1 : Nat) : Int), (w / 2 ^ 7 % 2 ^ 5 : Nat), 0, 0, i64N (immN 5 w), 0, false, false⟩).toArray, .bool true]) h := hk
  refine fnv (args := _) mixed rfXInsY0 [] [] Tryz.func52 rfl (by kernel_rfl) ?_; conv => whnf
  refine find_x w hw ?_
  rw [opV_some ho]
  conv => whnf
  refine fmt_x _ ?_
  rw [hf]
  conv => whnf
  refine field_x w 7 5 hw (by decide) (by decide) ?_
  conv => whnf
  refine field_x w 15 5 hw (by decide) (by decide) ?_
  conv => whnf
  refine field_x w 20 5 hw (by decide) (by decide) ?_
  conv => whnf
  refine imm_x 5 (by decide) w hw ?_
  conv => whnf
  exact hk
theorem dec6_x (w i : Nat) (hw : w < 2 ^ 32) (ho : opOf w = some i) (hf : fmtN ((i + 1 : Nat) : Int) = 6) (hk : K (.tuple #[.agg (decF 6 w i).cs.toArray, .bool true]) h) : X Tryz.prog 52 #[wx w] h K := by
  have hlr := fun hf => lr_two (opOf_hit ho) hf
  have hk : K (.tuple #[.agg (Ins.cs ⟨((i + 1 : Nat) : Int), (w / 2 ^ 7 % 2 ^ 5 : Nat), 0, 0, i64N (immN 6 w), 0, false, false⟩).toArray, .bool true]) h := hk
  refine fnv (args := _) mixed rfXInsY0 [] [] Tryz.func52 rfl (by kernel_rfl) ?_; conv => whnf
  refine find_x w hw ?_
  rw [opV_some ho]
  conv => whnf
  refine fmt_x _ ?_
  rw [hf]
  conv => whnf
  refine field_x w 7 5 hw (by decide) (by decide) ?_
  conv => whnf
  refine field_x w 15 5 hw (by decide) (by decide) ?_
  conv => whnf
  refine field_x w 20 5 hw (by decide) (by decide) ?_
  conv => whnf
  refine imm_x 6 (by decide) w hw ?_
  conv => whnf
  exact hk
theorem dec7_x (w i : Nat) (hw : w < 2 ^ 32) (ho : opOf w = some i) (hf : fmtN ((i + 1 : Nat) : Int) = 7) (hk : K (.tuple #[.agg (decF 7 w i).cs.toArray, .bool true]) h) : X Tryz.prog 52 #[wx w] h K := by
  have hlr := fun hf => lr_two (opOf_hit ho) hf
  have hk : K (.tuple #[.agg (Ins.cs ⟨((i + 1 : Nat) : Int), (w / 2 ^ 7 % 2 ^ 5 : Nat), (w / 2 ^ 15 % 2 ^ 5 : Nat), 0, i64N (immN 7 w), 0, false, false⟩).toArray, .bool true]) h := hk
  refine fnv (args := _) mixed rfXInsY0 [] [] Tryz.func52 rfl (by kernel_rfl) ?_; conv => whnf
  refine find_x w hw ?_
  rw [opV_some ho]
  conv => whnf
  refine fmt_x _ ?_
  rw [hf]
  conv => whnf
  refine field_x w 7 5 hw (by decide) (by decide) ?_
  conv => whnf
  refine field_x w 15 5 hw (by decide) (by decide) ?_
  conv => whnf
  refine field_x w 20 5 hw (by decide) (by decide) ?_
  conv => whnf
  refine imm_x 7 (by decide) w hw ?_
  conv => whnf
  exact hk
theorem dec8_x (w i : Nat) (hw : w < 2 ^ 32) (ho : opOf w = some i) (hf : fmtN ((i + 1 : Nat) : Int) = 8) (hk : K (.tuple #[.agg (decF 8 w i).cs.toArray, .bool true]) h) : X Tryz.prog 52 #[wx w] h K := by
  have hlr := fun hf => lr_two (opOf_hit ho) hf
  have hk : K (.tuple #[.agg (Ins.cs ⟨((i + 1 : Nat) : Int), (w / 2 ^ 7 % 2 ^ 5 : Nat), (w / 2 ^ 15 % 2 ^ 5 : Nat), 0, i64N (immN 8 w), 0, false, false⟩).toArray, .bool true]) h := hk
  refine fnv (args := _) mixed rfXInsY0 [] [] Tryz.func52 rfl (by kernel_rfl) ?_; conv => whnf
  refine find_x w hw ?_
  rw [opV_some ho]
  conv => whnf
  refine fmt_x _ ?_
  rw [hf]
  conv => whnf
  refine field_x w 7 5 hw (by decide) (by decide) ?_
  conv => whnf
  refine field_x w 15 5 hw (by decide) (by decide) ?_
  conv => whnf
  refine field_x w 20 5 hw (by decide) (by decide) ?_
  conv => whnf
  refine imm_x 8 (by decide) w hw ?_
  conv => whnf
  exact hk
theorem dec9_x (w i : Nat) (hw : w < 2 ^ 32) (ho : opOf w = some i) (hf : fmtN ((i + 1 : Nat) : Int) = 9) (hk : K (.tuple #[.agg (decF 9 w i).cs.toArray, .bool true]) h) : X Tryz.prog 52 #[wx w] h K := by
  have hlr := fun hf => lr_two (opOf_hit ho) hf
  have hk : K (.tuple #[.agg (Ins.cs ⟨((i + 1 : Nat) : Int), (w / 2 ^ 7 % 2 ^ 5 : Nat), (w / 2 ^ 15 % 2 ^ 5 : Nat), 0, i64N (immN 9 w), (w / 2 ^ 20 % 2 ^ 12 : Nat), false, false⟩).toArray, .bool true]) h := hk
  refine fnv (args := _) mixed rfXInsY0 [] [] Tryz.func52 rfl (by kernel_rfl) ?_; conv => whnf
  refine find_x w hw ?_
  rw [opV_some ho]
  conv => whnf
  refine fmt_x _ ?_
  rw [hf]
  conv => whnf
  refine field_x w 7 5 hw (by decide) (by decide) ?_
  conv => whnf
  refine field_x w 15 5 hw (by decide) (by decide) ?_
  conv => whnf
  refine field_x w 20 5 hw (by decide) (by decide) ?_
  conv => whnf
  refine imm_x 9 (by decide) w hw ?_
  conv => whnf
  refine field_x w 20 12 hw (by decide) (by decide) ?_
  conv => whnf
  exact hk
theorem dec10_x (w i : Nat) (hw : w < 2 ^ 32) (ho : opOf w = some i) (hf : fmtN ((i + 1 : Nat) : Int) = 10) (hk : K (.tuple #[.agg (decF 10 w i).cs.toArray, .bool true]) h) : X Tryz.prog 52 #[wx w] h K := by
  have hlr := fun hf => lr_two (opOf_hit ho) hf
  have hk : K (.tuple #[.agg (Ins.cs ⟨((i + 1 : Nat) : Int), (w / 2 ^ 7 % 2 ^ 5 : Nat), (w / 2 ^ 15 % 2 ^ 5 : Nat), 0, i64N (immN 10 w), (w / 2 ^ 20 % 2 ^ 12 : Nat), false, false⟩).toArray, .bool true]) h := hk
  refine fnv (args := _) mixed rfXInsY0 [] [] Tryz.func52 rfl (by kernel_rfl) ?_; conv => whnf
  refine find_x w hw ?_
  rw [opV_some ho]
  conv => whnf
  refine fmt_x _ ?_
  rw [hf]
  conv => whnf
  refine field_x w 7 5 hw (by decide) (by decide) ?_
  conv => whnf
  refine field_x w 15 5 hw (by decide) (by decide) ?_
  conv => whnf
  refine field_x w 20 5 hw (by decide) (by decide) ?_
  conv => whnf
  refine imm_x 10 (by decide) w hw ?_
  conv => whnf
  refine field_x w 20 12 hw (by decide) (by decide) ?_
  conv => whnf
  exact hk
theorem dec11_x (w i : Nat) (hw : w < 2 ^ 32) (ho : opOf w = some i) (hf : fmtN ((i + 1 : Nat) : Int) = 11) (hk : K (.tuple #[.agg (decF 11 w i).cs.toArray, .bool true]) h) : X Tryz.prog 52 #[wx w] h K := by
  have hlr := fun hf => lr_two (opOf_hit ho) hf
  have hk : K (.tuple #[.agg (Ins.cs ⟨((i + 1 : Nat) : Int), (w / 2 ^ 7 % 2 ^ 5 : Nat), (w / 2 ^ 15 % 2 ^ 5 : Nat), (w / 2 ^ 20 % 2 ^ 5 : Nat), i64N (immN 11 w), 0, decide (bitN w 26 = 1), decide (bitN w 25 = 1)⟩).toArray, .bool true]) h := hk
  refine fnv (args := _) mixed rfXInsY0 [] [] Tryz.func52 rfl (by kernel_rfl) ?_; conv => whnf
  refine find_x w hw ?_
  rw [opV_some ho]
  conv => whnf
  refine fmt_x _ ?_
  rw [hf]
  conv => whnf
  refine field_x w 7 5 hw (by decide) (by decide) ?_
  conv => whnf
  refine field_x w 15 5 hw (by decide) (by decide) ?_
  conv => whnf
  refine field_x w 20 5 hw (by decide) (by decide) ?_
  conv => whnf
  refine imm_x 11 (by decide) w hw ?_
  conv => whnf
  refine field_x w 26 1 hw (by decide) (by decide) ?_
  conv => whnf
  refine field_x w 25 1 hw (by decide) (by decide) ?_
  conv => whnf
  exact kq hk (by rw [← bitI w 26, ← bitI w 25]; rfl)
theorem dec12_x (w i : Nat) (hw : w < 2 ^ 32) (ho : opOf w = some i) (hf : fmtN ((i + 1 : Nat) : Int) = 12) (hk : K (.tuple #[.agg (decF 12 w i).cs.toArray, .bool true]) h) : X Tryz.prog 52 #[wx w] h K := by
  have hlr := fun hf => lr_two (opOf_hit ho) hf
  have hk : K (.tuple #[.agg (Ins.cs ⟨((i + 1 : Nat) : Int), (w / 2 ^ 7 % 2 ^ 5 : Nat), (w / 2 ^ 15 % 2 ^ 5 : Nat), 0, i64N (immN 12 w), 0, decide (bitN w 26 = 1), decide (bitN w 25 = 1)⟩).toArray, .bool true]) h := hk
  refine fnv (args := _) mixed rfXInsY0 [] [] Tryz.func52 rfl (by kernel_rfl) ?_; conv => whnf
  refine find_x w hw ?_
  rw [opV_some ho]
  conv => whnf
  refine fmt_x _ ?_
  rw [hf]
  conv => whnf
  refine field_x w 7 5 hw (by decide) (by decide) ?_
  conv => whnf
  refine field_x w 15 5 hw (by decide) (by decide) ?_
  conv => whnf
  refine field_x w 20 5 hw (by decide) (by decide) ?_
  conv => whnf
  refine imm_x 12 (by decide) w hw ?_
  conv => whnf
  refine field_x w 26 1 hw (by decide) (by decide) ?_
  conv => whnf
  refine field_x w 25 1 hw (by decide) (by decide) ?_
  conv => whnf
  exact kq hk (by rw [← bitI w 26, ← bitI w 25, hlr hf]; rfl)
theorem dec13_x (w i : Nat) (hw : w < 2 ^ 32) (ho : opOf w = some i) (hf : fmtN ((i + 1 : Nat) : Int) = 13) (hk : K (.tuple #[.agg (decF 13 w i).cs.toArray, .bool true]) h) : X Tryz.prog 52 #[wx w] h K := by
  have hlr := fun hf => lr_two (opOf_hit ho) hf
  have hk : K (.tuple #[.agg (Ins.cs ⟨((i + 1 : Nat) : Int), 0, 0, 0, i64N (immN 13 w), 0, false, false⟩).toArray, .bool true]) h := hk
  refine fnv (args := _) mixed rfXInsY0 [] [] Tryz.func52 rfl (by kernel_rfl) ?_; conv => whnf
  refine find_x w hw ?_
  rw [opV_some ho]
  conv => whnf
  refine fmt_x _ ?_
  rw [hf]
  conv => whnf
  refine field_x w 7 5 hw (by decide) (by decide) ?_
  conv => whnf
  refine field_x w 15 5 hw (by decide) (by decide) ?_
  conv => whnf
  refine field_x w 20 5 hw (by decide) (by decide) ?_
  conv => whnf
  refine imm_x 13 (by decide) w hw ?_
  conv => whnf
  exact hk
theorem dec14_x (w i : Nat) (hw : w < 2 ^ 32) (ho : opOf w = some i) (hf : fmtN ((i + 1 : Nat) : Int) = 14) (hk : K (.tuple #[.agg (decF 14 w i).cs.toArray, .bool true]) h) : X Tryz.prog 52 #[wx w] h K := by
  have hlr := fun hf => lr_two (opOf_hit ho) hf
  have hk : K (.tuple #[.agg (Ins.cs ⟨((i + 1 : Nat) : Int), 0, (w / 2 ^ 15 % 2 ^ 5 : Nat), (w / 2 ^ 20 % 2 ^ 5 : Nat), i64N (immN 14 w), 0, false, false⟩).toArray, .bool true]) h := hk
  refine fnv (args := _) mixed rfXInsY0 [] [] Tryz.func52 rfl (by kernel_rfl) ?_; conv => whnf
  refine find_x w hw ?_
  rw [opV_some ho]
  conv => whnf
  refine fmt_x _ ?_
  rw [hf]
  conv => whnf
  refine field_x w 7 5 hw (by decide) (by decide) ?_
  conv => whnf
  refine field_x w 15 5 hw (by decide) (by decide) ?_
  conv => whnf
  refine field_x w 20 5 hw (by decide) (by decide) ?_
  conv => whnf
  refine imm_x 14 (by decide) w hw ?_
  conv => whnf
  exact hk
theorem decode_x (w : Nat) (hw : w < 2 ^ 32) (hk : K (decV w) h) : X Tryz.prog 52 #[wx w] h K := by
  unfold decV at hk
  cases ho : opOf w with
  | none =>
    rw [ho] at hk
    refine fnv (args := _) mixed rfXInsY0 [] [] Tryz.func52 rfl (by kernel_rfl) ?_; conv => whnf
    refine find_x w hw ?_
    rw [opV_none ho]
    conv => whnf
    exact hk
  | some i =>
    rw [ho] at hk
    have hi := (opOf_hit ho).1
    have hl := fmtN_lt ((i + 1 : Nat) : Int)
    have h0 := fmt_ne i hi
    have hk : K (.tuple #[.agg (decF (fmtN ((i + 1 : Nat) : Int)) w i).cs.toArray, .bool true]) h := hk
    generalize hf : fmtN ((i + 1 : Nat) : Int) = f at hl h0 hk
    match f, hf, hl, h0, hk with
    | 0, _, _, h0, _ => exact absurd rfl h0
    | 1, hf, _, _, hk => exact dec1_x w i hw ho hf hk
    | 2, hf, _, _, hk => exact dec2_x w i hw ho hf hk
    | 3, hf, _, _, hk => exact dec3_x w i hw ho hf hk
    | 4, hf, _, _, hk => exact dec4_x w i hw ho hf hk
    | 5, hf, _, _, hk => exact dec5_x w i hw ho hf hk
    | 6, hf, _, _, hk => exact dec6_x w i hw ho hf hk
    | 7, hf, _, _, hk => exact dec7_x w i hw ho hf hk
    | 8, hf, _, _, hk => exact dec8_x w i hw ho hf hk
    | 9, hf, _, _, hk => exact dec9_x w i hw ho hf hk
    | 10, hf, _, _, hk => exact dec10_x w i hw ho hf hk
    | 11, hf, _, _, hk => exact dec11_x w i hw ho hf hk
    | 12, hf, _, _, hk => exact dec12_x w i hw ho hf hk
    | 13, hf, _, _, hk => exact dec13_x w i hw ho hf hk
    | 14, hf, _, _, hk => exact dec14_x w i hw ho hf hk
    | f + 15, _, hl, _, _ => exact absurd hl (by omega)
theorem sh7 {a : Nat} (h : a ≤ 31) : a * 2 ^ 7 < 2 ^ 32 := show a * 128 < 4294967296 by omega
theorem sh15 {a : Nat} (h : a ≤ 31) : a * 2 ^ 15 < 2 ^ 32 := show a * 32768 < 4294967296 by omega
theorem sh20 {a : Nat} (h : a ≤ 4095) : a * 2 ^ 20 < 2 ^ 32 := show a * 1048576 < 4294967296 by omega
theorem layN_lt32 (f : Nat) (hf : f < 15) (u : Nat) : layN f u < 2 ^ 32 := by
  rw [← lay_eq f hf]; exact orP_lt u _ (layL_ok f hf).1
theorem encode_x (x : Ins) (m1 : -9223372036854775808 ≤ x.m) (m2 : x.m ≤ 9223372036854775807) (hk : K (.tuple #[wx (if x.chk = 0 then encW x else 0), .int .i64 x.chk]) h) : X Tryz.prog 49 #[.agg x.cs.toArray] h K := by
  by_cases hc : x.chk = 0
  rotate_left
  · rw [if_neg hc] at hk
    refine fnv (args := _) mixed rfXInsY1 [] [] Tryz.func49 rfl (by kernel_rfl) ?_; conv => whnf
    refine check_x x.op x.a x.b x.c x.m x.s x.aq x.rl m1 m2 ?_
    rw [show checkF (fmtN x.op) x.a x.b x.c x.m x.s x.aq x.rl = x.chk from rfl]
    generalize x.chk = e at hc hk ⊢
    conv => whnf
    refine bsel_true (by simpa using hc) ?_; conv => whnf
    exact hk
  rw [if_pos hc, hc] at hk
  obtain ⟨o1, o2, _, ha, hb, hc2, hs, _, _⟩ := chk_ok hc
  obtain ⟨i, hi⟩ : ∃ i : Nat, x.op = ((i + 1 : Nat) : Int) := ⟨x.op.toNat - 1, by omega⟩
  obtain ⟨a, ea⟩ : ∃ a : Nat, x.a = a := ⟨x.a.toNat, by omega⟩
  obtain ⟨b, eb⟩ : ∃ b : Nat, x.b = b := ⟨x.b.toNat, by omega⟩
  obtain ⟨c, ec⟩ : ∃ c : Nat, x.c = c := ⟨x.c.toNat, by omega⟩
  obtain ⟨s, es⟩ : ∃ s : Nat, x.s = s := ⟨x.s.toNat, by omega⟩
  have hil : i < 98 := by omega
  have hf15 := fmtN_lt x.op
  have hly := layN_lt32 (fmtN x.op) hf15 (u64N x.m)
  have hisl := (mask_lt i hil).2
  have he : encW x = (if x.rl then (if x.aq then (isN i ||| ((((layN (fmtN x.op) (u64N x.m) ||| a * 2 ^ 7) ||| b * 2 ^ 15) ||| c * 2 ^ 20) ||| s * 2 ^ 20)) ||| 67108864 else (isN i ||| ((((layN (fmtN x.op) (u64N x.m) ||| a * 2 ^ 7) ||| b * 2 ^ 15) ||| c * 2 ^ 20) ||| s * 2 ^ 20))) ||| 33554432 else (if x.aq then (isN i ||| ((((layN (fmtN x.op) (u64N x.m) ||| a * 2 ^ 7) ||| b * 2 ^ 15) ||| c * 2 ^ 20) ||| s * 2 ^ 20)) ||| 67108864 else (isN i ||| ((((layN (fmtN x.op) (u64N x.m) ||| a * 2 ^ 7) ||| b * 2 ^ 15) ||| c * 2 ^ 20) ||| s * 2 ^ 20)))) := by
    unfold encW
    rw [ea, eb, ec, es, show x.op.toNat - 1 = i by omega]
    simp only [Int.toNat_natCast]
  rw [he] at hk
  clear he
  have hx : x = ⟨x.op, x.a, x.b, x.c, x.m, x.s, x.aq, x.rl⟩ := rfl
  have la : a ≤ 31 := by omega
  have lb : b ≤ 31 := by omega
  have lc : c ≤ 31 := by omega
  have ls : s ≤ 4095 := by omega
  have a1 := sh7 la
  have b1 := sh15 lb
  have c1 := sh20 (Nat.le_trans lc (by decide))
  have s1 := sh20 ls
  have t1 := Nat.or_lt_two_pow hly a1
  have t2 := Nat.or_lt_two_pow t1 b1
  have t3 := Nat.or_lt_two_pow t2 c1
  have t4 := Nat.or_lt_two_pow t3 s1
  have t5 := Nat.or_lt_two_pow hisl t4
  have t6 := Nat.or_lt_two_pow t5 (show 67108864 < 2 ^ 32 by decide)
  refine fnv (args := _) mixed rfXInsY1 [] [] Tryz.func49 rfl (by kernel_rfl) ?_; conv => whnf
  refine check_x x.op x.a x.b x.c x.m x.s x.aq x.rl m1 m2 ?_
  rw [show checkF (fmtN x.op) x.a x.b x.c x.m x.s x.aq x.rl = x.chk from rfl]
  rw [hc]
  conv => whnf
  rw [hi]
  refine fixed_x i hil ?_
  rw [← hi]
  conv => whnf
  refine fmt_x x.op ?_
  refine ⟨trivial, ?_⟩; conv => whnf
  refine lay_x (fmtN x.op) hf15 x.m ?_
  generalize layN (fmtN x.op) (u64N x.m) = ly at hk t1 t2 t3 t4 t5 t6 hly ⊢
  generalize isN i = is at hk t5 t6 hisl ⊢
  refine ⟨trivial, ?_⟩; conv => whnf
  rw [ea]
  (first | refine ov_c (by simp only [loK, hiK]; omega) ?_ | refine ov_c (by decide) ?_); conv => whnf
  refine ov_by (shl32 a 7 (by decide)) ?_
  rw [Nat.mod_eq_of_lt a1]
  conv => whnf
  refine val_by (or32 hly a1) ?_; conv => whnf
  rw [eb]
  (first | refine ov_c (by simp only [loK, hiK]; omega) ?_ | refine ov_c (by decide) ?_); conv => whnf
  refine ov_by (shl32 b 15 (by decide)) ?_
  rw [Nat.mod_eq_of_lt b1]
  conv => whnf
  refine val_by (or32 t1 b1) ?_; conv => whnf
  rw [ec]
  (first | refine ov_c (by simp only [loK, hiK]; omega) ?_ | refine ov_c (by decide) ?_); conv => whnf
  refine ov_by (shl32 c 20 (by decide)) ?_
  rw [Nat.mod_eq_of_lt c1]
  conv => whnf
  refine val_by (or32 t2 c1) ?_; conv => whnf
  rw [es]
  (first | refine ov_c (by simp only [loK, hiK]; omega) ?_ | refine ov_c (by decide) ?_); conv => whnf
  refine ov_by (shl32 s 20 (by decide)) ?_
  rw [Nat.mod_eq_of_lt s1]
  conv => whnf
  refine val_by (or32 t3 s1) ?_; conv => whnf
  refine val_by (or32 hisl t4) ?_; conv => whnf
  cases hq : x.aq with
  | true =>
    rw [hq] at hk
    conv => whnf
    refine val_by (or32 t5 (show 67108864 < 2 ^ 32 by decide)) ?_; conv => whnf
    cases hr : x.rl with
    | true =>
      rw [hr] at hk
      conv => whnf
      refine val_by (or32 t6 (show 33554432 < 2 ^ 32 by decide)) ?_; conv => whnf
      exact hk
    | false =>
      rw [hr] at hk
      conv => whnf
      exact hk
  | false =>
    rw [hq] at hk
    conv => whnf
    cases hr : x.rl with
    | true =>
      rw [hr] at hk
      conv => whnf
      refine val_by (or32 t5 (show 33554432 < 2 ^ 32 by decide)) ?_; conv => whnf
      exact hk
    | false =>
      rw [hr] at hk
      conv => whnf
      exact hk
end
end Go.Proofs.YtlobclgbbhoeiaaGreatDoor
/-! Instructions as words: decoded and encoded, the document's (printed by a program). -/
namespace Go.Proofs.YtlobclgbbhoeiaaGreatDoor
set_option linter.unusedSimpArgs false
set_option linter.unusedVariables false
open Go Go.Mid Go.RowKit Go.Bits
attribute [local irreducible] mid
theorem land_step (a b i : Nat) : (a &&& b) % 2 ^ (i + 1) = (a &&& b) % 2 ^ i + (if bitN a i = 1 ∧ bitN b i = 1 then 2 ^ i else 0) := by
  rw [Nat.mod_pow_succ]
  congr 1
  have e : (a &&& b) / 2 ^ i % 2 = bitN (a &&& b) i := rfl
  rw [e, and_bit]
  have h1 := bitN_lt a i
  have h2 := bitN_lt b i
  split
  · rename_i h; rw [h.1, h.2]; simp
  · rename_i h
    have : min (bitN a i) (bitN b i) = 0 := by omega
    rw [this, Nat.mul_zero]
/-- The word of an instruction, as the document tells it. -/
def encS (x : Ins) : Nat := isN (x.op.toNat - 1) + layN (fmtN x.op) (u64N x.m) + 128 * x.a.toNat + 32768 * x.b.toNat + 1048576 * x.c.toNat + 1048576 * x.s.toNat + (if x.aq then 67108864 else 0) + (if x.rl then 33554432 else 0)
section
set_option maxHeartbeats 8000000
set_option maxRecDepth 10000
variable {h : Hp} {K : Value → Hp → Prop}
theorem masked_x (w m : Nat) (hw : w < 2 ^ 32) (hm : m < 2 ^ 32) (hk : K (uv (w &&& m)) h) : X Tryz.prog 56 #[uv w, uv m] h K := by
  refine fnv (args := _) mixed [] [] [] Tryz.func56 rfl (by kernel_rfl) ?_; conv => whnf
  refine loop_at [7, 0, 1, 5, 6] [] (fun r vs _ h' => h = h' ∧ ∃ i : Nat, i ≤ 32 ∧ r = 32 - i ∧ vs = [.v (.int .i64 i), .v (uv (w / 2 ^ i)), .v (uv (m / 2 ^ i)), .v (uv ((w &&& m) % 2 ^ i)), .v (uv (2 ^ i))]) 32 ⟨rfl, 0, by omega, rfl, by rw [Nat.pow_zero, Nat.div_one, Nat.div_one, Nat.mod_one]; rfl⟩ ?_
  rintro r vs cs mm bx _ ⟨rfl, i, hi, rfl, rfl⟩
  have hwi : w / 2 ^ i < 2 ^ 32 := Nat.lt_of_le_of_lt (Nat.div_le_self _ _) hw
  have hmi : m / 2 ^ i < 2 ^ 32 := Nat.lt_of_le_of_lt (Nat.div_le_self _ _) hm
  have hws : ((w / 2 ^ i : Nat) : Int).tdiv 2 = ((w / 2 ^ (i + 1) : Nat) : Int) := by rw [Int.tdiv_eq_ediv_of_nonneg (Int.natCast_nonneg _), Nat.pow_succ, ← Nat.div_div_eq_div_mul]; rfl
  have hms : ((m / 2 ^ i : Nat) : Int).tdiv 2 = ((m / 2 ^ (i + 1) : Nat) : Int) := by rw [Int.tdiv_eq_ediv_of_nonneg (Int.natCast_nonneg _), Nat.pow_succ, ← Nat.div_div_eq_div_mul]; rfl
  have hwj : w / 2 ^ (i + 1) < 2 ^ 32 := Nat.lt_of_le_of_lt (Nat.div_le_self _ _) hw
  have hmj : m / 2 ^ (i + 1) < 2 ^ 32 := Nat.lt_of_le_of_lt (Nat.div_le_self _ _) hm
  have hst := land_step w m i
  have hout : (w &&& m) % 2 ^ i ≤ w &&& m := Nat.mod_le _ _
  have hwm : w &&& m < 2 ^ 32 := Nat.and_lt_two_pow _ hm
  have hp : 2 ^ i ≤ 2 ^ 32 := Nat.pow_le_pow_right (by decide) hi
  have hps : 2 ^ (i + 1) = 2 ^ i * 2 := Nat.pow_succ _ _
  generalize h2i : 2 ^ i = p at *
  generalize h2j : 2 ^ (i + 1) = q at *
  have bw : ((w / p : Nat) : Int).tmod 2 = ((bitN w i : Nat) : Int) := by unfold bitN; rw [h2i]; rfl
  have bm : ((m / p : Nat) : Int).tmod 2 = ((bitN m i : Nat) : Int) := by unfold bitN; rw [h2i]; rfl
  have bw2 := bitN_lt w i
  have bm2 := bitN_lt m i
  generalize bitN w i = bwi at *
  generalize bitN m i = bmi at *
  generalize hW : w / p = W at *
  generalize hM : m / p = M at *
  generalize hW2 : w / q = W2 at *
  generalize hM2 : m / q = M2 at *
  generalize hA : (w &&& m) % p = A at *
  generalize hB : (w &&& m) % q = B at *
  conv => whnf
  refine bsel_intro (fun q1 => ?_) (fun q1 => ?_) <;> try simp only [bsL] at q1
  · have hi32 : i < 32 := by omega
    conv => whnf
    rw [bw]
    refine bsel_intro (fun q2 => ?_) (fun q2 => ?_) <;> try simp only [bsL] at q2
    · conv => whnf
      rw [bm]
      refine bsel_intro (fun q3 => ?_) (fun q3 => ?_) <;> try simp only [bsL] at q3
      · rw [if_pos ⟨by omega, by omega⟩] at hst
        conv => whnf
        refine ov_u64 (by omega) ?_; conv => whnf
        rw [hws]
        refine ov_u64 (by omega) ?_; conv => whnf
        rw [hms]
        refine ov_u64 (by omega) ?_; conv => whnf
        refine ov_u64 (by omega) ?_; conv => whnf
        (first | refine ov_c (by simp only [loK, hiK]; omega) ?_ | refine ov_c (by decide) ?_); conv => whnf
        refine ⟨32 - (i + 1), by omega, rfl, i + 1, by omega, rfl, ?_⟩
        rw [h2j, hW2, hM2, hB, hst, hps, show uv (A + p) = .int .u64 ((A : Int) + p) from congrArg (Value.int .u64) (by omega), show uv (p * 2) = .int .u64 ((p : Int) * 2) from congrArg (Value.int .u64) (by omega)]
        rfl
      · rw [if_neg (by omega)] at hst
        conv => whnf
        rw [hws]
        refine ov_u64 (by omega) ?_; conv => whnf
        rw [hms]
        refine ov_u64 (by omega) ?_; conv => whnf
        refine ov_u64 (by omega) ?_; conv => whnf
        (first | refine ov_c (by simp only [loK, hiK]; omega) ?_ | refine ov_c (by decide) ?_); conv => whnf
        refine ⟨32 - (i + 1), by omega, rfl, i + 1, by omega, rfl, ?_⟩
        rw [h2j, hW2, hM2, hB, hst, hps, show uv (p * 2) = .int .u64 ((p : Int) * 2) from congrArg (Value.int .u64) (by omega)]
        rfl
    · rw [if_neg (by omega)] at hst
      conv => whnf
      rw [hws]
      refine ov_u64 (by omega) ?_; conv => whnf
      rw [hms]
      refine ov_u64 (by omega) ?_; conv => whnf
      refine ov_u64 (by omega) ?_; conv => whnf
      (first | refine ov_c (by simp only [loK, hiK]; omega) ?_ | refine ov_c (by decide) ?_); conv => whnf
      refine ⟨32 - (i + 1), by omega, rfl, i + 1, by omega, rfl, ?_⟩
      rw [h2j, hW2, hM2, hB, hst, hps, show uv (p * 2) = .int .u64 ((p : Int) * 2) from congrArg (Value.int .u64) (by omega)]
      rfl
  · obtain rfl : i = 32 := by omega
    conv => whnf
    have : A = w &&& m := by rw [← hA, ← h2i]; exact Nat.mod_eq_of_lt hwm
    rw [this]
    exact hk
theorem rcut_x (w a s : Nat) (hw : w < 2 ^ 64) (ha : a ≤ 63) (hs : s ≤ 64) (hk : K (uv (w / 2 ^ a % 2 ^ s)) h) : X Tryz.prog 59 #[uv w, .int .i64 a, .int .i64 s] h K := by
  rw [← cut_eq hw] at hk
  refine X.forget ?_
  have hf : ∀ k, (if k < s ∧ a + k < 64 then bitN w (a + k) else 0) < 2 := fun i => by split <;> first | exact bitN_lt _ _ | decide
  refine fnv (args := _) mixed [] [] [] Tryz.func59 rfl (by kernel_rfl) ?_; conv => whnf
  refine loop_at [8, 7] [] (fun r vs _ h' => ∃ (k : Nat) (sl : Value), k ≤ 64 ∧ r = 64 - k ∧ vs = [.v (.int .i64 k), .v sl] ∧ Owns h h' 41 1 sl k (upto (fun k => if k < s ∧ a + k < 64 then bitN w (a + k) else 0) k)) 64
    ⟨0, .slice none 0 0, by omega, rfl, rfl, Owns.nil (Hp.le_refl _)⟩ ?_
  rintro r vs cs mm bx h1 ⟨k, sl, hi, rfl, rfl, hO⟩
  obtain ⟨sa, sc, rfl⟩ := hO.shape
  conv => whnf
  refine bsel_intro (fun q1 => ?_) (fun q1 => ?_) <;> try simp only [bsL] at q1
  · conv => whnf
    refine bsel_intro (fun q2 => ?_) (fun q2 => ?_) <;> try simp only [bsL] at q2
    · conv => whnf
      refine loop_at [10, 9] [] (fun r vs _ h' => h1 = h' ∧ ∃ i : Nat, i ≤ 64 ∧ r = 64 - i ∧ vs = [.v (.int .i64 i), .v (uv (if a + k < i then bitN w (a + k) else 0))]) 64 ⟨rfl, 0, by omega, rfl, by rw [if_neg (by omega)]; rfl⟩ ?_
      rintro r vs cs mm2 bx2 _ ⟨rfl, i, hi2, rfl, rfl⟩
      conv => whnf
      refine bsel_intro (fun q3 => ?_) (fun q3 => ?_) <;> try simp only [bsL] at q3
      · conv => whnf
        refine rin_x a s i (by omega) hs (by omega) ?_
        by_cases hc : a ≤ i ∧ i < a + s
        · rw [if_pos hc, decide_eq_true hc]
          conv => whnf
          by_cases he : i - a = k
          · have hik : i = a + k := by omega
            refine bsel_true (by simp; omega) ?_; conv => whnf
            refine rbit_x w i hw (by omega) ?_
            rw [if_pos (by omega), Int.toNat_natCast]
            conv => whnf
            (first | refine ov_c (by simp only [loK, hiK]; omega) ?_ | refine ov_c (by decide) ?_); conv => whnf
            exact ⟨64 - (i + 1), by omega, rfl, i + 1, by omega, rfl, by rw [show (if a + k < i + 1 then bitN w (a + k) else 0) = bitN w i by rw [if_pos (by omega), ← hik]]; rfl⟩
          · refine bsel_false (by simp; omega) ?_; conv => whnf
            (first | refine ov_c (by simp only [loK, hiK]; omega) ?_ | refine ov_c (by decide) ?_); conv => whnf
            refine ⟨64 - (i + 1), by omega, rfl, i + 1, by omega, rfl, ?_⟩
            rw [show (if a + k < i + 1 then bitN w (a + k) else 0) = (if a + k < i then bitN w (a + k) else 0) by
              by_cases h9 : a + k < i
              · rw [if_pos h9, if_pos (by omega)]
              · rw [if_neg h9, if_neg (by omega)]]
            rfl
        · rw [if_neg hc, decide_eq_false hc]
          conv => whnf
          (first | refine ov_c (by simp only [loK, hiK]; omega) ?_ | refine ov_c (by decide) ?_); conv => whnf
          refine ⟨64 - (i + 1), by omega, rfl, i + 1, by omega, rfl, ?_⟩
          rw [show (if a + k < i + 1 then bitN w (a + k) else 0) = (if a + k < i then bitN w (a + k) else 0) by
            by_cases h9 : a + k < i
            · rw [if_pos h9, if_pos (by omega)]
            · rw [if_neg h9, if_neg (by omega)]]
          rfl
      · obtain rfl : i = 64 := by omega
        conv => whnf
        refine new_intro (o := rowO 41 [uv (if a + k < 64 then bitN w (a + k) else 0)]) (fun y h2 n_y le_y at_y ot_y => ?_); conv => whnf
        refine Owns.app1 (z := .int .u64 0) (by kernel_rfl) infU64 (by kernel_rfl) (by kernel_rfl) (by kernel_rfl) rfl (bytes := 8) (by decide) rfl rfl rfl (hO.up le_y) at_y rfl rfl (by omega) fun s3 h3 hO3 => ?_
        conv => whnf
        (first | refine ov_c (by simp only [loK, hiK]; omega) ?_ | refine ov_c (by decide) ?_); conv => whnf
        refine ⟨64 - (k + 1), by omega, k + 1, s3, by omega, rfl, rfl, ?_⟩
        rw [upto_succ]
        rw [show (if k < s ∧ a + k < 64 then bitN w (a + k) else 0) = (if a + k < 64 then bitN w (a + k) else 0) by
          by_cases h9 : a + k < 64
          · rw [if_pos h9, if_pos ⟨by omega, h9⟩]
          · rw [if_neg h9, if_neg (fun h => h9 h.2)]]
        exact hO3
    · conv => whnf
      refine new_intro (o := rowO 41 [uv 0]) (fun y h2 n_y le_y at_y ot_y => ?_); conv => whnf
      refine Owns.app1 (z := .int .u64 0) (by kernel_rfl) infU64 (by kernel_rfl) (by kernel_rfl) (by kernel_rfl) rfl (bytes := 8) (by decide) rfl rfl rfl (hO.up le_y) at_y rfl rfl (by omega) fun s3 h3 hO3 => ?_
      conv => whnf
      (first | refine ov_c (by simp only [loK, hiK]; omega) ?_ | refine ov_c (by decide) ?_); conv => whnf
      refine ⟨64 - (k + 1), by omega, k + 1, s3, by omega, rfl, rfl, ?_⟩
      rw [upto_succ]
      rw [if_neg (fun h => by omega)]
      exact hO3
  · obtain rfl : k = 64 := by omega
    conv => whnf
    refine rofU_x hO hf ?_
    conv => whnf
    exact ⟨h, hO.le, hk⟩
theorem tup_eq {a b : Int} {e : Value} (h : a = b) : Value.tuple #[.int .u64 a, e] = .tuple #[.int .u64 b, e] := by rw [h]
theorem bitJ (w q : Nat) : (((bitN w q : Nat) : Int) == 1) = decide (bitN w q = 1) := by
  rw [Bool.eq_iff_iff]
  simp only [beq_iff_eq, decide_eq_true_eq]
  omega
theorem row_get {i : Nat} (hi : i < 98) : ∃ o : Nat, o = i + 1 ∧ rowsL[i]? = some ⟨o, fmtS.getD (fmtN ((i + 1 : Nat) : Int)) [], maskN i, isN i⟩ := by
  have hL : i < rowsL.length := by rw [rowsL_len]; exact hi
  have h1 := rowsL_op i hi
  have h2 := row_fmt ((i + 1 : Nat) : Int)
  unfold rowN at h2
  rw [if_pos (by omega), show ((i + 1 : Nat) : Int).toNat - 1 = i by omega] at h2
  have hx : rowsL[i]? = some rowsL[i] := List.getElem?_eq_getElem hL
  have g : rowsL.getD i ⟨0, [], 0, 0⟩ = rowsL[i] := by rw [List.getD_eq_getElem?_getD, hx]; rfl
  have h3 : rowsL[i].fmt = fmtS.getD (fmtN ((i + 1 : Nat) : Int)) [] := by rw [← g]; exact h2
  rw [g] at h1
  refine ⟨rowsL[i].op, h1, ?_⟩
  rw [hx, ← h3]
  unfold maskN isN
  rw [g]
theorem rfind5_x (i : Nat) (hi : i < 98) (f : Nat) (hf : fmtN ((i + 1 : Nat) : Int) = f) (hk : ∀ h', h.le h' → K (.agg #[.int .i64 ((i + 1 : Nat) : Int), .string (bs (fmtS.getD f [])), uv (maskN i), uv (isN i)]) h') : X Tryz.prog 33 #[.int .i64 ((i + 1 : Nat) : Int)] h K := by
  refine rfind3_x _ fun h' hle => ?_
  obtain ⟨o, ho, hr⟩ := row_get hi
  have e : rowN ((i + 1 : Nat) : Int) = ⟨o, fmtS.getD (fmtN ((i + 1 : Nat) : Int)) [], maskN i, isN i⟩ := by
    unfold rowN
    rw [if_pos (by omega), show ((i + 1 : Nat) : Int).toNat - 1 = i by omega, List.getD_eq_getElem?_getD, hr]
    rfl
  rw [e, hf, ho]
  exact hk h' hle
theorem rencode_x (x : Ins) (m1 : -9223372036854775808 ≤ x.m) (m2 : x.m ≤ 9223372036854775807) (hk : K (.tuple #[uv (if x.chk = 0 then encS x else 0), .int .i64 x.chk]) h) : X Tryz.prog 51 #[.agg x.cs.toArray] h K := by
  refine X.forget ?_
  by_cases hc : x.chk = 0
  rotate_left
  · rw [if_neg hc] at hk
    refine fnv (args := _) mixed rfXInsY2 [] [] Tryz.func51 rfl (by kernel_rfl) ?_; conv => whnf
    refine rcheck_x x.op x.a x.b x.c x.m x.s x.aq x.rl m1 m2 ?_
    rw [show checkF (fmtN x.op) x.a x.b x.c x.m x.s x.aq x.rl = x.chk from rfl]
    generalize x.chk = e at hc hk ⊢
    conv => whnf
    refine bsel_true (by simpa using hc) ?_; conv => whnf
    exact ⟨h, Hp.le_refl _, hk⟩
  rw [if_pos hc, hc] at hk
  obtain ⟨o1, o2, _, ha, hb, hc2, hs, _, _⟩ := chk_ok hc
  obtain ⟨i, hi⟩ : ∃ i : Nat, x.op = ((i + 1 : Nat) : Int) := ⟨x.op.toNat - 1, by omega⟩
  obtain ⟨a, ea⟩ : ∃ a : Nat, x.a = a := ⟨x.a.toNat, by omega⟩
  obtain ⟨b, eb⟩ : ∃ b : Nat, x.b = b := ⟨x.b.toNat, by omega⟩
  obtain ⟨c, ec⟩ : ∃ c : Nat, x.c = c := ⟨x.c.toNat, by omega⟩
  obtain ⟨s, es⟩ : ∃ s : Nat, x.s = s := ⟨x.s.toNat, by omega⟩
  have hil : i < 98 := by omega
  have hf15 := fmtN_lt x.op
  have hly := layN_lt32 (fmtN x.op) hf15 (u64N x.m)
  have hisl := (mask_lt i hil).2
  have he : encS x = isN i + layN (fmtN x.op) (u64N x.m) + 128 * a + 32768 * b + 1048576 * c + 1048576 * s + (if x.aq then 67108864 else 0) + (if x.rl then 33554432 else 0) := by
    unfold encS
    rw [ea, eb, ec, es, show x.op.toNat - 1 = i by omega]
    simp only [Int.toNat_natCast]
  rw [he] at hk
  clear he
  have hfx : fmtN ((i + 1 : Nat) : Int) = fmtN x.op := by rw [hi]
  refine fnv (args := _) mixed rfXInsY2 [] [] Tryz.func51 rfl (by kernel_rfl) ?_; conv => whnf
  refine rcheck_x x.op x.a x.b x.c x.m x.s x.aq x.rl m1 m2 ?_
  rw [show checkF (fmtN x.op) x.a x.b x.c x.m x.s x.aq x.rl = x.chk from rfl]
  rw [hc]
  conv => whnf
  rw [hi]
  refine rfind5_x i hil (fmtN x.op) hfx fun h1 le1 => ?_
  rw [← hi]
  conv => whnf
  refine rlay_x (fmtN x.op) hf15 x.m ?_
  generalize layN (fmtN x.op) (u64N x.m) = ly at hk hly ⊢
  generalize isN i = is at hk hisl ⊢
  refine ⟨trivial, ?_⟩; conv => whnf
  refine ov_u64 (by omega) ?_; conv => whnf
  rw [ea]
  refine ov_u64 (by omega) ?_; conv => whnf
  refine ov_u64 (by omega) ?_; conv => whnf
  refine ov_u64 (by omega) ?_; conv => whnf
  rw [eb]
  refine ov_u64 (by omega) ?_; conv => whnf
  refine ov_u64 (by omega) ?_; conv => whnf
  refine ov_u64 (by omega) ?_; conv => whnf
  rw [ec]
  refine ov_u64 (by omega) ?_; conv => whnf
  refine ov_u64 (by omega) ?_; conv => whnf
  refine ov_u64 (by omega) ?_; conv => whnf
  rw [es]
  refine ov_u64 (by omega) ?_; conv => whnf
  refine ov_u64 (by omega) ?_; conv => whnf
  refine ov_u64 (by omega) ?_; conv => whnf
  cases hq : x.aq with
  | true =>
    rw [hq] at hk
    conv => whnf
    refine ov_u64 (by omega) ?_; conv => whnf
    cases hr : x.rl with
    | true =>
      rw [hr] at hk
      conv => whnf
      refine ov_u64 (by omega) ?_; conv => whnf
      exact ⟨h, le1, kq hk (tup_eq (by first | (simp; done) | (simp; omega)))⟩
    | false =>
      rw [hr] at hk
      conv => whnf
      exact ⟨h, le1, kq hk (tup_eq (by first | (simp; done) | (simp; omega)))⟩
  | false =>
    rw [hq] at hk
    conv => whnf
    cases hr : x.rl with
    | true =>
      rw [hr] at hk
      conv => whnf
      refine ov_u64 (by omega) ?_; conv => whnf
      exact ⟨h, le1, kq hk (tup_eq (by first | (simp; done) | (simp; omega)))⟩
    | false =>
      rw [hr] at hk
      conv => whnf
      exact ⟨h, le1, kq hk (tup_eq (by first | (simp; done) | (simp; omega)))⟩
attribute [local irreducible] rowsL in
theorem rdecode_x (w : Nat) (hw : w < 2 ^ 32) (hk : K (decV w) h) : X Tryz.prog 18 #[uv w] h K := by
  refine X.forget ?_
  have hw64 : w < 2 ^ 64 := Nat.lt_trans hw (by decide)
  refine fnv (args := _) mixed rfXInsY3 [] [26, 37] Tryz.func18 rfl (by kernel_rfl) ?_; conv => whnf
  refine rrows_x fun b h1 le1 hb => ?_
  conv => whnf
  refine loop_at [5] [2] (fun r vs cs h' => h1 = h' ∧ cs = [some insn0] ∧ ∃ i : Nat, i ≤ 98 ∧ r = 98 - i ∧ vs = [.v (.int .i64 i)] ∧ ∀ j, j < i → ¬ hit w j) 98 ⟨rfl, rfl, 0, by omega, rfl, rfl, fun j hj => absurd hj (Nat.not_lt_zero _)⟩ ?_
  rintro r vs cs mm bx _ ⟨rfl, rfl, i, hi, rfl, rfl, hno⟩
  conv => whnf
  refine bsel_intro (fun q1 => ?_) (fun q1 => ?_) <;> try simp only [bsL] at q1
  · have hi98 : i < 98 := by omega
    obtain ⟨l1, l2⟩ := mask_lt i hi98
    obtain ⟨o, ho, hx⟩ := row_get hi98
    have c0 := rows_cell hx (k := 0) (by decide)
    have c1 := rows_cell hx (k := 1) (by decide)
    have c2 := rows_cell hx (k := 2) (by decide)
    have c3 := rows_cell hx (k := 3) (by decide)
    conv => whnf
    refine ⟨fun h' => h' = h1, rfl, ?_⟩
    conv => whnf
    (first | refine need_intro (⟨by omega, by omega⟩) ?_ | refine must.mk (⟨by omega, by omega⟩) ?_); conv => whnf
    refine ⟨_, loadCA (k := i * 4 + 2) (by rw [Int.toNat_natCast]; first | (simp [addr_add]; done) | (simp [addr_add]; kernel_rfl)) aggU64 hb c2, ?_⟩; conv => whnf
    refine masked_x w (maskN i) hw l1 ?_
    refine ⟨rfl, ?_⟩
    conv => whnf
    (first | refine need_intro (⟨by omega, by omega⟩) ?_ | refine must.mk (⟨by omega, by omega⟩) ?_); conv => whnf
    refine ⟨uv (isN i), fun h' e => by rw [e]; exact loadCA (k := i * 4 + 3) (by rw [Int.toNat_natCast]; first | (simp [addr_add]; done) | (simp [addr_add]; kernel_rfl)) aggU64 hb c3, ?_⟩
    conv => whnf
    by_cases hh : w &&& maskN i = isN i
    rotate_left
    · refine bsel_true (by simpa using fun e => hh (by exact_mod_cast e)) ?_; conv => whnf
      (first | refine ov_c (by simp only [loK, hiK]; omega) ?_ | refine ov_c (by decide) ?_); conv => whnf
      refine ⟨98 - (i + 1), by omega, rfl, rfl, i + 1, by omega, rfl, rfl, fun j hj => ?_⟩
      rcases Nat.lt_succ_iff_lt_or_eq.1 hj with hj | rfl
      · exact hno j hj
      · exact fun hx => hh hx.2
    have hht : hit w i := ⟨hi98, hh⟩
    unfold decV at hk
    rw [opOf_some hht] at hk
    have hl := fmtN_lt ((i + 1 : Nat) : Int)
    have h0 := fmt_ne i hi98
    have hk : K (.tuple #[.agg (decF (fmtN ((i + 1 : Nat) : Int)) w i).cs.toArray, .bool true]) h := hk
    refine bsel_false (by simpa using by exact_mod_cast hh) ?_; conv => whnf
    (first | refine need_intro (⟨by omega, by omega⟩) ?_ | refine must.mk (⟨by omega, by omega⟩) ?_); conv => whnf
    refine ⟨_, loadCA (k := i * 4 + 1) (by rw [Int.toNat_natCast]; first | (simp [addr_add]; done) | (simp [addr_add]; kernel_rfl)) aggStr hb c1, ?_⟩; conv => whnf
    refine ⟨fun h' => h' = h1, rfl, ?_⟩
    conv => whnf
    (first | refine need_intro (⟨by omega, by omega⟩) ?_ | refine must.mk (⟨by omega, by omega⟩) ?_); conv => whnf
    refine ⟨.int .i64 o, fun h' e => by rw [e]; exact loadCA (k := i * 4 + 0) (by rw [Int.toNat_natCast]; first | (simp [addr_add]; done) | (simp [addr_add]; kernel_rfl)) aggOp hb c0, ?_⟩
    conv => whnf
    rw [ho]
    generalize hf : fmtN ((i + 1 : Nat) : Int) = f at hl h0 hk ⊢
    match f, hf, hl, h0, hk with
    | 0, _, _, h0, _ => exact absurd rfl h0
    | 1, hf, _, _, hk =>
      have hk : K (.tuple #[.agg (Ins.cs ⟨((i + 1 : Nat) : Int), (w / 2 ^ 7 % 2 ^ 5 : Nat), (w / 2 ^ 15 % 2 ^ 5 : Nat), (w / 2 ^ 20 % 2 ^ 5 : Nat), i64N (immN 1 w), 0, false, false⟩).toArray, .bool true]) h := hk
      refine rimm_x 1 (by decide) w hw64 ?_
      refine ⟨rfl, ?_⟩
      conv => whnf
      refine has_x 1 (by decide) 0 (by decide) ?_
      conv => whnf
      refine rcut_x w 7 5 hw64 (by decide) (by decide) ?_
      have z0 : w / 2 ^ 7 % 2 ^ 5 < 2 ^ 5 := Nat.mod_lt _ (by decide)
      conv => whnf
      (first | refine ov_c (by simp only [loK, hiK]; omega) ?_ | refine ov_c (by decide) ?_); conv => whnf
      refine has_x 1 (by decide) 1 (by decide) ?_
      conv => whnf
      refine rcut_x w 15 5 hw64 (by decide) (by decide) ?_
      have z1 : w / 2 ^ 15 % 2 ^ 5 < 2 ^ 5 := Nat.mod_lt _ (by decide)
      conv => whnf
      (first | refine ov_c (by simp only [loK, hiK]; omega) ?_ | refine ov_c (by decide) ?_); conv => whnf
      refine has_x 1 (by decide) 2 (by decide) ?_
      conv => whnf
      refine rcut_x w 20 5 hw64 (by decide) (by decide) ?_
      have z2 : w / 2 ^ 20 % 2 ^ 5 < 2 ^ 5 := Nat.mod_lt _ (by decide)
      conv => whnf
      (first | refine ov_c (by simp only [loK, hiK]; omega) ?_ | refine ov_c (by decide) ?_); conv => whnf
      refine has_x 1 (by decide) 4 (by decide) ?_
      conv => whnf
      refine has_x 1 (by decide) 5 (by decide) ?_
      conv => whnf
      exact ⟨h, le1, hk⟩
    | 2, hf, _, _, hk =>
      have hk : K (.tuple #[.agg (Ins.cs ⟨((i + 1 : Nat) : Int), (w / 2 ^ 7 % 2 ^ 5 : Nat), (w / 2 ^ 15 % 2 ^ 5 : Nat), 0, i64N (immN 2 w), 0, false, false⟩).toArray, .bool true]) h := hk
      refine rimm_x 2 (by decide) w hw64 ?_
      refine ⟨rfl, ?_⟩
      conv => whnf
      refine has_x 2 (by decide) 0 (by decide) ?_
      conv => whnf
      refine rcut_x w 7 5 hw64 (by decide) (by decide) ?_
      have z0 : w / 2 ^ 7 % 2 ^ 5 < 2 ^ 5 := Nat.mod_lt _ (by decide)
      conv => whnf
      (first | refine ov_c (by simp only [loK, hiK]; omega) ?_ | refine ov_c (by decide) ?_); conv => whnf
      refine has_x 2 (by decide) 1 (by decide) ?_
      conv => whnf
      refine rcut_x w 15 5 hw64 (by decide) (by decide) ?_
      have z1 : w / 2 ^ 15 % 2 ^ 5 < 2 ^ 5 := Nat.mod_lt _ (by decide)
      conv => whnf
      (first | refine ov_c (by simp only [loK, hiK]; omega) ?_ | refine ov_c (by decide) ?_); conv => whnf
      refine has_x 2 (by decide) 2 (by decide) ?_
      conv => whnf
      refine has_x 2 (by decide) 4 (by decide) ?_
      conv => whnf
      refine has_x 2 (by decide) 5 (by decide) ?_
      conv => whnf
      exact ⟨h, le1, hk⟩
    | 3, hf, _, _, hk =>
      have hk : K (.tuple #[.agg (Ins.cs ⟨((i + 1 : Nat) : Int), 0, (w / 2 ^ 15 % 2 ^ 5 : Nat), (w / 2 ^ 20 % 2 ^ 5 : Nat), i64N (immN 3 w), 0, false, false⟩).toArray, .bool true]) h := hk
      refine rimm_x 3 (by decide) w hw64 ?_
      refine ⟨rfl, ?_⟩
      conv => whnf
      refine has_x 3 (by decide) 0 (by decide) ?_
      conv => whnf
      refine has_x 3 (by decide) 1 (by decide) ?_
      conv => whnf
      refine rcut_x w 15 5 hw64 (by decide) (by decide) ?_
      have z1 : w / 2 ^ 15 % 2 ^ 5 < 2 ^ 5 := Nat.mod_lt _ (by decide)
      conv => whnf
      (first | refine ov_c (by simp only [loK, hiK]; omega) ?_ | refine ov_c (by decide) ?_); conv => whnf
      refine has_x 3 (by decide) 2 (by decide) ?_
      conv => whnf
      refine rcut_x w 20 5 hw64 (by decide) (by decide) ?_
      have z2 : w / 2 ^ 20 % 2 ^ 5 < 2 ^ 5 := Nat.mod_lt _ (by decide)
      conv => whnf
      (first | refine ov_c (by simp only [loK, hiK]; omega) ?_ | refine ov_c (by decide) ?_); conv => whnf
      refine has_x 3 (by decide) 4 (by decide) ?_
      conv => whnf
      refine has_x 3 (by decide) 5 (by decide) ?_
      conv => whnf
      exact ⟨h, le1, hk⟩
    | 4, hf, _, _, hk =>
      have hk : K (.tuple #[.agg (Ins.cs ⟨((i + 1 : Nat) : Int), 0, (w / 2 ^ 15 % 2 ^ 5 : Nat), (w / 2 ^ 20 % 2 ^ 5 : Nat), i64N (immN 4 w), 0, false, false⟩).toArray, .bool true]) h := hk
      refine rimm_x 4 (by decide) w hw64 ?_
      refine ⟨rfl, ?_⟩
      conv => whnf
      refine has_x 4 (by decide) 0 (by decide) ?_
      conv => whnf
      refine has_x 4 (by decide) 1 (by decide) ?_
      conv => whnf
      refine rcut_x w 15 5 hw64 (by decide) (by decide) ?_
      have z1 : w / 2 ^ 15 % 2 ^ 5 < 2 ^ 5 := Nat.mod_lt _ (by decide)
      conv => whnf
      (first | refine ov_c (by simp only [loK, hiK]; omega) ?_ | refine ov_c (by decide) ?_); conv => whnf
      refine has_x 4 (by decide) 2 (by decide) ?_
      conv => whnf
      refine rcut_x w 20 5 hw64 (by decide) (by decide) ?_
      have z2 : w / 2 ^ 20 % 2 ^ 5 < 2 ^ 5 := Nat.mod_lt _ (by decide)
      conv => whnf
      (first | refine ov_c (by simp only [loK, hiK]; omega) ?_ | refine ov_c (by decide) ?_); conv => whnf
      refine has_x 4 (by decide) 4 (by decide) ?_
      conv => whnf
      refine has_x 4 (by decide) 5 (by decide) ?_
      conv => whnf
      exact ⟨h, le1, hk⟩
    | 5, hf, _, _, hk =>
      have hk : K (.tuple #[.agg (Ins.cs ⟨((i + 1 : Nat) : Int), (w / 2 ^ 7 % 2 ^ 5 : Nat), 0, 0, i64N (immN 5 w), 0, false, false⟩).toArray, .bool true]) h := hk
      refine rimm_x 5 (by decide) w hw64 ?_
      refine ⟨rfl, ?_⟩
      conv => whnf
      refine has_x 5 (by decide) 0 (by decide) ?_
      conv => whnf
      refine rcut_x w 7 5 hw64 (by decide) (by decide) ?_
      have z0 : w / 2 ^ 7 % 2 ^ 5 < 2 ^ 5 := Nat.mod_lt _ (by decide)
      conv => whnf
      (first | refine ov_c (by simp only [loK, hiK]; omega) ?_ | refine ov_c (by decide) ?_); conv => whnf
      refine has_x 5 (by decide) 1 (by decide) ?_
      conv => whnf
      refine has_x 5 (by decide) 2 (by decide) ?_
      conv => whnf
      refine has_x 5 (by decide) 4 (by decide) ?_
      conv => whnf
      refine has_x 5 (by decide) 5 (by decide) ?_
      conv => whnf
      exact ⟨h, le1, hk⟩
    | 6, hf, _, _, hk =>
      have hk : K (.tuple #[.agg (Ins.cs ⟨((i + 1 : Nat) : Int), (w / 2 ^ 7 % 2 ^ 5 : Nat), 0, 0, i64N (immN 6 w), 0, false, false⟩).toArray, .bool true]) h := hk
      refine rimm_x 6 (by decide) w hw64 ?_
      refine ⟨rfl, ?_⟩
      conv => whnf
      refine has_x 6 (by decide) 0 (by decide) ?_
      conv => whnf
      refine rcut_x w 7 5 hw64 (by decide) (by decide) ?_
      have z0 : w / 2 ^ 7 % 2 ^ 5 < 2 ^ 5 := Nat.mod_lt _ (by decide)
      conv => whnf
      (first | refine ov_c (by simp only [loK, hiK]; omega) ?_ | refine ov_c (by decide) ?_); conv => whnf
      refine has_x 6 (by decide) 1 (by decide) ?_
      conv => whnf
      refine has_x 6 (by decide) 2 (by decide) ?_
      conv => whnf
      refine has_x 6 (by decide) 4 (by decide) ?_
      conv => whnf
      refine has_x 6 (by decide) 5 (by decide) ?_
      conv => whnf
      exact ⟨h, le1, hk⟩
    | 7, hf, _, _, hk =>
      have hk : K (.tuple #[.agg (Ins.cs ⟨((i + 1 : Nat) : Int), (w / 2 ^ 7 % 2 ^ 5 : Nat), (w / 2 ^ 15 % 2 ^ 5 : Nat), 0, i64N (immN 7 w), 0, false, false⟩).toArray, .bool true]) h := hk
      refine rimm_x 7 (by decide) w hw64 ?_
      refine ⟨rfl, ?_⟩
      conv => whnf
      refine has_x 7 (by decide) 0 (by decide) ?_
      conv => whnf
      refine rcut_x w 7 5 hw64 (by decide) (by decide) ?_
      have z0 : w / 2 ^ 7 % 2 ^ 5 < 2 ^ 5 := Nat.mod_lt _ (by decide)
      conv => whnf
      (first | refine ov_c (by simp only [loK, hiK]; omega) ?_ | refine ov_c (by decide) ?_); conv => whnf
      refine has_x 7 (by decide) 1 (by decide) ?_
      conv => whnf
      refine rcut_x w 15 5 hw64 (by decide) (by decide) ?_
      have z1 : w / 2 ^ 15 % 2 ^ 5 < 2 ^ 5 := Nat.mod_lt _ (by decide)
      conv => whnf
      (first | refine ov_c (by simp only [loK, hiK]; omega) ?_ | refine ov_c (by decide) ?_); conv => whnf
      refine has_x 7 (by decide) 2 (by decide) ?_
      conv => whnf
      refine has_x 7 (by decide) 4 (by decide) ?_
      conv => whnf
      refine has_x 7 (by decide) 5 (by decide) ?_
      conv => whnf
      exact ⟨h, le1, hk⟩
    | 8, hf, _, _, hk =>
      have hk : K (.tuple #[.agg (Ins.cs ⟨((i + 1 : Nat) : Int), (w / 2 ^ 7 % 2 ^ 5 : Nat), (w / 2 ^ 15 % 2 ^ 5 : Nat), 0, i64N (immN 8 w), 0, false, false⟩).toArray, .bool true]) h := hk
      refine rimm_x 8 (by decide) w hw64 ?_
      refine ⟨rfl, ?_⟩
      conv => whnf
      refine has_x 8 (by decide) 0 (by decide) ?_
      conv => whnf
      refine rcut_x w 7 5 hw64 (by decide) (by decide) ?_
      have z0 : w / 2 ^ 7 % 2 ^ 5 < 2 ^ 5 := Nat.mod_lt _ (by decide)
      conv => whnf
      (first | refine ov_c (by simp only [loK, hiK]; omega) ?_ | refine ov_c (by decide) ?_); conv => whnf
      refine has_x 8 (by decide) 1 (by decide) ?_
      conv => whnf
      refine rcut_x w 15 5 hw64 (by decide) (by decide) ?_
      have z1 : w / 2 ^ 15 % 2 ^ 5 < 2 ^ 5 := Nat.mod_lt _ (by decide)
      conv => whnf
      (first | refine ov_c (by simp only [loK, hiK]; omega) ?_ | refine ov_c (by decide) ?_); conv => whnf
      refine has_x 8 (by decide) 2 (by decide) ?_
      conv => whnf
      refine has_x 8 (by decide) 4 (by decide) ?_
      conv => whnf
      refine has_x 8 (by decide) 5 (by decide) ?_
      conv => whnf
      exact ⟨h, le1, hk⟩
    | 9, hf, _, _, hk =>
      have hk : K (.tuple #[.agg (Ins.cs ⟨((i + 1 : Nat) : Int), (w / 2 ^ 7 % 2 ^ 5 : Nat), (w / 2 ^ 15 % 2 ^ 5 : Nat), 0, i64N (immN 9 w), (w / 2 ^ 20 % 2 ^ 12 : Nat), false, false⟩).toArray, .bool true]) h := hk
      refine rimm_x 9 (by decide) w hw64 ?_
      refine ⟨rfl, ?_⟩
      conv => whnf
      refine has_x 9 (by decide) 0 (by decide) ?_
      conv => whnf
      refine rcut_x w 7 5 hw64 (by decide) (by decide) ?_
      have z0 : w / 2 ^ 7 % 2 ^ 5 < 2 ^ 5 := Nat.mod_lt _ (by decide)
      conv => whnf
      (first | refine ov_c (by simp only [loK, hiK]; omega) ?_ | refine ov_c (by decide) ?_); conv => whnf
      refine has_x 9 (by decide) 1 (by decide) ?_
      conv => whnf
      refine rcut_x w 15 5 hw64 (by decide) (by decide) ?_
      have z1 : w / 2 ^ 15 % 2 ^ 5 < 2 ^ 5 := Nat.mod_lt _ (by decide)
      conv => whnf
      (first | refine ov_c (by simp only [loK, hiK]; omega) ?_ | refine ov_c (by decide) ?_); conv => whnf
      refine has_x 9 (by decide) 2 (by decide) ?_
      conv => whnf
      refine has_x 9 (by decide) 4 (by decide) ?_
      conv => whnf
      refine rcut_x w 20 12 hw64 (by decide) (by decide) ?_
      have z4 : w / 2 ^ 20 % 2 ^ 12 < 2 ^ 12 := Nat.mod_lt _ (by decide)
      conv => whnf
      (first | refine ov_c (by simp only [loK, hiK]; omega) ?_ | refine ov_c (by decide) ?_); conv => whnf
      refine has_x 9 (by decide) 5 (by decide) ?_
      conv => whnf
      exact ⟨h, le1, hk⟩
    | 10, hf, _, _, hk =>
      have hk : K (.tuple #[.agg (Ins.cs ⟨((i + 1 : Nat) : Int), (w / 2 ^ 7 % 2 ^ 5 : Nat), (w / 2 ^ 15 % 2 ^ 5 : Nat), 0, i64N (immN 10 w), (w / 2 ^ 20 % 2 ^ 12 : Nat), false, false⟩).toArray, .bool true]) h := hk
      refine rimm_x 10 (by decide) w hw64 ?_
      refine ⟨rfl, ?_⟩
      conv => whnf
      refine has_x 10 (by decide) 0 (by decide) ?_
      conv => whnf
      refine rcut_x w 7 5 hw64 (by decide) (by decide) ?_
      have z0 : w / 2 ^ 7 % 2 ^ 5 < 2 ^ 5 := Nat.mod_lt _ (by decide)
      conv => whnf
      (first | refine ov_c (by simp only [loK, hiK]; omega) ?_ | refine ov_c (by decide) ?_); conv => whnf
      refine has_x 10 (by decide) 1 (by decide) ?_
      conv => whnf
      refine rcut_x w 15 5 hw64 (by decide) (by decide) ?_
      have z1 : w / 2 ^ 15 % 2 ^ 5 < 2 ^ 5 := Nat.mod_lt _ (by decide)
      conv => whnf
      (first | refine ov_c (by simp only [loK, hiK]; omega) ?_ | refine ov_c (by decide) ?_); conv => whnf
      refine has_x 10 (by decide) 2 (by decide) ?_
      conv => whnf
      refine has_x 10 (by decide) 4 (by decide) ?_
      conv => whnf
      refine rcut_x w 20 12 hw64 (by decide) (by decide) ?_
      have z4 : w / 2 ^ 20 % 2 ^ 12 < 2 ^ 12 := Nat.mod_lt _ (by decide)
      conv => whnf
      (first | refine ov_c (by simp only [loK, hiK]; omega) ?_ | refine ov_c (by decide) ?_); conv => whnf
      refine has_x 10 (by decide) 5 (by decide) ?_
      conv => whnf
      exact ⟨h, le1, hk⟩
    | 11, hf, _, _, hk =>
      have hk : K (.tuple #[.agg (Ins.cs ⟨((i + 1 : Nat) : Int), (w / 2 ^ 7 % 2 ^ 5 : Nat), (w / 2 ^ 15 % 2 ^ 5 : Nat), (w / 2 ^ 20 % 2 ^ 5 : Nat), i64N (immN 11 w), 0, decide (bitN w 26 = 1), decide (bitN w 25 = 1)⟩).toArray, .bool true]) h := hk
      refine rimm_x 11 (by decide) w hw64 ?_
      refine ⟨rfl, ?_⟩
      conv => whnf
      refine has_x 11 (by decide) 0 (by decide) ?_
      conv => whnf
      refine rcut_x w 7 5 hw64 (by decide) (by decide) ?_
      have z0 : w / 2 ^ 7 % 2 ^ 5 < 2 ^ 5 := Nat.mod_lt _ (by decide)
      conv => whnf
      (first | refine ov_c (by simp only [loK, hiK]; omega) ?_ | refine ov_c (by decide) ?_); conv => whnf
      refine has_x 11 (by decide) 1 (by decide) ?_
      conv => whnf
      refine rcut_x w 15 5 hw64 (by decide) (by decide) ?_
      have z1 : w / 2 ^ 15 % 2 ^ 5 < 2 ^ 5 := Nat.mod_lt _ (by decide)
      conv => whnf
      (first | refine ov_c (by simp only [loK, hiK]; omega) ?_ | refine ov_c (by decide) ?_); conv => whnf
      refine has_x 11 (by decide) 2 (by decide) ?_
      conv => whnf
      refine rcut_x w 20 5 hw64 (by decide) (by decide) ?_
      have z2 : w / 2 ^ 20 % 2 ^ 5 < 2 ^ 5 := Nat.mod_lt _ (by decide)
      conv => whnf
      (first | refine ov_c (by simp only [loK, hiK]; omega) ?_ | refine ov_c (by decide) ?_); conv => whnf
      refine has_x 11 (by decide) 4 (by decide) ?_
      conv => whnf
      refine has_x 11 (by decide) 5 (by decide) ?_
      conv => whnf
      refine rbit_x w 26 hw64 (by decide) ?_
      conv => whnf
      refine rbit_x w 25 hw64 (by decide) ?_
      conv => whnf
      exact ⟨h, le1, kq hk (by rw [← bitJ w 26, ← bitJ w 25]; rfl)⟩
    | 12, hf, _, _, hk =>
      have hk : K (.tuple #[.agg (Ins.cs ⟨((i + 1 : Nat) : Int), (w / 2 ^ 7 % 2 ^ 5 : Nat), (w / 2 ^ 15 % 2 ^ 5 : Nat), 0, i64N (immN 12 w), 0, decide (bitN w 26 = 1), decide (bitN w 25 = 1)⟩).toArray, .bool true]) h := hk
      refine rimm_x 12 (by decide) w hw64 ?_
      refine ⟨rfl, ?_⟩
      conv => whnf
      refine has_x 12 (by decide) 0 (by decide) ?_
      conv => whnf
      refine rcut_x w 7 5 hw64 (by decide) (by decide) ?_
      have z0 : w / 2 ^ 7 % 2 ^ 5 < 2 ^ 5 := Nat.mod_lt _ (by decide)
      conv => whnf
      (first | refine ov_c (by simp only [loK, hiK]; omega) ?_ | refine ov_c (by decide) ?_); conv => whnf
      refine has_x 12 (by decide) 1 (by decide) ?_
      conv => whnf
      refine rcut_x w 15 5 hw64 (by decide) (by decide) ?_
      have z1 : w / 2 ^ 15 % 2 ^ 5 < 2 ^ 5 := Nat.mod_lt _ (by decide)
      conv => whnf
      (first | refine ov_c (by simp only [loK, hiK]; omega) ?_ | refine ov_c (by decide) ?_); conv => whnf
      refine has_x 12 (by decide) 2 (by decide) ?_
      conv => whnf
      refine has_x 12 (by decide) 4 (by decide) ?_
      conv => whnf
      refine has_x 12 (by decide) 5 (by decide) ?_
      conv => whnf
      refine rbit_x w 26 hw64 (by decide) ?_
      conv => whnf
      refine rbit_x w 25 hw64 (by decide) ?_
      conv => whnf
      exact ⟨h, le1, kq hk (by rw [← bitJ w 26, ← bitJ w 25]; rfl)⟩
    | 13, hf, _, _, hk =>
      have hk : K (.tuple #[.agg (Ins.cs ⟨((i + 1 : Nat) : Int), 0, 0, 0, i64N (immN 13 w), 0, false, false⟩).toArray, .bool true]) h := hk
      refine rimm_x 13 (by decide) w hw64 ?_
      refine ⟨rfl, ?_⟩
      conv => whnf
      refine has_x 13 (by decide) 0 (by decide) ?_
      conv => whnf
      refine has_x 13 (by decide) 1 (by decide) ?_
      conv => whnf
      refine has_x 13 (by decide) 2 (by decide) ?_
      conv => whnf
      refine has_x 13 (by decide) 4 (by decide) ?_
      conv => whnf
      refine has_x 13 (by decide) 5 (by decide) ?_
      conv => whnf
      exact ⟨h, le1, hk⟩
    | 14, hf, _, _, hk =>
      have hk : K (.tuple #[.agg (Ins.cs ⟨((i + 1 : Nat) : Int), 0, (w / 2 ^ 15 % 2 ^ 5 : Nat), (w / 2 ^ 20 % 2 ^ 5 : Nat), i64N (immN 14 w), 0, false, false⟩).toArray, .bool true]) h := hk
      refine rimm_x 14 (by decide) w hw64 ?_
      refine ⟨rfl, ?_⟩
      conv => whnf
      refine has_x 14 (by decide) 0 (by decide) ?_
      conv => whnf
      refine has_x 14 (by decide) 1 (by decide) ?_
      conv => whnf
      refine rcut_x w 15 5 hw64 (by decide) (by decide) ?_
      have z1 : w / 2 ^ 15 % 2 ^ 5 < 2 ^ 5 := Nat.mod_lt _ (by decide)
      conv => whnf
      (first | refine ov_c (by simp only [loK, hiK]; omega) ?_ | refine ov_c (by decide) ?_); conv => whnf
      refine has_x 14 (by decide) 2 (by decide) ?_
      conv => whnf
      refine rcut_x w 20 5 hw64 (by decide) (by decide) ?_
      have z2 : w / 2 ^ 20 % 2 ^ 5 < 2 ^ 5 := Nat.mod_lt _ (by decide)
      conv => whnf
      (first | refine ov_c (by simp only [loK, hiK]; omega) ?_ | refine ov_c (by decide) ?_); conv => whnf
      refine has_x 14 (by decide) 4 (by decide) ?_
      conv => whnf
      refine has_x 14 (by decide) 5 (by decide) ?_
      conv => whnf
      exact ⟨h, le1, hk⟩
    | f + 15, _, hl, _, _ => exact absurd hl (by omega)
  · have hn : opOf w = none := opOf_none fun j hj => hno j (by have := hj.1; omega) hj
    unfold decV at hk
    rw [hn] at hk
    conv => whnf
    exact ⟨h, le1, hk⟩
end
end Go.Proofs.YtlobclgbbhoeiaaGreatDoor
/-! Instructions as words: what is encoded is decoded, and what is decoded is encoded; the program's words are the document's: plain laws. -/
namespace Go.Proofs.YtlobclgbbhoeiaaGreatDoor
set_option linter.unusedSimpArgs false
set_option linter.unusedVariables false
open Go Go.Mid Go.RowKit Go.Bits
/-- The bits that a format's number may have. -/
def layM (f : Nat) : Nat := layP f 18446744073709551615
/-- The bits of an op's parts: fixed, the number, d, 1, 2, the CSR, the two marks. -/
def flds (i : Nat) : List Bool := fieldsL.getD (fmtN ((i + 1 : Nat) : Int)) []
def masks (i : Nat) : List Nat := [maskN i, layM (fmtN ((i + 1 : Nat) : Int)), if (flds i).getD 0 false then 31 * 2 ^ 7 else 0, if (flds i).getD 1 false then 31 * 2 ^ 15 else 0, if (flds i).getD 2 false then 31 * 2 ^ 20 else 0, if (flds i).getD 4 false then 4095 * 2 ^ 20 else 0, if (flds i).getD 5 false then 2 ^ 26 else 0, if (flds i).getD 5 false then 2 ^ 25 else 0]
def orL : List Nat → Nat
  | [] => 0
  | a :: l => a ||| orL l
/-- No two of them have a bit in common. -/
def apartL : List Nat → Bool
  | [] => true
  | a :: l => decide (a &&& orL l = 0) && apartL l
theorem masks_ok : ∀ i : Nat, i < 98 → apartL (masks i) = true ∧ orL (masks i) = 4294967295 := by decide +kernel
/-- Parts within their masks. -/
def within : List Nat → List Nat → Prop
  | [], [] => True
  | a :: l, m :: ms => a &&& m = a ∧ within l ms
  | _, _ => False
theorem within_or : ∀ {l ms : List Nat}, within l ms → orL l &&& orL ms = orL l
  | [], [], _ => rfl
  | a :: l, m :: ms, h => by
    obtain ⟨h1, h2⟩ := h
    have ih := within_or h2
    show (a ||| orL l) &&& (m ||| orL ms) = a ||| orL l
    refine Nat.eq_of_testBit_eq fun q => ?_
    have e1 := congrArg (fun x => x.testBit q) h1
    have e2 := congrArg (fun x => x.testBit q) ih
    simp only [Nat.testBit_and, Nat.testBit_or] at e1 e2 ⊢
    revert e1 e2
    cases a.testBit q <;> cases m.testBit q <;> cases (orL l).testBit q <;> cases (orL ms).testBit q <;> simp
  | [], _ :: _, h => h.elim
  | _ :: _, [], h => h.elim
theorem apart_sub {a l m ms : Nat} (h1 : a &&& m = a) (h2 : l &&& ms = l) (h : m &&& ms = 0) : a &&& l = 0 ∧ a &&& ms = 0 ∧ l &&& m = 0 := by
  have e : ∀ q, (a &&& l).testBit q = false ∧ (a &&& ms).testBit q = false ∧ (l &&& m).testBit q = false := fun q => by
    have e1 := congrArg (fun x => x.testBit q) h1
    have e2 := congrArg (fun x => x.testBit q) h2
    have e3 := congrArg (fun x => x.testBit q) h
    simp only [Nat.testBit_and, Nat.zero_testBit] at e1 e2 e3 ⊢
    revert e1 e2 e3
    cases a.testBit q <;> cases m.testBit q <;> cases l.testBit q <;> cases ms.testBit q <;> simp
  exact ⟨Nat.eq_of_testBit_eq fun q => by rw [(e q).1, Nat.zero_testBit], Nat.eq_of_testBit_eq fun q => by rw [(e q).2.1, Nat.zero_testBit], Nat.eq_of_testBit_eq fun q => by rw [(e q).2.2, Nat.zero_testBit]⟩
theorem add_or {a b : Nat} (h : a &&& b = 0) : a + b = a ||| b := by
  obtain ⟨n, ha, hb⟩ : ∃ n, a < 2 ^ n ∧ b < 2 ^ n := ⟨a + b, Nat.lt_of_lt_of_le (Nat.lt_two_pow_self) (Nat.pow_le_pow_right (by decide) (by omega)), Nat.lt_of_lt_of_le (Nat.lt_two_pow_self) (Nat.pow_le_pow_right (by decide) (by omega))⟩
  have := BitVec.add_eq_or_of_and_eq_zero (BitVec.ofNat (n + 1) a) (BitVec.ofNat (n + 1) b) (by
    apply BitVec.eq_of_toNat_eq
    rw [BitVec.toNat_and, BitVec.toNat_ofNat, BitVec.toNat_ofNat]
    rw [Nat.mod_eq_of_lt (by rw [Nat.pow_succ]; omega), Nat.mod_eq_of_lt (by rw [Nat.pow_succ]; omega), h]; rfl)
  have e := congrArg BitVec.toNat this
  rw [BitVec.toNat_add, BitVec.toNat_or, BitVec.toNat_ofNat, BitVec.toNat_ofNat, Nat.mod_eq_of_lt (a := a) (by rw [Nat.pow_succ]; omega), Nat.mod_eq_of_lt (a := b) (by rw [Nat.pow_succ]; omega), Nat.mod_eq_of_lt (by rw [Nat.pow_succ]; omega)] at e
  exact e
theorem sum_or : ∀ {l ms : List Nat}, within l ms → apartL ms = true → l.sum = orL l
  | [], [], _, _ => rfl
  | a :: l, m :: ms, h, hp => by
    simp only [apartL, Bool.and_eq_true, decide_eq_true_eq] at hp
    rw [List.sum_cons, sum_or h.2 hp.2]
    exact add_or (apart_sub h.1 (within_or h.2) hp.1).1
  | [], _ :: _, h, _ => h.elim
  | _ :: _, [], h, _ => h.elim
/-- A part, out of all. -/
theorem part_of : ∀ {l ms : List Nat} (k : Nat), within l ms → apartL ms = true → orL l &&& ms.getD k 0 = l.getD k 0
  | [], [], k, _, _ => by simp [orL]
  | a :: l, m :: ms, k, h, hp => by
    simp only [apartL, Bool.and_eq_true, decide_eq_true_eq] at hp
    have hs := apart_sub h.1 (within_or h.2) hp.1
    have dist : ∀ x y z : Nat, (x ||| y) &&& z = (x &&& z) ||| (y &&& z) := fun x y z => Nat.and_or_distrib_right x y z
    cases k with
    | zero =>
      show (a ||| orL l) &&& m = a
      rw [dist, h.1, hs.2.2, Nat.or_zero]
    | succ k =>
      show (a ||| orL l) &&& ms.getD k 0 = l.getD k 0
      rw [dist, part_of k h.2 hp.2]
      have : a &&& ms.getD k 0 = 0 := by
        have hsub : ∀ (ms : List Nat) (k : Nat), ms.getD k 0 &&& orL ms = ms.getD k 0 := fun ms => by
          induction ms with
          | nil => intro k; simp
          | cons m ms ih =>
            intro k
            cases k with
            | zero =>
              show m &&& (m ||| orL ms) = m
              refine Nat.eq_of_testBit_eq fun q => ?_
              simp only [Nat.testBit_and, Nat.testBit_or]
              cases m.testBit q <;> simp
            | succ k =>
              show ms.getD k 0 &&& (m ||| orL ms) = ms.getD k 0
              have := ih k
              refine Nat.eq_of_testBit_eq fun q => ?_
              have e := congrArg (fun x => x.testBit q) this
              simp only [Nat.testBit_and, Nat.testBit_or] at e ⊢
              revert e
              cases (ms.getD k 0).testBit q <;> cases m.testBit q <;> cases (orL ms).testBit q <;> simp
        have hk := hsub ms k
        have h0 := hs.2.1
        refine Nat.eq_of_testBit_eq fun q => ?_
        have e1 := congrArg (fun x => x.testBit q) hk
        have e2 := congrArg (fun x => x.testBit q) h0
        simp only [Nat.testBit_and, Nat.zero_testBit] at e1 e2 ⊢
        revert e1 e2
        cases a.testBit q <;> cases (ms.getD k 0).testBit q <;> cases (orL ms).testBit q <;> simp
      rw [this, Nat.zero_or]
  | [], _ :: _, _, h, _ => h.elim
  | _ :: _, [], _, h, _ => h.elim
theorem mask_part {v s a : Nat} (h : v < 2 ^ s) : v * 2 ^ a &&& (2 ^ s - 1) * 2 ^ a = v * 2 ^ a := by
  rw [← Nat.shiftLeft_eq, ← Nat.shiftLeft_eq, ← Nat.shiftLeft_and_distrib, Nat.and_two_pow_sub_one_eq_mod, Nat.mod_eq_of_lt h]
theorem and_field (w s a : Nat) : w &&& (2 ^ s - 1) * 2 ^ a = w / 2 ^ a % 2 ^ s * 2 ^ a := by
  refine Nat.eq_of_testBit_eq fun q => ?_
  refine test_bit ?_
  rw [and_bit, bit_mul, bit_mul, bit_mod, bit_div]
  by_cases h : a ≤ q
  · rw [if_pos h, if_pos h, show a + (q - a) = q by omega]
    have : bitN (2 ^ s - 1) (q - a) = if q - a < s then 1 else 0 := by
      rw [bit_eq, Nat.testBit_two_pow_sub_one]
      split <;> rename_i h2 <;> simp [h2]
    rw [this]
    have hl := bitN_lt w q
    split <;> omega
  · rw [if_neg h, if_neg h]; simp
theorem ones_bit (j : Nat) (h : j < 64) : bitN 18446744073709551615 j = 1 := by
  rw [show (18446744073709551615 : Nat) = 2 ^ 64 - 1 from rfl, bit_eq, Nat.testBit_two_pow_sub_one, decide_eq_true h]; rfl
theorem lay_src : ∀ f : Nat, f < 15 → ∀ q : Nat, q < 32 → ∀ j ∈ (layL f).filterMap (covers q), j < 64 := by decide
theorem layM_bit (f : Nat) (hf : f < 15) (q : Nat) (hq : q < 32) : bitN (layM f) q = if (layL f).filterMap (covers q) = [] then 0 else 1 := by
  unfold layM layP
  rw [orP_bit]
  have hs := lay_src f hf q hq
  cases hl : (layL f).filterMap (covers q) with
  | nil => rfl
  | cons j l =>
    rw [if_neg (by simp)]
    show max (bitN _ j) _ = 1
    rw [ones_bit j (hs j (by rw [hl]; simp))]
    have : ∀ l : List Nat, mx 18446744073709551615 l < 2 := fun l => by
      induction l with
      | nil => decide
      | cons a l ih =>
        show max (bitN _ a) _ < 2
        have := bitN_lt 18446744073709551615 a
        omega
    have := this l
    omega
theorem lay_within (f : Nat) (hf : f < 15) (u : Nat) : layN f u &&& layM f = layN f u := by
  have hlt := layN_lt32 f hf u
  refine eq_bits (n := 32) (Nat.lt_of_le_of_lt Nat.and_le_left hlt) hlt fun q hq => ?_
  rw [and_bit, layM_bit f hf q hq]
  split
  · rename_i h
    rw [← lay_eq f hf, layP, orP_bit, h]; rfl
  · have := bitN_lt (layN f u) q
    omega
/-- The places of a number's bits lie in its mask. -/
theorem place_in : ∀ f : Nat, f < 15 → ∀ p ∈ placesL f, 0 ≤ p → (p < 32 ∧ (layL f).filterMap (covers p.toNat) ≠ []) := by decide +kernel
theorem immN_and (f : Nat) (hf : f < 15) (w : Nat) : immN f (w &&& layM f) = immN f w := by
  have e : immBits (placesL f) (w &&& layM f) = immBits (placesL f) w := by
    unfold immBits
    refine List.map_congr_left fun p hp => ?_
    split
    · rename_i h0
      obtain ⟨h1, h2⟩ := place_in f hf p hp h0
      rw [and_bit, layM_bit f hf _ (by omega), if_neg h2]
      have := bitN_lt w p.toNat
      omega
    · rfl
  unfold immN
  rw [e]
theorem immN_lt (f : Nat) (hf : f < 15) (w : Nat) : immN f w < 2 ^ 64 := by
  unfold immN
  split
  · exact sign_lt _ _
  · have h1 := immBits_lt (placesL f) w
    have h2 := (pl_lt f hf).1
    exact Nat.lt_of_lt_of_le h1 (Nat.pow_le_pow_right (by decide) (by omega))
theorem immN_bit (f : Nat) (hf : f < 15) (w k : Nat) (hk : k < (placesL f).length) : bitN (immN f w) k = mx w (bitAt (placesL f) k) := by
  have h2 := (pl_lt f hf).1
  unfold immN
  split
  · rw [sign_bit, if_pos (by omega), if_pos hk, immBits_at]
  · rw [immBits_at]
theorem u64_i64 (v : Nat) (h : v < 2 ^ 64) : u64N (i64N v) = v := by
  unfold u64N i64N
  split <;> omega
theorem i64_rng (v : Nat) (h : v < 2 ^ 64) : -9223372036854775808 ≤ i64N v ∧ i64N v ≤ 9223372036854775807 := by
  unfold i64N
  split <;> omega
theorem place_back : ∀ f : Nat, f < 15 → ∀ q : Nat, q < 32 → ((placeOf (placesL f) q = [] ∧ (layL f).filterMap (covers q) = []) ∨ ∃ j, j < (placesL f).length ∧ placeOf (placesL f) q = [j] ∧ bitAt (placesL f) j = [q] ∧ (layL f).filterMap (covers q) ≠ []) := by
  have key : ((List.range 15).all fun f => (List.range 32).all fun q => decide (placeOf (placesL f) q = [] ∧ (layL f).filterMap (covers q) = []) || (List.range (placesL f).length).any fun j => decide (placeOf (placesL f) q = [j] ∧ bitAt (placesL f) j = [q] ∧ (layL f).filterMap (covers q) ≠ [])) = true := by decide +kernel
  intro f hf q hq
  have := List.all_eq_true.1 (List.all_eq_true.1 key f (List.mem_range.2 hf)) q (List.mem_range.2 hq)
  rw [Bool.or_eq_true, decide_eq_true_eq, List.any_eq_true] at this
  rcases this with h | ⟨j, hj, h⟩
  · exact .inl h
  · exact .inr ⟨j, List.mem_range.1 hj, of_decide_eq_true h⟩
/-- A number that was read is laid as it stood. -/
theorem lay_imm (f : Nat) (hf : f < 15) (w : Nat) : layN f (u64N (i64N (immN f w))) = w &&& layM f := by
  rw [u64_i64 _ (immN_lt f hf w)]
  have hlt := layN_lt32 f hf (immN f w)
  have hm : layM f < 2 ^ 32 := orP_lt _ _ (layL_ok f hf).1
  refine eq_bits (n := 32) hlt (Nat.and_lt_two_pow _ hm) fun q hq => ?_
  rw [and_bit, layM_bit f hf q hq]
  unfold layN
  rw [layN_bit _ _ (layL_ok f hf).2.2 q (by omega)]
  rcases place_back f hf q hq with ⟨h1, h2⟩ | ⟨j, hj, h1, h2, h3⟩
  · rw [h1, h2, if_pos rfl]; simp [mx]
  · rw [h1, if_neg h3]
    show max (bitN (immN f w) j) 0 = _
    rw [immN_bit f hf w j hj, h2]
    show max (max (bitN w q) 0) 0 = _
    have := bitN_lt w q
    omega
/-- What was read can stand so. -/
theorem fits_imm (f : Nat) (hf : f < 15) (w : Nat) : fitsN f (i64N (immN f w)) = true := by
  have hr := i64_rng _ (immN_lt f hf w)
  have e : i64N (immN f (layN f (u64N (i64N (immN f w))))) = i64N (immN f w) := by rw [lay_imm f hf, immN_and f hf]
  rw [fits_eq]
  match f, hf, e, hr with
  | 0, _, _, _ => rfl
  | 1, _, _, _ => rfl
  | 2, _, e, hr => exact (imm_lay2 _ hr.1 hr.2).1 e
  | 3, _, e, hr => exact (imm_lay3 _ hr.1 hr.2).1 e
  | 4, _, e, hr => exact (imm_lay4 _ hr.1 hr.2).1 e
  | 5, _, e, hr => exact (imm_lay5 _ hr.1 hr.2).1 e
  | 6, _, e, hr => exact (imm_lay6 _ hr.1 hr.2).1 e
  | 7, _, e, hr => exact (imm_lay7 _ hr.1 hr.2).1 e
  | 8, _, e, hr => exact (imm_lay8 _ hr.1 hr.2).1 e
  | f + 9, _, _, _ => rfl
/-- The parts of an instruction's word. -/
def partsX (x : Ins) : List Nat := [isN (x.op.toNat - 1), layN (fmtN x.op) (u64N x.m), x.a.toNat * 2 ^ 7, x.b.toNat * 2 ^ 15, x.c.toNat * 2 ^ 20, x.s.toNat * 2 ^ 20, if x.aq then 2 ^ 26 else 0, if x.rl then 2 ^ 25 else 0]
theorem encW_or (x : Ins) : encW x = orL (partsX x) := by
  unfold encW partsX orL orL orL orL orL orL orL orL orL
  simp only [Nat.or_zero, Nat.or_assoc]
  cases x.aq <;> cases x.rl <;> simp [Nat.or_assoc]
theorem encS_sum (x : Ins) : encS x = (partsX x).sum := by
  have h7 : x.a.toNat * 2 ^ 7 = 128 * x.a.toNat := Nat.mul_comm _ _
  have h15 : x.b.toNat * 2 ^ 15 = 32768 * x.b.toNat := Nat.mul_comm _ _
  have h20 : ∀ n : Nat, n * 2 ^ 20 = 1048576 * n := fun n => Nat.mul_comm _ _
  have h26 : (if x.aq = true then 2 ^ 26 else 0) = if x.aq = true then 67108864 else 0 := rfl
  have h25 : (if x.rl = true then 2 ^ 25 else 0) = if x.rl = true then 33554432 else 0 := rfl
  unfold encS partsX
  rw [h7, h15, h20, h20, h26, h25]
  generalize isN (x.op.toNat - 1) = p0
  generalize layN (fmtN x.op) (u64N x.m) = p1
  generalize (if x.aq = true then 67108864 else 0) = p6
  generalize (if x.rl = true then 33554432 else 0) = p7
  simp only [List.sum_cons, List.sum_nil, Nat.add_zero, Nat.add_assoc]
theorem bad_fld {fl : List Bool} {a b c m s : Int} {aq rl : Bool} (h : ¬ badF fl a b c m s aq rl) (h6 : fl.length = 6) : (fl.getD 0 false = false → a = 0) ∧ (fl.getD 1 false = false → b = 0) ∧ (fl.getD 2 false = false → c = 0) ∧ (fl.getD 3 false = false → m = 0) ∧ (fl.getD 4 false = false → s = 0) ∧ (fl.getD 5 false = false → aq = false ∧ rl = false) := by
  match fl, h6 with
  | [x0, x1, x2, x3, x4, x5], _ =>
    unfold badF at h
    simp only [List.getD_cons_zero, List.getD_cons_succ] at h ⊢
    refine ⟨fun e => ?_, fun e => ?_, fun e => ?_, fun e => ?_, fun e => ?_, fun e => ?_⟩
    · by_cases hz : a = 0
      · exact hz
      · exact absurd (.inl ⟨e, hz⟩) h
    · by_cases hz : b = 0
      · exact hz
      · exact absurd (.inr (.inl ⟨e, hz⟩)) h
    · by_cases hz : c = 0
      · exact hz
      · exact absurd (.inr (.inr (.inl ⟨e, hz⟩))) h
    · by_cases hz : m = 0
      · exact hz
      · exact absurd (.inr (.inr (.inr (.inl ⟨e, hz⟩)))) h
    · by_cases hz : s = 0
      · exact hz
      · exact absurd (.inr (.inr (.inr (.inr (.inl ⟨e, hz⟩))))) h
    · cases haq : aq with
      | true => exact absurd (.inr (.inr (.inr (.inr (.inr ⟨e, .inl haq⟩))))) h
      | false =>
        cases hrl : rl with
        | true => exact absurd (.inr (.inr (.inr (.inr (.inr ⟨e, .inr hrl⟩))))) h
        | false => exact ⟨rfl, rfl⟩
theorem flds_len : ∀ f : Nat, f < 15 → (fieldsL.getD f []).length = 6 := by decide
theorem is_within : ∀ i : Nat, i < 98 → isN i &&& maskN i = isN i := by decide +kernel
theorem if_mask {b : Bool} {v m : Nat} (h : b = false → v = 0) (h2 : v &&& m = v) : v &&& (if b then m else 0) = v := by
  cases b with
  | true => exact h2
  | false => rw [h rfl]; simp
theorem parts_within {x : Ins} (h : x.chk = 0) {i : Nat} (hi : x.op = ((i + 1 : Nat) : Int)) (hil : i < 98) : within (partsX x) (masks i) := by
  obtain ⟨_, _, _, ha, hb, hc, hs, _, hbad⟩ := chk_ok h
  have hf15 := fmtN_lt x.op
  obtain ⟨z0, z1, z2, _, z4, z5⟩ := bad_fld hbad (flds_len _ hf15)
  have hfl : flds i = fieldsL.getD (fmtN x.op) [] := by unfold flds; rw [hi]
  rw [← hfl] at z0 z1 z2 z4 z5
  unfold partsX masks
  rw [← hi, show x.op.toNat - 1 = i by omega]
  refine ⟨is_within i hil, lay_within _ hf15 _, if_mask (fun e => by rw [z0 e]; rfl) (mask_part (s := 5) (by omega)), if_mask (fun e => by rw [z1 e]; rfl) (mask_part (s := 5) (by omega)), if_mask (fun e => by rw [z2 e]; rfl) (mask_part (s := 5) (by omega)), if_mask (fun e => by rw [z4 e]; rfl) (mask_part (s := 12) (by omega)), if_mask (fun e => by rw [(z5 e).1]; rfl) ?_, if_mask (fun e => by rw [(z5 e).2]; rfl) ?_, trivial⟩
  · cases x.aq <;> decide
  · cases x.rl <;> decide
/-- **The program's word is the document's.** -/
theorem enc_eq {x : Ins} (h : x.chk = 0) : encS x = encW x := by
  obtain ⟨o1, o2, _⟩ := chk_ok h
  obtain ⟨i, hi⟩ : ∃ i : Nat, x.op = ((i + 1 : Nat) : Int) := ⟨x.op.toNat - 1, by omega⟩
  have hil : i < 98 := by omega
  rw [encS_sum, encW_or]
  exact sum_or (parts_within h hi hil) (masks_ok i hil).1
theorem orL_lt : ∀ {l ms : List Nat}, within l ms → orL ms = 4294967295 → orL l < 2 ^ 32 := fun {l ms} h e => by
  have := within_or h
  rw [e] at this
  have h2 : orL l &&& 4294967295 ≤ 4294967295 := Nat.and_le_right
  omega
theorem enc_lt {x : Ins} (h : x.chk = 0) : encW x < 2 ^ 32 := by
  obtain ⟨o1, o2, _⟩ := chk_ok h
  obtain ⟨i, hi⟩ : ∃ i : Nat, x.op = ((i + 1 : Nat) : Int) := ⟨x.op.toNat - 1, by omega⟩
  have hil : i < 98 := by omega
  rw [encW_or]
  exact orL_lt (parts_within h hi hil) (masks_ok i hil).2
/-- The instruction of a word, field by field. -/
theorem decF_flds (w i : Nat) (hi : i < 98) : decI w i = ⟨((i + 1 : Nat) : Int), if (flds i).getD 0 false then ((w / 2 ^ 7 % 2 ^ 5 : Nat) : Int) else 0, if (flds i).getD 1 false then ((w / 2 ^ 15 % 2 ^ 5 : Nat) : Int) else 0, if (flds i).getD 2 false then ((w / 2 ^ 20 % 2 ^ 5 : Nat) : Int) else 0, i64N (immN (fmtN ((i + 1 : Nat) : Int)) w), if (flds i).getD 4 false then ((w / 2 ^ 20 % 2 ^ 12 : Nat) : Int) else 0, (flds i).getD 5 false && decide (bitN w 26 = 1), (flds i).getD 5 false && decide (bitN w 25 = 1)⟩ := by
  unfold decI flds
  have hl := fmtN_lt ((i + 1 : Nat) : Int)
  have h0 := fmt_ne i hi
  generalize fmtN ((i + 1 : Nat) : Int) = f at *
  match f, hl, h0 with
  | 0, _, h0 => exact absurd rfl h0
  | 1, _, _ => rfl
  | 2, _, _ => rfl
  | 3, _, _ => rfl
  | 4, _, _ => rfl
  | 5, _, _ => rfl
  | 6, _, _ => rfl
  | 7, _, _ => rfl
  | 8, _, _ => rfl
  | 9, _, _ => rfl
  | 10, _, _ => rfl
  | 11, _, _ => rfl
  | 12, _, _ => rfl
  | 13, _, _ => rfl
  | 14, _, _ => rfl
  | f + 15, hl, _ => exact absurd hl (by omega)
theorem and_bit1 (w q : Nat) : w &&& 2 ^ q = bitN w q * 2 ^ q := by
  have := and_field w 1 q
  rw [show (2 ^ 1 - 1) * 2 ^ q = 2 ^ q by omega] at this
  rw [this]; rfl
theorem if_part {b : Bool} {w m v : Nat} (h : w &&& (if b then m else 0) = v) (hb : b = true) : w &&& m = v := by rw [hb] at h; exact h
theorem fits_rng {f : Nat} {m : Int} (h : 2 ≤ f ∧ f ≤ 8) (hf : Go.Bits.fits f m = true) : -9223372036854775808 ≤ m ∧ m ≤ 9223372036854775807 := by
  have hcs : f = 2 ∨ f = 3 ∨ f = 4 ∨ f = 5 ∨ f = 6 ∨ f = 7 ∨ f = 8 := by omega
  rcases hcs with rfl | rfl | rfl | rfl | rfl | rfl | rfl <;> (have hf := of_decide_eq_true hf; omega)
/-- **What was encoded is decoded.** -/
theorem dec_enc {x : Ins} (h : x.chk = 0) : ∃ i, i < 98 ∧ x.op = ((i + 1 : Nat) : Int) ∧ opOf (encW x) = some i ∧ decI (encW x) i = x := by
  obtain ⟨o1, o2, _, ha, hb, hc, hs, hfit, hbad⟩ := chk_ok h
  obtain ⟨i, hi⟩ : ∃ i : Nat, x.op = ((i + 1 : Nat) : Int) := ⟨x.op.toNat - 1, by omega⟩
  have hil : i < 98 := by omega
  have hf15 := fmtN_lt x.op
  obtain ⟨z0, z1, z2, z3, z4, z5⟩ := bad_fld hbad (flds_len _ hf15)
  have hfl : flds i = fieldsL.getD (fmtN x.op) [] := by unfold flds; rw [hi]
  rw [← hfl] at z0 z1 z2 z3 z4 z5
  have hw := parts_within h hi hil
  have hp := (masks_ok i hil).1
  have hpart := fun k => part_of k hw hp
  rw [← encW_or] at hpart
  have hhit : hit (encW x) i := ⟨hil, by
    have := hpart 0
    rw [show (partsX x).getD 0 0 = isN (x.op.toNat - 1) from rfl, show x.op.toNat - 1 = i by omega] at this
    exact this⟩
  refine ⟨i, hil, hi, opOf_some hhit, ?_⟩
  rw [decF_flds _ i hil]
  have pa : (if (flds i).getD 0 false then ((encW x / 2 ^ 7 % 2 ^ 5 : Nat) : Int) else 0) = x.a := by
    cases hq : (flds i).getD 0 false with
    | false => rw [z0 hq]; rfl
    | true =>
      have h1 := if_part (hpart 2) hq
      rw [show (31 : Nat) * 2 ^ 7 = (2 ^ 5 - 1) * 2 ^ 7 from rfl, and_field] at h1
      have h2 : encW x / 2 ^ 7 % 2 ^ 5 * 2 ^ 7 = x.a.toNat * 2 ^ 7 := h1
      rw [if_pos rfl, Nat.eq_of_mul_eq_mul_right (Nat.pow_pos (by decide)) h2]; exact Int.toNat_of_nonneg ha.1
  have pb : (if (flds i).getD 1 false then ((encW x / 2 ^ 15 % 2 ^ 5 : Nat) : Int) else 0) = x.b := by
    cases hq : (flds i).getD 1 false with
    | false => rw [z1 hq]; rfl
    | true =>
      have h1 := if_part (hpart 3) hq
      rw [show (31 : Nat) * 2 ^ 15 = (2 ^ 5 - 1) * 2 ^ 15 from rfl, and_field] at h1
      have h2 : encW x / 2 ^ 15 % 2 ^ 5 * 2 ^ 15 = x.b.toNat * 2 ^ 15 := h1
      rw [if_pos rfl, Nat.eq_of_mul_eq_mul_right (Nat.pow_pos (by decide)) h2]; exact Int.toNat_of_nonneg hb.1
  have pc : (if (flds i).getD 2 false then ((encW x / 2 ^ 20 % 2 ^ 5 : Nat) : Int) else 0) = x.c := by
    cases hq : (flds i).getD 2 false with
    | false => rw [z2 hq]; rfl
    | true =>
      have h1 := if_part (hpart 4) hq
      rw [show (31 : Nat) * 2 ^ 20 = (2 ^ 5 - 1) * 2 ^ 20 from rfl, and_field] at h1
      have h2 : encW x / 2 ^ 20 % 2 ^ 5 * 2 ^ 20 = x.c.toNat * 2 ^ 20 := h1
      rw [if_pos rfl, Nat.eq_of_mul_eq_mul_right (Nat.pow_pos (by decide)) h2]; exact Int.toNat_of_nonneg hc.1
  have ps : (if (flds i).getD 4 false then ((encW x / 2 ^ 20 % 2 ^ 12 : Nat) : Int) else 0) = x.s := by
    cases hq : (flds i).getD 4 false with
    | false => rw [z4 hq]; rfl
    | true =>
      have h1 := if_part (hpart 5) hq
      rw [show (4095 : Nat) * 2 ^ 20 = (2 ^ 12 - 1) * 2 ^ 20 from rfl, and_field] at h1
      have h2 : encW x / 2 ^ 20 % 2 ^ 12 * 2 ^ 20 = x.s.toNat * 2 ^ 20 := h1
      rw [if_pos rfl, Nat.eq_of_mul_eq_mul_right (Nat.pow_pos (by decide)) h2]; exact Int.toNat_of_nonneg hs.1
  have pq : ((flds i).getD 5 false && decide (bitN (encW x) 26 = 1)) = x.aq := by
    cases hq : (flds i).getD 5 false with
    | false => rw [(z5 hq).1]; rfl
    | true =>
      have h1 := if_part (hpart 6) hq
      rw [and_bit1] at h1
      have h2 : bitN (encW x) 26 * 2 ^ 26 = if x.aq then 2 ^ 26 else 0 := h1
      cases hx : x.aq with
      | true =>
        rw [hx, if_pos rfl] at h2
        have h3 : bitN (encW x) 26 = 1 := Nat.eq_of_mul_eq_mul_right (Nat.pow_pos (show 0 < 2 by decide)) (h2.trans (Nat.one_mul _).symm)
        rw [h3]; rfl
      | false =>
        rw [hx, if_neg (by decide)] at h2
        have h3 : bitN (encW x) 26 = 0 := Nat.eq_of_mul_eq_mul_right (Nat.pow_pos (show 0 < 2 by decide)) (h2.trans (Nat.zero_mul _).symm)
        rw [h3]; rfl
  have pr : ((flds i).getD 5 false && decide (bitN (encW x) 25 = 1)) = x.rl := by
    cases hq : (flds i).getD 5 false with
    | false => rw [(z5 hq).2]; rfl
    | true =>
      have h1 := if_part (hpart 7) hq
      rw [and_bit1] at h1
      have h2 : bitN (encW x) 25 * 2 ^ 25 = if x.rl then 2 ^ 25 else 0 := h1
      cases hx : x.rl with
      | true =>
        rw [hx, if_pos rfl] at h2
        have h3 : bitN (encW x) 25 = 1 := Nat.eq_of_mul_eq_mul_right (Nat.pow_pos (show 0 < 2 by decide)) (h2.trans (Nat.one_mul _).symm)
        rw [h3]; rfl
      | false =>
        rw [hx, if_neg (by decide)] at h2
        have h3 : bitN (encW x) 25 = 0 := Nat.eq_of_mul_eq_mul_right (Nat.pow_pos (show 0 < 2 by decide)) (h2.trans (Nat.zero_mul _).symm)
        rw [h3]; rfl
  have pm : i64N (immN (fmtN ((i + 1 : Nat) : Int)) (encW x)) = x.m := by
    have h1 : encW x &&& layM (fmtN ((i + 1 : Nat) : Int)) = layN (fmtN x.op) (u64N x.m) := hpart 1
    rw [← hi] at h1 ⊢
    rw [← immN_and _ hf15, h1]
    rw [fits_eq] at hfit
    have hm3 : fieldsL.getD (fmtN x.op) [] = flds i := hfl.symm
    have rng : ∀ f : Nat, f < 15 → (2 ≤ f ∧ f ≤ 8) ∨ (fieldsL.getD f []).getD 3 false = false ∧ placesL f = [] := by decide
    rcases rng _ hf15 with hr | ⟨hr, hpl⟩
    · have hmr : -9223372036854775808 ≤ x.m ∧ x.m ≤ 9223372036854775807 := fits_rng hr hfit
      generalize fmtN x.op = f at hr hfit ⊢
      have hcs : f = 2 ∨ f = 3 ∨ f = 4 ∨ f = 5 ∨ f = 6 ∨ f = 7 ∨ f = 8 := by omega
      rcases hcs with rfl | rfl | rfl | rfl | rfl | rfl | rfl
      · exact (imm_lay2 _ hmr.1 hmr.2).2 hfit
      · exact (imm_lay3 _ hmr.1 hmr.2).2 hfit
      · exact (imm_lay4 _ hmr.1 hmr.2).2 hfit
      · exact (imm_lay5 _ hmr.1 hmr.2).2 hfit
      · exact (imm_lay6 _ hmr.1 hmr.2).2 hfit
      · exact (imm_lay7 _ hmr.1 hmr.2).2 hfit
      · exact (imm_lay8 _ hmr.1 hmr.2).2 hfit
    · rw [z3 (by rw [hfl]; exact hr)]
      unfold immN
      rw [hpl]
      have : ∀ (b : Bool) (k : Nat), i64N (if b = true then signN (ofL (immBits [] k)) ([] : List Int).length else ofL (immBits [] k)) = 0 := fun b k => by
        cases b with
        | true =>
          show i64N (signN 0 0) = 0
          decide +kernel
        | false => rfl
      exact this _ _
  rw [pa, pb, pc, ps, pq, pr, pm, ← hi]
theorem dec_and (w m : Nat) (b : Bool) : w &&& (if b then m else 0) = if b then w &&& m else 0 := by cases b <;> simp
theorem orL_and (w : Nat) : ∀ ms : List Nat, orL (ms.map fun m => w &&& m) = w &&& orL ms
  | [] => by simp [orL]
  | m :: ms => by
    show (w &&& m) ||| orL _ = w &&& (m ||| orL ms)
    rw [orL_and w ms, Nat.and_or_distrib_left]
/-- **What was decoded is encoded.** -/
theorem enc_dec {w i : Nat} (hw : w < 2 ^ 32) (h : hit w i) : (decI w i).chk = 0 ∧ encW (decI w i) = w ∧ -9223372036854775808 ≤ (decI w i).m ∧ (decI w i).m ≤ 9223372036854775807 := by
  have hil := h.1
  have hf15 := fmtN_lt ((i + 1 : Nat) : Int)
  have h0 := fmt_ne i hil
  have hd := decF_flds w i hil
  have hlen := flds_len _ hf15
  have hfits := fits_imm (fmtN ((i + 1 : Nat) : Int)) hf15 w
  have hir := i64_rng _ (immN_lt (fmtN ((i + 1 : Nat) : Int)) hf15 w)
  have x5 : ∀ a : Nat, w / 2 ^ a % 2 ^ 5 < 32 := fun a => Nat.mod_lt _ (by decide)
  have x12 : w / 2 ^ 20 % 2 ^ 12 < 4096 := Nat.mod_lt _ (by decide)
  refine ⟨?_, ?_, by rw [hd]; exact hir.1, by rw [hd]; exact hir.2⟩
  · rw [hd]
    unfold Ins.chk checkF
    simp only
    rw [if_neg h0]
    have hfl : fieldsL.getD (fmtN ((i + 1 : Nat) : Int)) [] = flds i := rfl
    have hno : (flds i).getD 3 true = false → i64N (immN (fmtN ((i + 1 : Nat) : Int)) w) = 0 := fun e => by
      have rng : ∀ f : Nat, f < 15 → (fieldsL.getD f []).getD 3 true = false → placesL f = [] := by decide
      have hpl := rng _ hf15 (by rw [hfl]; exact e)
      unfold immN
      rw [hpl]
      have : ∀ (b : Bool) (k : Nat), i64N (if b = true then signN (ofL (immBits [] k)) ([] : List Int).length else ofL (immBits [] k)) = 0 := fun b k => by
        cases b with
        | true =>
          show i64N (signN 0 0) = 0
          decide +kernel
        | false => rfl
      exact this _ _
    have hgd : ∀ k, k < 6 → (flds i).getD k true = (flds i).getD k false := fun k hk => by
      rw [List.getD_eq_getElem?_getD, List.getD_eq_getElem?_getD, List.getElem?_eq_getElem (by rw [show (flds i).length = 6 from hlen]; exact hk)]
      rfl
    have n5 : ∀ (b : Bool) (v : Nat), v < 32 → 0 ≤ (if b = true then (v : Int) else 0) ∧ (if b = true then (v : Int) else 0) ≤ 31 := fun b v hv => by
      cases b with
      | true => rw [if_pos rfl]; omega
      | false => rw [if_neg (by decide)]; omega
    have n12 : ∀ (b : Bool) (v : Nat), v < 4096 → 0 ≤ (if b = true then (v : Int) else 0) ∧ (if b = true then (v : Int) else 0) ≤ 4095 := fun b v hv => by
      cases b with
      | true => rw [if_pos rfl]; omega
      | false => rw [if_neg (by decide)]; omega
    have y0 := n5 ((flds i).getD 0 false) _ (x5 7)
    have y1 := n5 ((flds i).getD 1 false) _ (x5 15)
    have y2 := n5 ((flds i).getD 2 false) _ (x5 20)
    have y4 := n12 ((flds i).getD 4 false) _ x12
    rw [hfl, if_neg, if_neg, if_neg]
    · rw [hfits]
      rintro (h | h | h)
      · exact absurd y4.1 (Int.not_le.2 h)
      · exact absurd y4.2 (Int.not_le.2 h)
      · cases h
    · rintro (h | h | h | h | h | h)
      · exact absurd y0.1 (Int.not_le.2 h)
      · exact absurd y0.2 (Int.not_le.2 h)
      · exact absurd y1.1 (Int.not_le.2 h)
      · exact absurd y1.2 (Int.not_le.2 h)
      · exact absurd y2.1 (Int.not_le.2 h)
      · exact absurd y2.2 (Int.not_le.2 h)
    · unfold badF
      rintro (⟨e, h⟩ | ⟨e, h⟩ | ⟨e, h⟩ | ⟨e, h⟩ | ⟨e, h⟩ | ⟨e, h⟩)
      · rw [hgd 0 (by decide)] at e; rw [e] at h; exact h rfl
      · rw [hgd 1 (by decide)] at e; rw [e] at h; exact h rfl
      · rw [hgd 2 (by decide)] at e; rw [e] at h; exact h rfl
      · exact h (hno e)
      · rw [hgd 4 (by decide)] at e; rw [e] at h; exact h rfl
      · rw [hgd 5 (by decide)] at e; rw [e] at h; simp at h
  · rw [encW_or]
    have hm := (masks_ok i hil).2
    have : partsX (decI w i) = (masks i).map fun m => w &&& m := by
      rw [hd]
      unfold partsX masks
      simp only [List.map_cons, List.map_nil]
      rw [show (((i + 1 : Nat) : Int)).toNat - 1 = i by omega, lay_imm _ hf15, h.2]
      simp only [dec_and]
      rw [show (31 : Nat) * 2 ^ 7 = (2 ^ 5 - 1) * 2 ^ 7 from rfl, show (31 : Nat) * 2 ^ 15 = (2 ^ 5 - 1) * 2 ^ 15 from rfl, show (31 : Nat) * 2 ^ 20 = (2 ^ 5 - 1) * 2 ^ 20 from rfl, show (4095 : Nat) * 2 ^ 20 = (2 ^ 12 - 1) * 2 ^ 20 from rfl, and_field, and_field, and_field, and_field, and_bit1, and_bit1]
      have b26 := bitN_lt w 26
      have b25 := bitN_lt w 25
      have pe : ∀ (b : Bool) (n k : Nat), (if b = true then (n : Int) else 0).toNat * k = if b = true then n * k else 0 := fun b n k => by cases b <;> simp
      have pq : ∀ (b : Bool) (n k : Nat), n < 2 → (if (b && decide (n = 1)) = true then k else 0) = if b = true then n * k else 0 := fun b n k hn => by
        have : n = 0 ∨ n = 1 := by omega
        rcases this with rfl | rfl <;> cases b <;> simp
      rw [pe, pe, pe, pe, pq _ _ _ b26, pq _ _ _ b25]
    rw [this, orL_and, hm, show (4294967295 : Nat) = 2 ^ 32 - 1 from rfl, Nat.and_two_pow_sub_one_eq_mod, Nat.mod_eq_of_lt hw]
end Go.Proofs.YtlobclgbbhoeiaaGreatDoor
