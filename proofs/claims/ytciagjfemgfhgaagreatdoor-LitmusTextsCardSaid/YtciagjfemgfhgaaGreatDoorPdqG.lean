/-
  Sorting of heats: patterns broken; all of it. (UNDER WAY.)
-/
import Derived.Test.YtciagjfemgfhgaaGreatDoorPdqF
import Derived.Test.YtciagjfemgfhgaaGreatDoorLibX
import Derived.Sort.LotD5
import Derived.Sort.Walk7
import Derived.Sort.WalkA14
import Derived.Laws.Bits64
namespace Go.Proofs.YtciagjfemgfhgaaGreatDoor
set_option linter.unusedSimpArgs false
set_option linter.unusedVariables false
open Go Go.Mid Go.RowKit
open Go.Sort (swp xorNextN breakPatterns)
attribute [local irreducible] mid
section
set_option maxHeartbeats 8000000
set_option maxRecDepth 10000
variable {h : Hp} {K : Value → Hp → Prop}
theorem aggXs : isAggT Tryz.prog 145 = some false := by kernel_rfl
theorem sizXs : sizeT Tryz.prog 145 = some 1 := by kernel_rfl
theorem xorU (a b : Nat) (ha : a < 18446744073709551616) (hb : b < 18446744073709551616) : IntKind.u64.wrap (BitVec.ofInt IntKind.u64.bits (a : Int) ^^^ BitVec.ofInt IntKind.u64.bits (b : Int)).toNat = ((a ^^^ b : Nat) : Int) := bits_xor_u64_nat a b ha hb
theorem nextE_x {c v : Nat} (hv : v < 18446744073709551616) (hc : h c = some (rowO 145 [.int .u64 v]))
    (hk : ∀ h', h' c = some (rowO 145 [.int .u64 (xorNextN v : Nat)]) → (∀ x, x ≠ c → h' x = h x) → K (.int .u64 (xorNextN v : Nat)) h') : X Tryz.prog 95 #[.pointer (some ⟨c, 0, none⟩)] h K := by
  have p1 : ∀ x : Nat, IntKind.u64.wrap ((x : Int) * 2 ^ min (Int.toNat 13) IntKind.u64.bits) = ((x * 8192 % 18446744073709551616 : Nat) : Int) := fun x => by
    rw [IntKind.wrap_u64]; show (x : Int) * 8192 % _ = _; omega
  have p3 : ∀ x : Nat, IntKind.u64.wrap ((x : Int) * 2 ^ min (Int.toNat 17) IntKind.u64.bits) = ((x * 131072 % 18446744073709551616 : Nat) : Int) := fun x => by
    rw [IntKind.wrap_u64]; show (x : Int) * 131072 % _ = _; omega
  have hlt : ∀ x : Nat, x % 18446744073709551616 < 18446744073709551616 := fun x => Nat.mod_lt _ (by decide)
  have hx : ∀ x z : Nat, x < 18446744073709551616 → z < 18446744073709551616 → x ^^^ z < 18446744073709551616 := fun x z h1 h2 => Nat.xor_lt_two_pow (n := 64) h1 h2
  obtain ⟨u, hu⟩ : ∃ u, v ^^^ (v * 8192 % 18446744073709551616) = u := ⟨_, rfl⟩
  have hul : u < 18446744073709551616 := hu ▸ hx _ _ hv (hlt _)
  obtain ⟨z, hz⟩ : ∃ z, u ^^^ (u / 128) = z := ⟨_, rfl⟩
  have hzl : z < 18446744073709551616 := hz ▸ hx _ _ hul (by omega)
  have e0 : xorNextN v = z ^^^ (z * 131072 % 18446744073709551616) := by rw [← hz, ← hu]; rfl
  rw [e0] at hk
  refine fnv (args := _) mixed [] [] [] Tryz.func95 rfl (by kernel_rfl) ?_; conv => whnf
  refine ⟨_, loadC0 aggXs hc rfl, ?_⟩; conv => whnf
  refine ⟨_, loadC0 aggXs hc rfl, ?_⟩; conv => whnf
  refine ov_by (p1 v) ?_
  conv => whnf
  refine val_by (xorU _ _ hv (hlt _)) ?_; conv => whnf
  rw [hu]
  refine wr_intro (by exact storeC0 sizXs hc (Nat.zero_lt_succ 0) rfl rfl) (fun H1 at_H1 ot_H1 => ?_)
  try (conv => whnf)
  have g1 : H1 c = some (rowO 145 [.int .u64 u]) := at_H1
  refine ⟨trivial, ?_⟩; conv => whnf
  refine ⟨_, loadC0 aggXs g1 rfl, ?_⟩; conv => whnf
  refine ⟨_, loadC0 aggXs g1 rfl, ?_⟩; conv => whnf
  have d2 : ((u : Int)).fdiv (2 ^ min (Int.toNat 7) IntKind.u64.bits) = ((u / 128 : Nat) : Int) := by
    show ((u : Int)).fdiv 128 = _
    rw [Int.fdiv_eq_ediv_of_nonneg _ (by omega)]
    omega
  refine val_by (d2) ?_; conv => whnf
  refine val_by (xorU _ _ hul (by omega)) ?_; conv => whnf
  rw [hz]
  refine wr_intro (by exact storeC0 sizXs g1 (Nat.zero_lt_succ 0) rfl rfl) (fun H2 at_H2 ot_H2 => ?_)
  try (conv => whnf)
  have g2 : H2 c = some (rowO 145 [.int .u64 z]) := at_H2
  refine ⟨trivial, ?_⟩; conv => whnf
  refine ⟨_, loadC0 aggXs g2 rfl, ?_⟩; conv => whnf
  refine ⟨_, loadC0 aggXs g2 rfl, ?_⟩; conv => whnf
  refine ov_by (p3 z) ?_
  conv => whnf
  refine val_by (xorU _ _ hzl (hlt _)) ?_; conv => whnf
  refine wr_intro (by exact storeC0 sizXs g2 (Nat.zero_lt_succ 0) rfl rfl) (fun H3 at_H3 ot_H3 => ?_)
  try (conv => whnf)
  have g3 : H3 c = some (rowO 145 [.int .u64 ((z ^^^ (z * 131072 % 18446744073709551616) : Nat) : Int)]) := at_H3
  refine ⟨trivial, ?_⟩; conv => whnf
  refine ⟨_, loadC0 aggXs g3 rfl, ?_⟩; conv => whnf
  exact hk H3 g3 fun x hx => by rw [ot_H3 x hx, ot_H2 x hx, ot_H1 x hx]
theorem blenN_x (m : Nat) (hm : m < 2 ^ 30) (hk : K (.int .i64 (Go.Sort.bitsLen m : Nat)) h) : X Tryz.prog 49 #[.int .u64 m] h K :=
  X.ofBelow (fun w0 w s => (Tryz.bits_Len m w (by omega) (by omega)).mono fun e w' hh => ⟨hh.1.trans (by rw [Int.toNat_natCast, bitLen_eq m (by omega)]), by rw [hh.2]; exact Below.refl _ _⟩) hk
theorem npowE_x (m : Nat) (hm : m < 2 ^ 30) (hk : K (.int .u64 ((1 <<< Go.Sort.bitsLen m : Nat) : Int)) h) : X Tryz.prog 94 #[.int .i64 m] h K := by
  have hb : Go.Sort.bitsLen m ≤ 30 := (Go.Sort.bitsLen_le_iff m 30).2 hm
  have hp : 1 <<< Go.Sort.bitsLen m ≤ 2 ^ 30 := by rw [Nat.one_shiftLeft]; exact Nat.pow_le_pow_right (by decide) hb
  have e : IntKind.u64.wrap (1 * 2 ^ min (((Go.Sort.bitsLen m : Nat) : Int)).toNat IntKind.u64.bits) = ((1 <<< Go.Sort.bitsLen m : Nat) : Int) := by
    rw [IntKind.wrap_u64, Int.toNat_natCast, show min (Go.Sort.bitsLen m) IntKind.u64.bits = Go.Sort.bitsLen m from Nat.min_eq_left (Nat.le_trans hb (by decide)), Int.one_mul, Nat.one_shiftLeft]
    rw [Nat.one_shiftLeft] at hp
    have : ((2 ^ Go.Sort.bitsLen m : Nat) : Int) = 2 ^ Go.Sort.bitsLen m := by push_cast; rfl
    rw [← this]
    clear this hb
    generalize 2 ^ Go.Sort.bitsLen m = q at *
    omega
  refine fnv (args := _) mixed [] [] [] Tryz.func94 rfl (by kernel_rfl) ?_; conv => whnf
  refine ov_by (show IntKind.u64.wrap (m : Int) = (m : Int) by rw [IntKind.wrap_u64]; omega) ?_
  conv => whnf
  refine blenN_x m hm ?_
  conv => whnf
  refine ov_by e ?_
  conv => whnf
  exact hk
end
end Go.Proofs.YtciagjfemgfhgaaGreatDoor
