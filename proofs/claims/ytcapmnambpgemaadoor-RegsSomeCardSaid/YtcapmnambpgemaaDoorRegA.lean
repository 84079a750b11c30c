/-
  The names of registers: the plain law.
-/
import Derived.Test.YtcapmnambpgemaaDoorLib2
namespace Go.Proofs.YtcapmnambpgemaaDoor
set_option linter.unusedSimpArgs false
set_option linter.unusedVariables false
open Go Go.Mid Go.RowKit
/-- A number in digits, without a nought ahead, up to most. -/
def numI (l : Str) (most : Int) : Option Int :=
  if l = [] ∨ 2 < l.length ∨ (l.head? = some 48 ∧ l ≠ [48]) ∨ ¬ (∀ b ∈ l, dig b = true) then none else if valL l > most then none else some (valL l)
def sZero : Str := [122, 101, 114, 111]
def sRa : Str := [114, 97]
def sSp : Str := [115, 112]
def sGp : Str := [103, 112]
def sTp : Str := [116, 112]
def sFp : Str := [102, 112]
def ofX (k : Int) : Int := k
def ofA (k : Int) : Int := 10 + k
def ofS (k : Int) : Int := if k < 2 then 8 + k else 16 + k
def ofT (k : Int) : Int := if k < 3 then 5 + k else 25 + k
def findI (l : Str) : Option Int :=
  if l = sZero then some 0 else if l = sRa then some 1 else if l = sSp then some 2 else if l = sGp then some 3 else if l = sTp then some 4 else if l = sFp then some 8 else
  match l with
  | [] => none
  | c :: r => if c = 120 then (numI r 31).map ofX else if c = 97 then (numI r 7).map ofA else if c = 115 then (numI r 11).map ofS else if c = 116 then (numI r 6).map ofT else none
def nameN (i : Nat) : Str :=
  if i < 5 then [sZero, sRa, sSp, sGp, sTp].getD i [] else if i < 8 then 116 :: digN (i - 5) else if i < 10 then 115 :: digN (i - 8) else if i < 18 then 97 :: digN (i - 10) else if i < 28 then 115 :: digN (i - 16) else 116 :: digN (i - 25)
/-- All that is told by a number. -/
def keys (i : Nat) : List Str := [nameN i, 120 :: digN i] ++ if i = 8 then [sFp] else []
/-- The document's. -/
def refI (l : Str) : Option Nat := (List.range 32).find? fun i => decide (l ∈ keys i)
theorem dig_num {b : UInt8} (h : dig b = true) : ∃ n, n < 10 ∧ b = dgt n ∧ ((b.toNat : Int) - 48) = n := by
  unfold dig at h
  simp only [decide_eq_true_eq] at h
  refine ⟨b.toNat - 48, by omega, ?_, by omega⟩
  unfold dgt
  rw [show 48 + (b.toNat - 48) = b.toNat by omega]
  simp
theorem numI_some {l : Str} {m n : Int} (h : numI l m = some n) : ∃ k : Nat, k < 100 ∧ n = k ∧ n ≤ m ∧ l = digN k := by
  unfold numI at h
  split at h
  · cases h
  rename_i hc
  split at h
  · cases h
  rename_i hm
  cases h
  match l with
  | [] => exact absurd (.inl rfl) hc
  | [a] =>
    have hd : ∀ b ∈ [a], dig b = true := Classical.byContradiction fun hx => hc (.inr (.inr (.inr hx)))
    obtain ⟨x, hx, ha, hv⟩ := dig_num (hd a (by simp))
    have e : valL [a] = x := by unfold valL; simp only [List.foldl_cons, List.foldl_nil]; omega
    refine ⟨x, by omega, e, by omega, ?_⟩
    unfold digN; rw [if_pos hx, ha]
  | [a, b] =>
    have hd : ∀ y ∈ [a, b], dig y = true := Classical.byContradiction fun hx => hc (.inr (.inr (.inr hx)))
    obtain ⟨x, hx, ha, hv⟩ := dig_num (hd a (by simp))
    obtain ⟨y, hy, hb, hw⟩ := dig_num (hd b (by simp))
    have h0 : x ≠ 0 := fun h0 => by
      subst h0
      exact hc (.inr (.inr (.inl ⟨by rw [ha]; rfl, by simp⟩)))
    have e : valL [a, b] = 10 * x + y := by unfold valL; simp only [List.foldl_cons, List.foldl_nil]; omega
    refine ⟨10 * x + y, by omega, by rw [e]; omega, by omega, ?_⟩
    unfold digN
    rw [if_neg (by omega), show (10 * x + y) / 10 = x by omega, show (10 * x + y) % 10 = y by omega, ha, hb]
  | a :: b :: c :: r => exact absurd (.inr (.inl (by simp only [List.length_cons]; omega))) hc
set_option maxRecDepth 100000 in
theorem refX : ∀ k : Nat, k < 100 → (k : Int) ≤ 31 → refI (120 :: digN k) = some k := by decide +kernel
set_option maxRecDepth 100000 in
theorem refA : ∀ k : Nat, k < 100 → (k : Int) ≤ 7 → refI (97 :: digN k) = some (10 + k) := by decide +kernel
set_option maxRecDepth 100000 in
theorem refS : ∀ k : Nat, k < 100 → (k : Int) ≤ 11 → refI (115 :: digN k) = some (if k < 2 then 8 + k else 16 + k) := by decide +kernel
set_option maxRecDepth 100000 in
theorem refT : ∀ k : Nat, k < 100 → (k : Int) ≤ 6 → refI (116 :: digN k) = some (if k < 3 then 5 + k else 25 + k) := by decide +kernel
set_option maxRecDepth 100000 in
theorem findKeys : ∀ i : Nat, i < 32 → ∀ k ∈ keys i, findI k = some (i : Int) := by decide +kernel
theorem find_some {l : Str} {n : Int} (h : findI l = some n) : ∃ k : Nat, n = k ∧ refI l = some k := by
  unfold findI at h
  (repeat' split at h) <;> first
    | (cases h; done)
    | (rename_i hx; subst hx; cases h; exact ⟨_, rfl, by decide +kernel⟩)
    | skip
  · rename_i hx; rename_i c; subst hx
    obtain ⟨y, hy, rfl⟩ := Option.map_eq_some_iff.1 h
    obtain ⟨k, hk, rfl, hm, rfl⟩ := numI_some hy
    exact ⟨k, rfl, refX k hk hm⟩
  · rename_i hx; subst hx
    obtain ⟨y, hy, rfl⟩ := Option.map_eq_some_iff.1 h
    obtain ⟨k, hk, rfl, hm, rfl⟩ := numI_some hy
    exact ⟨10 + k, rfl, refA k hk hm⟩
  · rename_i hx; subst hx
    obtain ⟨y, hy, rfl⟩ := Option.map_eq_some_iff.1 h
    obtain ⟨k, hk, rfl, hm, rfl⟩ := numI_some hy
    refine ⟨_, ?_, refS k hk hm⟩
    unfold ofS; split <;> split <;> omega
  · rename_i hx; subst hx
    obtain ⟨y, hy, rfl⟩ := Option.map_eq_some_iff.1 h
    obtain ⟨k, hk, rfl, hm, rfl⟩ := numI_some hy
    refine ⟨_, ?_, refT k hk hm⟩
    unfold ofT; split <;> split <;> omega
/-- **The register that is known by a name**, the program's and the document's. -/
theorem find_ref (l : Str) : findI l = (refI l).map fun (k : Nat) => (k : Int) := by
  cases h : findI l with
  | some n =>
    obtain ⟨k, rfl, hk⟩ := find_some h
    rw [hk]; rfl
  | none =>
    cases hr : refI l with
    | none => rfl
    | some k =>
      have hm := List.mem_of_find?_eq_some hr
      have hp := List.find?_some hr
      rw [findKeys k (List.mem_range.1 hm) l (of_decide_eq_true hp)] at h
      cases h
end Go.Proofs.YtcapmnambpgemaaDoor
