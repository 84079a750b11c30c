/-
  THE MIDDLE LAYER: rows of elements of several cells, as arrays; sorting (the kit's plain functions: Derived/Sort).
-/
import Derived.Test.YtciagjfemgfhgaaGreatDoorMidX
import Derived.Sort.AssemblyPlain
namespace Go.Mid
set_option linter.unusedSimpArgs false
set_option linter.unusedVariables false
open Go Go.RowKit
open Go.Sort (swp)
section
variable {α : Type} [Inhabited α]
/-- A row that holds the elements of d, each as its cells. -/
def RowD (el : TypeId) (enc : α → List Value) (d : Array α) (rest : List Value) : Obj := rowO el (d.toList.flatMap enc ++ rest)
theorem arr_at (d : Array α) {j : Nat} (hj : j < d.size) : d.toList[j]? = some d[j]! := by
  rw [Array.getElem?_toList, Array.getElem?_eq_getElem hj, getElem!_pos d j hj]
theorem loadR {P : Program} {t el : TypeId} {n : Nat} {enc : α → List Value} (ht : isAggT P t = some true) (hn : sizeT P t = some n) (hf : ∀ x, (enc x).length = n) {h : Hp} {b : Nat} {d : Array α} {rest : List Value} (hb : h b = some (RowD el enc d rest)) {i : Int} (j : Nat) (e : i = j) (hj : j < d.size) :
    loadH P t h ((⟨b, 0, none⟩ : Addr).add (i.toNat * n)) = some (.agg (enc d[j]!).toArray) := by
  subst e
  rw [Int.toNat_natCast]
  exact loadH_agg ht hn hf hb (arr_at d hj)
omit [Inhabited α] in
theorem flat_split {enc : α → List Value} {n : Nat} (hf : ∀ x, (enc x).length = n) (l : List α) (j : Nat) (hj : j < l.length) (x : α) : ∃ A y B, l.flatMap enc = A ++ (y ++ B) ∧ A.length = j * n ∧ y.length = n ∧ (l.set j x).flatMap enc = A ++ (enc x ++ B) := by
  refine ⟨(l.take j).flatMap enc, enc l[j], (l.drop (j + 1)).flatMap enc, ?_, ?_, hf _, ?_⟩
  · conv => lhs; rw [← List.take_append_drop j l, List.drop_eq_getElem_cons hj]
    rw [List.flatMap_append, List.flatMap_cons]
  · rw [flat_length hf, List.length_take, Nat.min_eq_left (Nat.le_of_lt hj)]
  · rw [List.set_eq_take_append_cons_drop, if_pos hj, List.flatMap_append, List.flatMap_cons]
omit [Inhabited α] in
theorem storeR {P : Program} {t el : TypeId} {n : Nat} {enc : α → List Value} (hn : sizeT P t = some n) (hf : ∀ x, (enc x).length = n) (h1 : ∀ x, (enc x).all Value.oneCell' = true) {h : Hp} {b : Nat} {d : Array α} {rest : List Value} (hb : h b = some (RowD el enc d rest)) {i : Int} (j : Nat) (e : i = j) (hj : j < d.size) (x : α) :
    storeH P t h ((⟨b, 0, none⟩ : Addr).add (i.toNat * n)) (.agg (enc x).toArray) = some (b, RowD el enc (d.setIfInBounds j x) rest) := by
  subst e
  rw [Int.toNat_natCast]
  obtain ⟨A, y, B, e1, e2, e3, e4⟩ := flat_split hf d.toList j (by simpa using hj) x
  have hz : (Value.agg (enc x).toArray).cells.toList = enc x := rfl
  have hb' : h b = some (rowO el (A ++ (y ++ (B ++ rest)))) := by rw [hb]; unfold RowD; rw [e1]; simp only [List.append_assoc]
  have := storeH_at (i := j) (z := .agg (enc x).toArray) hn hb' e2 e3 (by rw [hz]; exact hf x) (by rw [hz]; exact h1 x)
  rw [this, hz]
  unfold RowD
  rw [Array.toList_setIfInBounds, e4]
  simp only [List.append_assoc]
theorem swp_size (d : Array α) (i j : Nat) : (swp d i j).size = d.size := by simp [swp]
/-- A function value that compares two elements (below 0: less). -/
def CmpX (P : Program) (y : Value) (enc : α → List Value) (lt : α → α → Bool) : Prop :=
  ∀ (x z : α) (h : Hp) (K : Value → Hp → Prop), (∀ c : Int, decide (c < 0) = lt x z → K (.int .i64 c) h) → YV P y [.agg (enc x).toArray, .agg (enc z).toArray] h K
omit [Inhabited α] in
theorem setIf_size (d : Array α) (j : Nat) (x : α) : (d.setIfInBounds j x).size = d.size := by simp
theorem ov_eq {x y : Int} {K : Int → Prop} (e : x = y) (h : -9223372036854775808 ≤ y ∧ y ≤ 9223372036854775807) (hk : K y) : ovK .i64 x K := by
  subst e
  exact ov_i64 h hk
end
end Go.Mid
