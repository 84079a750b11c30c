/-
  THE MIDDLE LAYER: short words: values held against what is wanted, calls through a slot, cells of rows of one's own, one block.
-/
import Derived.Test.YtjipfibbkmmfbaaGreatDoorMidS
namespace Go.Mid
set_option linter.unusedSimpArgs false
set_option linter.unusedVariables false
open Go Go.RowKit
theorem kq {K : Value → Hp → Prop} {v v' : Value} {h : Hp} (hk : K v h) (e : v' = v) : K v' h := e ▸ hk
theorem bI {a b : Bool} (h : a = b) : Value.bool a = Value.bool b := by rw [h]
theorem iI {k : IntKind} {a b : Int} (h : a = b) : Value.int k a = Value.int k b := by rw [h]
theorem sI {a b : List UInt8} (h : a = b) : Value.string (bs a) = Value.string (bs b) := by rw [h]
theorem aRunK_call {P : Program} {ρ : Operand → Value} {o : Oper} {g : FuncId} {args : List Value} {h : Hp} {K : Value → Hp → Prop} (hA : actOf P ρ o = if callable P g = true then .call g args else .sem (execOp ρ o)) (hc : callable P g = true) (hx : X P g args.toArray h K) : aRunK P (actOf P ρ o) h K := by
  rw [hA, if_pos hc]; exact hx
theorem aRunK_if {P : Program} {ρ : Operand → Value} {o : Oper} {c : Prop} {inst : Decidable c} {A B : Action} {h : Hp} {K : Value → Hp → Prop} (hA : actOf P ρ o = if c then A else B) (hc : c) (hx : aRunK P A h K) : aRunK P (actOf P ρ o) h K := by
  rw [hA, if_pos hc]; exact hx
theorem loadC {P : Program} {t el : TypeId} (ht : isAggT P t = some false) {h : Hp} {b i : Nat} {l : List Value} {v : Value} (hb : h b = some (rowO el l)) (hi : l[i]? = some v) : loadH P t h ((⟨b, 0, none⟩ : Addr).add i) = some v := by
  rw [addr_add, Nat.zero_add, loadH_cell ht]
  exact cell_row hb hi
theorem loadC0 {P : Program} {t el : TypeId} (ht : isAggT P t = some false) {h : Hp} {b : Nat} {l : List Value} {v : Value} (hb : h b = some (rowO el l)) (hi : l[0]? = some v) : loadH P t h ⟨b, 0, none⟩ = some v := by
  rw [loadH_cell ht]
  exact cell_row hb hi
theorem storeC {P : Program} {t el : TypeId} (ht : sizeT P t = some 1) {h : Hp} {b i : Nat} {l : List Value} {z : Value} (hb : h b = some (rowO el l)) (hi : i < l.length) (hz : z.cells.toList = [z]) (h1 : z.oneCell' = true) : storeH P t h ((⟨b, 0, none⟩ : Addr).add i) z = some (b, rowO el (l.set i z)) := by
  rw [addr_add, Nat.zero_add]
  exact storeH_row ht hb hi hz h1
theorem storeC0 {P : Program} {t el : TypeId} (ht : sizeT P t = some 1) {h : Hp} {b : Nat} {l : List Value} {z : Value} (hb : h b = some (rowO el l)) (hi : 0 < l.length) (hz : z.cells.toList = [z]) (h1 : z.oneCell' = true) : storeH P t h ⟨b, 0, none⟩ z = some (b, rowO el (l.set 0 z)) := storeH_row ht hb hi hz h1
theorem loadC1 {P : Program} {t el : TypeId} (ht : isAggT P t = some false) {h : Hp} {b i : Nat} {l : List Value} {v : Value} (hb : h b = some (rowO el l)) (hi : l[i]? = some v) : loadH P t h ((⟨b, 0, none⟩ : Addr).add (i * 1)) = some v := by
  rw [Nat.mul_one]; exact loadC ht hb hi
theorem storeC1 {P : Program} {t el : TypeId} (ht : sizeT P t = some 1) {h : Hp} {b i : Nat} {l : List Value} {z : Value} (hb : h b = some (rowO el l)) (hi : i < l.length) (hz : z.cells.toList = [z]) (h1 : z.oneCell' = true) : storeH P t h ((⟨b, 0, none⟩ : Addr).add (i * 1)) z = some (b, rowO el (l.set i z)) := by
  rw [Nat.mul_one]; exact storeC ht hb hi hz h1
/-- One block. -/
def Hp.one (b : Nat) (o : Obj) : Hp := fun x => if x = b then some o else none
theorem Hp.one_at (b : Nat) (o : Obj) : Hp.one b o b = some o := if_pos rfl
theorem Hp.one_le {b : Nat} {o : Obj} {h : Hp} (hb : h b = some o) : (Hp.one b o).le h := fun x y e => by
  unfold Hp.one at e
  split at e
  · rename_i hx; cases e; rw [hx]; exact hb
  · cases e
theorem Hp.one_apart {b : Nat} {o : Obj} {g : Hp} (hb : g b = none) : Apart (Hp.one b o) g := fun x y e => by
  unfold Hp.one at e
  split at e
  · rename_i hx; rw [hx]; exact hb
  · cases e
/-- What a store into a new block leaves. -/
theorem Hp.le_st {h h1 H : Hp} {b : Nat} (hn : h b = none) (hle : h.le h1) (ho : ∀ c, c ≠ b → H c = h1 c) : h.le H := fun x o e => by
  rw [ho x (Hp.ne hn e)]; exact hle x o e
theorem zeroRow_one (v : Value) (n : Nat) : zeroRow #[v] n = (List.replicate n v).toArray := by
  unfold zeroRow
  congr 1
  apply List.ext_getElem
  · simp
  · intro i h1 h2
    simp [Nat.mod_one]
theorem setL_all {a b : List Value} (h : a.length = b.length) : setL a 0 b = b := by
  have := setL_append b [] a (by omega)
  simpa [List.drop_of_length_le (Nat.le_of_eq h)] using this
/-- What a slice reads, cell by cell. -/
theorem Rd.get {P : Program} {t n : Nat} {h : Hp} {base : Option Addr} {m cap : Nat} {vs : List Value} (r : Rd P t n h (.slice base m cap) vs) : m = vs.length ∧ ∀ i v, vs[i]? = some v → ∃ a, base = some a ∧ loadH P t h (a.add (i * n)) = some v := by
  obtain ⟨b, c, e, f⟩ := r
  cases e
  exact ⟨rfl, f⟩
theorem ov_eq {x y : Int} {K : Int → Prop} (e : x = y) (h : -9223372036854775808 ≤ y ∧ y ≤ 9223372036854775807) (hk : K y) : ovK .i64 x K := by
  subst e
  exact ov_i64 h hk
end Go.Mid
