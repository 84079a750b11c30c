/-
  strings.Join, over the middle layer.
-/
import Derived.Test.YtciagjfemgfhgaaGreatDoorLibY
namespace Go.Proofs.YtciagjfemgfhgaaGreatDoor
set_option linter.unusedSimpArgs false
set_option linter.unusedVariables false
open Go Go.Mid Go.RowKit
attribute [local irreducible] mid
section
set_option maxHeartbeats 8000000
set_option maxRecDepth 10000
variable {h : Hp} {K : Value → Hp → Prop}
theorem join_x (b o c : Nat) (xs : List Str) (sep : Str) (hcell : ∀ (j : Nat) x, xs[j]? = some x → h.cell? ⟨b, o + j, none⟩ = some (.string (bs x))) (hb : ∃ ob, h b = some ob) (hN : xs.length ≤ 2 ^ 40) (hcap : xs.length ≤ c) (hlen : (Lib.join xs sep).length ≤ 2 ^ 40)
    (hk : K (.string (bs (Lib.join xs sep))) h) : X Tryz.prog 40 #[.slice (some ⟨b, o, none⟩) xs.length c, .string (bs sep)] h K := by
  have e : (xs.map bs).map (fun z : ByteArray => z.data.toList) = xs := by
    rw [List.map_map]
    have : ((fun z : ByteArray => z.data.toList) ∘ bs) = id := by funext l; rfl
    rw [this, List.map_id]
  refine X.ofBelow (v := .string (bs (Lib.join xs sep))) (fun w0 w s => ?_) hk
  obtain ⟨ob, hob⟩ := hb
  have hj := Tryz.strings_Join b o c (xs.map bs) (bs sep) w (fun j x hx => by
    rw [List.getElem?_map] at hx
    cases hy : xs[j]? with
    | none => rw [hy] at hx; cases hx
    | some y => rw [hy] at hx; cases hx; exact s.cell (hcell j y hy)) (s.lt hob) (by rw [List.length_map]; omega) (by rw [List.length_map]; exact hcap) (by rw [e]; exact Nat.le_trans hlen (by decide))
  rw [e, List.length_map] at hj
  exact hj
end
end Go.Proofs.YtciagjfemgfhgaaGreatDoor
