/-
  strings.Join, over the middle layer.
-/
import Derived.Test.YtciagjfemgfhgaaGreatDoorLibX
namespace Go.Proofs.YtciagjfemgfhgaaGreatDoor
set_option linter.unusedSimpArgs false
set_option linter.unusedVariables false
open Go Go.Mid Go.RowKit
attribute [local irreducible] mid
section
set_option maxHeartbeats 8000000
set_option maxRecDepth 10000
variable {h : Hp} {K : Value → Hp → Prop}
theorem join_x (b o c : Nat) (xs : List Str) (sep : Str) (hcell : ∀ (j : Nat) x, xs[j]? = some x → h.cell? ⟨b, o + j, none⟩ = some (.string (bs x))) (hb : ∃ ob, h b = some ob) (hN : xs.length ≤ 2 ^ 40) (hcap : xs.length ≤ c) (hlen : (Lib.join xs sep).length ≤ 2 ^ 40)
    (hk : K (.string (bs (Lib.join xs sep))) h) : X Tryz.prog 40 #[.slice (some ⟨b, o, none⟩) xs.length c, .string (bs sep)] h K := by
  have e : (xs.map bs).map (fun z : ByteArray => z.data.toList) = xs := by
    rw [List.map_map]
    have : ((fun z : ByteArray => z.data.toList) ∘ bs) = id := by funext l; rfl
    rw [this, List.map_id]
  refine X.ofBelow (v := .string (bs (Lib.join xs sep))) (fun w0 w s => ?_) hk
  obtain ⟨ob, hob⟩ := hb
  have hj := Tryz.strings_Join b o c (xs.map bs) (bs sep) w (fun j x hx => by
    rw [List.getElem?_map] at hx
    cases hy : xs[j]? with
    | none => rw [hy] at hx; cases hx
    | some y => rw [hy] at hx; cases hx; exact s.cell (hcell j y hy)) (s.lt hob) (by rw [List.length_map]; omega) (by rw [List.length_map]; exact hcap) (by rw [e]; exact Nat.le_trans hlen (by decide))
  rw [e, List.length_map] at hj
  exact hj
abbrev sv (x : Str) : Value := .string (bs x)
theorem aggS0 : isAggT Tryz.prog 91 = some false := by kernel_rfl
theorem sizS0 : sizeT Tryz.prog 91 = some 1 := by kernel_rfl
theorem aggStr : isAggT Tryz.prog 9 = some false := by kernel_rfl
theorem infS : Tryz.prog.info? 9 = some Tryz.prog.types[9] := by kernel_rfl
/-- h knows k; beside it lie words, w. -/
theorem slot1 {x y : Str} (e : x = y) : [MV.v (Value.string (bs x))] = [MV.v (Value.string (bs y))] := by rw [e]
theorem app_len {xs ys : List Str} {n m : Nat} (a : xs.length ≤ n) (b : ys.length ≤ m) : (xs ++ ys).length ≤ n + m := by rw [List.length_append]; omega
def tl (xs : List Str) : Str := xs.flatMap fun x => 32 :: x
theorem join_tl (x : Str) (xs : List Str) : Lib.join (x :: xs) [32] = x ++ tl xs := by
  rw [Lib.join_cons]
  rfl
theorem tl_len {xs : List Str} {n : Nat} (h : ∀ x ∈ xs, x.length ≤ n) : (tl xs).length ≤ (n + 1) * xs.length := by
  induction xs with
  | nil => simp [tl]
  | cons x xs ih =>
    have h1 := h x (by simp)
    have h2 := ih fun y hy => h y (by simp [hy])
    unfold tl at h2 ⊢
    rw [List.flatMap_cons, List.length_append, List.length_cons, List.length_cons, Nat.mul_succ]
    omega
theorem join_len {xs : List Str} (h : ∀ x ∈ xs, x.length ≤ 64) (hn : xs.length ≤ 2 ^ 20) : (Lib.join xs [32]).length ≤ 2 ^ 40 := by
  cases xs with
  | nil => simp [Lib.join_nil]
  | cons x xs =>
    rw [join_tl, List.length_append]
    have h1 := h x (by simp)
    have h2 := tl_len (n := 64) (xs := xs) fun y hy => h y (by simp [hy])
    rw [List.length_cons] at hn
    have : (64 + 1) * xs.length ≤ 65 * 2 ^ 20 := Nat.mul_le_mul_left 65 (by omega)
    omega
/-- Words that aren't long. -/
def Sm (xs : List Str) : Prop := ∀ x ∈ xs, x.length ≤ 64
theorem Sm.app {xs ys : List Str} (a : Sm xs) (b : Sm ys) : Sm (xs ++ ys) := fun x hx => (List.mem_append.1 hx).elim (a x) (b x)
theorem Sm.nil : Sm [] := fun x hx => by cases hx
theorem Sm.cons {x : Str} {ys : List Str} (a : x.length ≤ 64) (b : Sm ys) : Sm (x :: ys) := fun z hz => by
  rcases List.mem_cons.1 hz with rfl | hz
  · exact a
  · exact b z hz
theorem sm_itoa {n : Int} (h0 : -9223372036854775808 ≤ n) (h1 : n ≤ 9223372036854775807) : (Lib.itoa n).length ≤ 64 := Nat.le_trans (itoa_len h0 h1) (by decide)
theorem sm_dec {n : Nat} (h : n < 18446744073709551616) : (Lib.decDigits n).length ≤ 64 := Nat.le_trans (dec_len h) (by decide)
theorem tl_nil : tl [] = [] := rfl
theorem tl_cons (x : Str) (xs : List Str) : tl (x :: xs) = 32 :: (x ++ tl xs) := rfl
theorem tl_app (xs ys : List Str) : tl (xs ++ ys) = tl xs ++ tl ys := List.flatMap_append
theorem tl_sm {xs : List Str} {m : Nat} (h : Sm xs) (hm : xs.length ≤ m) : (tl xs).length ≤ 65 * m := Nat.le_trans (tl_len h) (Nat.mul_le_mul_left 65 hm)
abbrev J (ws : List Str) : Str := Lib.join ws [32]
theorem J_app {ws : List Str} (h : ws ≠ []) (ys : List Str) : J (ws ++ ys) = J ws ++ tl ys := by
  cases ws with
  | nil => exact absurd rfl h
  | cons x xs => rw [List.cons_append, J, J, join_tl, join_tl, tl_app, List.append_assoc]
theorem J_len {ws : List Str} (h : Sm ws) (hn : ws.length ≤ 200) : (J ws).length ≤ 13064 := by
  cases ws with
  | nil => simp [J, Lib.join_nil]
  | cons x xs =>
    rw [J, join_tl, List.length_append]
    have h1 := h x (by simp)
    have h2 := tl_len (n := 64) (xs := xs) fun y hy => h y (by simp [hy])
    rw [List.length_cons] at hn
    have : (64 + 1) * xs.length ≤ 65 * 200 := Nat.mul_le_mul_left 65 (by omega)
    omega
theorem ne_app {xs ys : List Str} (h : xs ≠ []) : xs ++ ys ≠ [] := fun e => h (List.append_eq_nil_iff.1 e).1
structure Wk (ws : List Str) (n : Nat) : Prop where
  ne : ws ≠ []
  sm : Sm ws
  len : ws.length ≤ n
theorem Wk.app {xs ys : List Str} {n m : Nat} (a : Wk xs n) (b : Sm ys) (c : ys.length ≤ m) : Wk (xs ++ ys) (n + m) := ⟨ne_app a.ne, a.sm.app b, app_len a.len c⟩
theorem Wk.J {xs : List Str} {n : Nat} (a : Wk xs n) (h : n ≤ 200) : (J xs).length ≤ 13064 := J_len a.sm (Nat.le_trans a.len h)
theorem cat_J {ws ys : List Str} {n : Nat} {K : ByteArray → Prop} (w : Wk ws n) (hn : n ≤ 200) (sy : Sm ys) (ly : ys.length ≤ 60) (hk : K (bs (J (ws ++ ys)))) : catK (bs (J ws)) (bs (tl ys)) K := by
  have h1 := w.J hn
  have h2 := tl_sm sy ly
  exact cat_by (by omega) (J_app w.ne ys).symm hk
theorem slotJ {ws ws' : List Str} (e : ws = ws') : [MV.v (Value.string (bs (J ws)))] = [MV.v (Value.string (bs (J ws')))] := by rw [e]
theorem itoa_ne (n : Int) : Lib.itoa n ≠ [] := by
  have hd : ∀ u, Lib.decDigits u ≠ [] := fun u e => by
    have h1 := Lib.decDigits_length u
    rw [e] at h1
    have h2 := Lib.nDigits_pos u
    simp at h1
    omega
  unfold Lib.itoa
  split
  · simp
  · exact hd _
end
end Go.Proofs.YtciagjfemgfhgaaGreatDoor
