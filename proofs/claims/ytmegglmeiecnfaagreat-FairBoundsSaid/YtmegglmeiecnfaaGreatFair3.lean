/-
  Comparing and insertion sort.
-/
import Derived.Test.YtmegglmeiecnfaaGreatFair1
import Derived.Test.YtmegglmeiecnfaaGreatMidP
namespace Go.Proofs.YtmegglmeiecnfaaGreat
open Go Go.Mid Go.RowKit
attribute [local irreducible] X MLoop mid

theorem aRunK_call {P : Program} {ρ : Operand → Value} {o : Oper} {g : FuncId} {args : List Value} {h : Hp} {K : Value → Hp → Prop} (hA : actOf P ρ o = if callable P g = true then .call g args else .sem (execOp ρ o)) (hc : callable P g = true) (hx : X P g args.toArray h K) : aRunK P (actOf P ρ o) h K := by
  rw [hA, if_pos hc]; exact hx
theorem vfn {a b : Value} (h : a = b) : MV.v a = MV.v b := by rw [h]
set_option maxHeartbeats 4000000 in
set_option maxRecDepth 10000 in
theorem nan_x (x : Int) (h : Hp) (K : Value → Hp → Prop) (hk : K (.bool false) h) : X Tryz.prog 218 #[.int .i64 x] h K := by
  refine fnv (args := [.int .i64 x]) mixed [] [] [] Tryz.func218 rfl (by kernel_rfl) ?_
  conv => whnf
  show K (.bool (x != x)) h
  rw [show (x != x) = false by simp]
  exact hk
def cmpI (x y : Int) : Int := if x < y then -1 else if y < x then 1 else 0
set_option maxHeartbeats 4000000 in
set_option maxRecDepth 10000 in
theorem compare_x (x y : Int) (h : Hp) (K : Value → Hp → Prop) (hk : K (.int .i64 (cmpI x y)) h) : X Tryz.prog 124 #[.int .i64 x, .int .i64 y] h K := by
  refine fnv (args := [.int .i64 x, .int .i64 y]) mixed [] [] [] Tryz.func124 rfl (by kernel_rfl) ?_
  conv => whnf
  refine nan_x _ _ _ ?_
  conv => whnf
  refine nan_x _ _ _ ?_
  conv => whnf
  unfold cmpI at hk
  refine bsel_intro (fun h1 => ?_) (fun h1 => ?_)
  · conv => whnf
    rw [if_pos (by simpa using h1)] at hk
    exact hk
  · rw [if_neg (by simpa using h1)] at hk
    conv => whnf
    refine bsel_intro (fun h2 => ?_) (fun h2 => ?_)
    · conv => whnf
      rw [if_pos (by simpa using h2)] at hk
      exact hk
    · conv => whnf
      rw [if_neg (by simpa using h2)] at hk
      exact hk

/-! ### Insertion sort -/
def insR (lt : Int → Int → Bool) (x : Int) : List Int → List Int
  | [] => [x]
  | y :: r => if lt x y then y :: insR lt x r else x :: y :: r
def isortR (lt : Int → Int → Bool) (l : List Int) : List Int := l.foldl (fun acc x => insR lt x acc) []
theorem insR_length (lt : Int → Int → Bool) (x : Int) : ∀ l, (insR lt x l).length = l.length + 1
  | [] => rfl
  | y :: r => by unfold insR; split <;> simp [insR_length lt x r]
theorem isortR_snoc (lt : Int → Int → Bool) (l : List Int) (x : Int) : isortR lt (l ++ [x]) = insR lt x (isortR lt l) := by simp [isortR]
theorem isortR_length (lt : Int → Int → Bool) (l : List Int) : (isortR lt l).length = l.length := by
  have : ∀ (l acc : List Int), (l.foldl (fun acc x => insR lt x acc) acc).length = acc.length + l.length := by
    intro l
    induction l with
    | nil => intro acc; rfl
    | cons x l ih => intro acc; simp only [List.foldl_cons, ih, insR_length, List.length_cons]; omega
  have := this l []
  unfold isortR; rw [this]; simp
theorem insR_mem (lt : Int → Int → Bool) (x : Int) : ∀ l, ∀ y ∈ insR lt x l, y = x ∨ y ∈ l
  | [], y, hy => by simp [insR] at hy; exact .inl hy
  | z :: r, y, hy => by
    unfold insR at hy
    split at hy
    · rcases List.mem_cons.1 hy with rfl | hy
      · exact .inr (by simp)
      · rcases insR_mem lt x r y hy with rfl | hy
        · exact .inl rfl
        · exact .inr (by simp [hy])
    · simpa using hy
theorem isortR_mem (lt : Int → Int → Bool) (l : List Int) : ∀ y ∈ isortR lt l, y ∈ l := by
  have : ∀ (l acc : List Int), ∀ y ∈ l.foldl (fun acc x => insR lt x acc) acc, y ∈ acc ∨ y ∈ l := by
    intro l
    induction l with
    | nil => intro acc y hy; exact .inl hy
    | cons x l ih =>
      intro acc y hy
      rcases ih _ y hy with hy | hy
      · rcases insR_mem lt x acc y hy with rfl | hy
        · exact .inr (by simp)
        · exact .inl hy
      · exact .inr (by simp [hy])
  intro y hy
  rcases this l [] y hy with hy | hy
  · cases hy
  · exact hy
abbrev iv (l : List Int) : List Value := l.map (.int .i64)
theorem get_mid {α : Type} (a : List α) (x : α) (b : List α) : (a ++ x :: b)[a.length]? = some x := by simp
theorem set_mid {α : Type} (a : List α) (x y : α) (b : List α) : (a ++ x :: b).set a.length y = a ++ y :: b := by
  rw [List.set_append_right _ _ (Nat.le_refl _), Nat.sub_self, List.set_cons_zero]
theorem loadI {h : Hp} {d i : Nat} {l : List Int} {x : Int} (hd : h d = some (rowO 3 (iv l))) (hi : l[i]? = some x) : loadH Tryz.prog 3 h ((⟨d, 0, none⟩ : Addr).add (i * 1)) = some (.int .i64 x) := by
  rw [cellH, addr_add, Nat.zero_add, Nat.mul_one]
  exact cell_row hd (by rw [List.getElem?_map, hi]; rfl)
theorem storeI {h : Hp} {d i : Nat} {l : List Int} (x : Int) (hd : h d = some (rowO 3 (iv l))) (hi : i < l.length) : storeH Tryz.prog 3 h ((⟨d, 0, none⟩ : Addr).add (i * 1)) (.int .i64 x) = some (d, rowO 3 (iv (l.set i x))) := by
  rw [addr_add, Nat.zero_add, Nat.mul_one, iv, List.map_set]
  exact storeH_row (by kernel_rfl) hd (by simpa using hi) rfl rfl
set_option maxHeartbeats 4000000 in
set_option maxRecDepth 10000 in
theorem isort_x (d cap : Nat) (l : List Int) (g : FuncId) (first captured : Array Value) (cmp : Int → Int → Int) (h0 h : Hp) (K : Value → Hp → Prop) (hn : 1 ≤ l.length) (hcap : l.length ≤ cap) (hl : l.length ≤ 2 ^ 40)
    (hle : h0.le h) (h0d : h0 d = none) (hd : h d = some (rowO 3 (iv l)))
    (hcall : callable Tryz.prog g = true)
    (hcmp : ∀ (x y : Int) (h' : Hp) (K' : Value → Hp → Prop), x ∈ l → y ∈ l → h0.le h' → K' (.int .i64 (cmp x y)) h' → X Tryz.prog g (first.toList ++ ([Value.int .i64 x, Value.int .i64 y] ++ captured.toList)).toArray h' K')
    (hk : K (.tuple #[]) (h.set d (rowO 3 (iv (isortR (fun x y => decide (cmp x y < 0)) l).reverse)))) :
    X Tryz.prog 295 #[.slice (some ⟨d, 0, none⟩) l.length cap, .int .i64 0, .int .i64 l.length, .func (.func g) first captured] h K := by
  refine fnv (args := [.slice (some ⟨d, 0, none⟩) l.length cap, .int .i64 0, .int .i64 l.length, .func (.func g) first captured]) mixed [] [] [4] Tryz.func295 rfl (by kernel_rfl) ?_
  conv => whnf
  refine loop_at [8] [] (fun r vs _ h' => ∃ i : Nat, 1 ≤ i ∧ i ≤ l.length ∧ r = l.length - i ∧ vs = [.v (.int .i64 i)] ∧ h' = h.set d (rowO 3 (iv ((isortR (fun x y => decide (cmp x y < 0)) (l.take i)).reverse ++ l.drop i)))) (l.length - 1) ⟨1, by omega, by omega, rfl, rfl, ?_⟩ ?_
  · rw [Hp.set_self]
    rw [hd]
    cases l with
    | nil => simp at hn
    | cons x l => simp [isortR, insR]
  rintro r vs cs mm bx _ ⟨i, hi1, hi2, rfl, rfl, rfl⟩
  conv => whnf
  refine bsel_intro (fun h1 => ?_) (fun h1 => ?_)
  · simp only [decide_eq_true_eq] at h1
    have hix : i < l.length := by omega
    have hsn : l.take (i + 1) = l.take i ++ [l[i]] := List.take_succ_eq_append_getElem hix
    have hdr : l.drop i = l[i] :: l.drop (i + 1) := List.drop_eq_getElem_cons hix
    have hal := isortR_length (fun x y => decide (cmp x y < 0)) (l.take i)
    rw [List.length_take, Nat.min_eq_left (by omega)] at hal
    have hperm := isortR_mem (fun x y => decide (cmp x y < 0)) (l.take i)
    have hnext := isortR_snoc (fun x y => decide (cmp x y < 0)) (l.take i) l[i]
    rw [← hsn] at hnext
    generalize isortR (fun x y => decide (cmp x y < 0)) (l.take i) = acc at *
    conv => whnf
    refine loop_at [9] [] (fun r vs _ h' => ∃ r1 l2 : List Int, acc = l2.reverse ++ r1 ∧ insR (fun x y => decide (cmp x y < 0)) l[i] acc = l2.reverse ++ insR (fun x y => decide (cmp x y < 0)) l[i] r1 ∧ r = r1.length ∧ vs = [.v (.int .i64 r1.length)] ∧ h' = h.set d (rowO 3 (iv (r1.reverse ++ l[i] :: (l2 ++ l.drop (i + 1)))))) i
      ⟨acc, [], by simp, by simp, hal.symm, (by show [MV.v (.int .i64 (i : Int))] = _; rw [hal]), by rw [hdr]; simp⟩ ?_
    rintro r vs cs mm2 bx2 _ ⟨r1, l2, ha, hins, rfl, rfl, rfl⟩
    have hr1 : r1.length + l2.length = i := by rw [← hal, ha]; simp; omega
    have hmem : ∀ x ∈ r1, x ∈ l := fun x hx => List.mem_of_mem_take (i := i) (by
      have h2 : x ∈ acc := by rw [ha]; simp [hx]
      exact hperm x h2)
    conv => whnf
    refine ⟨fun h' => h' = h.set d (rowO 3 (iv (r1.reverse ++ l[i] :: (l2 ++ l.drop (i + 1))))), rfl, ?_⟩
    conv => whnf
    refine bsel_intro (fun h2 => ?_) (fun h2 => ?_)
    · simp only [decide_eq_true_eq] at h2
      cases r1 with
      | nil => simp at h2
      | cons y r1 =>
      simp only [List.length_cons] at h2 hr1
      have hlt : r1.length + 1 < l.length := by omega
      conv => whnf
      refine need_intro ⟨by omega, by simp only [List.length_cons]; omega⟩ ?_
      conv => whnf
      refine ⟨.int .i64 l[i], fun h' hh => ?_, ?_⟩
      · subst hh
        show loadH Tryz.prog 3 _ ((⟨d, 0, none⟩ : Addr).add ((y :: r1).length * 1)) = _
        exact loadI (Hp.set_same _ _ _) (by rw [← List.length_reverse]; exact get_mid _ _ _)
      conv => whnf
      have hw : IntKind.i64.wrap (((y :: r1).length : Int) - 1) = r1.length := by
        rw [List.length_cons, IntWalk.i64_in _ (by omega)]; omega
      rw [hw]
      refine need_intro ⟨by omega, by omega⟩ ?_
      conv => whnf
      refine ⟨.int .i64 y, fun h' hh => ?_, ?_⟩
      · subst hh
        show loadH Tryz.prog 3 _ ((⟨d, 0, none⟩ : Addr).add (r1.length * 1)) = _
        exact loadI (Hp.set_same _ _ _) (by simp only [List.reverse_cons, List.append_assoc, List.singleton_append]; rw [← List.length_reverse]; exact get_mid _ _ _)
      conv => whnf
      refine aRunK_call (args := first.toList ++ ([Value.int .i64 l[i], Value.int .i64 y] ++ captured.toList)) rfl hcall ?_
      refine hcmp _ _ _ _ (by simp) (hmem y (by simp)) (Hp.le_keep hle h0d) ?_
      refine ⟨rfl, ?_⟩
      conv => whnf
      have hinsc : insR (fun x y => decide (cmp x y < 0)) l[i] (y :: r1) = if cmp l[i] y < 0 then y :: insR (fun x y => decide (cmp x y < 0)) l[i] r1 else l[i] :: y :: r1 := by simp [insR]
      refine bsel_intro (fun h3 => ?_) (fun h3 => ?_)
      · simp only [decide_eq_true_eq] at h3
        rw [if_pos h3] at hinsc
        conv => whnf
        rw [hw]
        refine need_intro ⟨by omega, by omega⟩ ?_
        conv => whnf
        refine ⟨.int .i64 y, ?_, ?_⟩
        · show loadH Tryz.prog 3 _ ((⟨d, 0, none⟩ : Addr).add (r1.length * 1)) = _
          exact loadI (Hp.set_same _ _ _) (by simp only [List.reverse_cons, List.append_assoc, List.singleton_append]; rw [← List.length_reverse]; exact get_mid _ _ _)
        conv => whnf
        refine need_intro ⟨by omega, by simp only [List.length_cons]; omega⟩ ?_
        conv => whnf
        refine ⟨.int .i64 l[i], ?_, ?_⟩
        · show loadH Tryz.prog 3 _ ((⟨d, 0, none⟩ : Addr).add ((y :: r1).length * 1)) = _
          exact loadI (Hp.set_same _ _ _) (by rw [← List.length_reverse]; exact get_mid _ _ _)
        conv => whnf
        refine need_intro ⟨by omega, by simp only [List.length_cons]; omega⟩ ?_
        conv => whnf
        have hA : (y :: r1).reverse ++ l[i] :: (l2 ++ l.drop (i + 1)) = r1.reverse ++ y :: l[i] :: (l2 ++ l.drop (i + 1)) := by simp
        have hlen1 : ((y :: r1).reverse ++ l[i] :: (l2 ++ l.drop (i + 1))).length = l.length := by simp; omega
        have hB : ((y :: r1).reverse ++ l[i] :: (l2 ++ l.drop (i + 1))).set (r1.length + 1) y = r1.reverse ++ y :: y :: (l2 ++ l.drop (i + 1)) := by
          rw [show r1.length + 1 = (y :: r1).reverse.length by simp, set_mid]; simp
        have hC : (r1.reverse ++ y :: y :: (l2 ++ l.drop (i + 1))).set r1.length l[i] = r1.reverse ++ l[i] :: y :: (l2 ++ l.drop (i + 1)) := by
          rw [← List.length_reverse, set_mid]
        refine ⟨_, storeI (i := (y :: r1).length) y (Hp.set_same _ _ _) (by rw [hlen1, List.length_cons]; omega), trivial, ?_⟩
        conv => whnf
        refine need_intro ⟨by omega, by omega⟩ ?_
        conv => whnf
        refine ⟨_, storeI (i := r1.length) l[i] (Hp.set_same _ _ _) (by rw [List.length_set, hlen1]; omega), trivial, ?_⟩
        conv => whnf
        refine ⟨r1.length, by simp, r1, y :: l2, by rw [ha]; simp, by rw [hins, hinsc]; simp, rfl, ?_, ?_⟩
        · show [MV.v (.int .i64 (IntKind.i64.wrap (((y :: r1).length : Int) - 1)))] = _
          rw [hw]
        rw [List.length_cons, hB, hC, Hp.set_set, Hp.set_set]
        rfl
      · simp only [decide_eq_false_iff_not] at h3
        rw [if_neg h3] at hinsc
        conv => whnf
        refine ⟨l.length - (i + 1), by omega, i + 1, by omega, by omega, rfl, ?_, ?_⟩
        · show [MV.v (.int .i64 (IntKind.i64.wrap (i + 1)))] = _
          rw [IntWalk.i64_in _ (by omega)]; rfl
        · rw [hnext, hins, hinsc]
          simp
    · simp only [decide_eq_false_iff_not] at h2
      have hr0 : r1 = [] := by cases r1 with
        | nil => rfl
        | cons y r1 => simp at h2
      subst hr0
      conv => whnf
      refine ⟨l.length - (i + 1), by omega, i + 1, by omega, by omega, rfl, ?_, ?_⟩
      · show [MV.v (.int .i64 (IntKind.i64.wrap (i + 1)))] = _
        rw [IntWalk.i64_in _ (by omega)]; rfl
      · rw [hnext, hins]
        simp [insR]
  · simp only [decide_eq_false_iff_not] at h1
    obtain rfl : i = l.length := by omega
    conv => whnf
    rw [List.take_length, List.drop_length, List.append_nil]
    exact hk
end Go.Proofs.YtmegglmeiecnfaaGreat
