/-
  Outcomes compared.
-/
import Derived.Test.YtciagjfemgfhgaaDoorLta
import Derived.Test.YtciagjfemgfhgaaDoorPdqF
/-! Outcomes compared. -/
namespace Go.Proofs.YtciagjfemgfhgaaDoor
set_option linter.unusedSimpArgs false
set_option linter.unusedVariables false
open Go Go.Mid Go.RowKit
open Go.Sort (SWO)
attribute [local irreducible] mid
/-- Two rows of words, compared. -/
def cmpL : List Nat → List Nat → Int
  | [], [] => 0
  | [], _ :: _ => -1
  | _ :: _, [] => 1
  | x :: a, y :: b => if x < y then -1 else if y < x then 1 else cmpL a b
theorem cmpL_eq : ∀ (a b : List Nat), a.length = b.length → (cmpL a b = 0 ↔ a = b)
  | [], [], _ => by simp [cmpL]
  | [], _ :: _, h => by cases h
  | _ :: _, [], h => by cases h
  | x :: a, y :: b, h => by
    have ih := cmpL_eq a b (by simpa using h)
    unfold cmpL
    by_cases h1 : x < y
    · rw [if_pos h1]
      simp
      intro e; omega
    · rw [if_neg h1]
      by_cases h2 : y < x
      · rw [if_pos h2]
        simp
        intro e; omega
      · rw [if_neg h2, ih]
        have : x = y := by omega
        simp [this]
theorem cmpL_neg : ∀ (a b : List Nat), a.length = b.length → cmpL b a = - cmpL a b
  | [], [], _ => rfl
  | [], _ :: _, h => by cases h
  | _ :: _, [], h => by cases h
  | x :: a, y :: b, h => by
    have ih := cmpL_neg a b (by simpa using h)
    unfold cmpL
    by_cases h1 : x < y
    · rw [if_neg (by omega), if_pos h1, if_pos h1]; rfl
    · by_cases h2 : y < x
      · rw [if_pos h2, if_neg h1, if_pos h2]
      · rw [if_neg h2, if_neg h1, if_neg h1, if_neg h2, ih]
theorem cmpL_trans : ∀ (a b c : List Nat), a.length = b.length → b.length = c.length → cmpL a b < 0 → cmpL b c < 0 → cmpL a c < 0
  | [], [], _, _, _, h, _ => by simp [cmpL] at h
  | [], _ :: _, _, h, _, _, _ => by cases h
  | _ :: _, [], _, h, _, _, _ => by cases h
  | _ :: _, _ :: _, [], _, h, _, _ => by cases h
  | x :: a, y :: b, z :: c, h1, h2, h3, h4 => by
    have ih := cmpL_trans a b c (by simpa using h1) (by simpa using h2)
    unfold cmpL at h3 h4 ⊢
    by_cases e1 : x < y
    · by_cases e2 : y < z
      · rw [if_pos (by omega)]; decide
      · rw [if_neg e2] at h4
        by_cases e3 : z < y
        · rw [if_pos e3] at h4; omega
        · rw [if_pos (by omega)]; decide
    · rw [if_neg e1] at h3
      by_cases e2 : y < x
      · rw [if_pos e2] at h3; omega
      · rw [if_neg e2] at h3
        by_cases e3 : y < z
        · rw [if_pos (by omega)]; decide
        · rw [if_neg e3] at h4
          by_cases e4 : z < y
          · rw [if_pos e4] at h4; omega
          · rw [if_neg e4] at h4
            rw [if_neg (by omega), if_neg (by omega)]
            exact ih h3 h4
theorem cmpL_drop {a b : List Nat} {i x y : Nat} (ha : a[i]? = some x) (hb : b[i]? = some y) : cmpL (a.drop i) (b.drop i) = if x < y then -1 else if y < x then 1 else cmpL (a.drop (i + 1)) (b.drop (i + 1)) := by
  have h1 := (List.getElem?_eq_some_iff.1 ha)
  have h2 := (List.getElem?_eq_some_iff.1 hb)
  rw [List.drop_eq_getElem_cons h1.1, List.drop_eq_getElem_cons h2.1, h1.2, h2.2]
  rfl
/-- An outcome: sixteen words. -/
structure Oc where
  W : List Nat
  len : W.length = 16
instance : Inhabited Oc := ⟨⟨[0, 0, 0, 0, 0, 0, 0, 0, 0, 0, 0, 0, 0, 0, 0, 0], rfl⟩⟩
def Oc.cs (o : Oc) : List Value := o.W.map uv
def ltO (a b : Oc) : Bool := decide (cmpL a.W b.W < 0)
theorem Oc.ext {a b : Oc} (h : a.W = b.W) : a = b := by cases a; cases b; simp only at h; subst h; rfl
theorem ltO_swo : SWO ltO where
  irrefl := fun x => by
    unfold ltO
    rw [(cmpL_eq x.W x.W rfl).2 rfl]; rfl
  trans := fun x y z h1 h2 => by
    unfold ltO at *
    simp only [decide_eq_true_eq] at *
    exact cmpL_trans _ _ _ (by rw [x.len, y.len]) (by rw [y.len, z.len]) h1 h2
  ntrans := fun x y z h1 h2 => by
    unfold ltO at *
    simp only [decide_eq_false_iff_not] at *
    intro h3
    have e1 := cmpL_neg x.W y.W (by rw [x.len, y.len])
    have e2 := cmpL_neg y.W z.W (by rw [y.len, z.len])
    by_cases c1 : cmpL x.W y.W = 0
    · have := (cmpL_eq _ _ (by rw [x.len, y.len])).1 c1
      rw [← this] at h2; exact h2 h3
    · by_cases c2 : cmpL y.W z.W = 0
      · have := (cmpL_eq _ _ (by rw [y.len, z.len])).1 c2
        rw [this] at h1; exact h1 h3
      · have h4 := cmpL_trans z.W y.W x.W (by rw [z.len, y.len]) (by rw [y.len, x.len]) (by omega) (by omega)
        have e3 := cmpL_neg x.W z.W (by rw [x.len, z.len])
        omega
theorem ltO_total {a b : Oc} (h1 : ltO a b = false) (h2 : ltO b a = false) : a = b := by
  unfold ltO at *
  simp only [decide_eq_false_iff_not] at *
  have e1 := cmpL_neg a.W b.W (by rw [a.len, b.len])
  exact Oc.ext ((cmpL_eq _ _ (by rw [a.len, b.len])).1 (by omega))
theorem sixteen {W : List Nat} (h : W.length = 16) : ∃ a0 a1 a2 a3 a4 a5 a6 a7 a8 a9 b0 b1 b2 b3 b4 b5, W = [a0, a1, a2, a3, a4, a5, a6, a7, a8, a9, b0, b1, b2, b3, b4, b5] := by
  match W, h with
  | [a0, a1, a2, a3, a4, a5, a6, a7, a8, a9, b0, b1, b2, b3, b4, b5], _ => exact ⟨a0, a1, a2, a3, a4, a5, a6, a7, a8, a9, b0, b1, b2, b3, b4, b5, rfl⟩
section
set_option maxHeartbeats 8000000
set_option maxRecDepth 10000
variable {h : Hp} {K : Value → Hp → Prop}
def cmpI (a b : Int) : Int := if a < b then -1 else if a > b then 1 else 0
theorem cmpU_x (a b : Int) (hk : K (.int .i64 (cmpI a b)) h) : X Tryd.prog 35 #[.int .u64 a, .int .u64 b] h K := by
  have nan : ∀ (x : Int) (K : Value → Hp → Prop), K (.bool false) h → X Tryd.prog 44 #[.int .u64 x] h K := fun x K hk => by
    refine fnv (args := _) mixed [] [] [] Tryd.func44 rfl (by kernel_rfl) ?_
    conv => whnf
    exact kq hk (bI (by simp))
  unfold cmpI at hk
  refine fnv (args := _) mixed [] [] [] Tryd.func35 rfl (by kernel_rfl) ?_
  conv => whnf
  refine nan a _ ?_
  conv => whnf
  refine nan b _ ?_
  conv => whnf
  refine bsel_intro (fun q1 => ?_) (fun q1 => ?_) <;> try simp only [decide_eq_true_eq, decide_eq_false_iff_not, beq_iff_eq, beq_eq_false_iff_ne, ne_eq, Bool.not_eq_true', Bool.not_eq_false', bne_iff_ne, bne_eq_false_iff_eq, Bool.not_eq_true, Bool.not_eq_false, Bool.and_eq_true, Bool.or_eq_true, bs_size] at q1
  · rw [if_pos q1] at hk
    conv => whnf
    exact hk
  · rw [if_neg q1] at hk
    conv => whnf
    refine bsel_intro (fun q2 => ?_) (fun q2 => ?_) <;> try simp only [decide_eq_true_eq, decide_eq_false_iff_not, beq_iff_eq, beq_eq_false_iff_ne, ne_eq, Bool.not_eq_true', Bool.not_eq_false', bne_iff_ne, bne_eq_false_iff_eq, Bool.not_eq_true, Bool.not_eq_false, Bool.and_eq_true, Bool.or_eq_true, bs_size] at q2
    · rw [if_pos (by omega)] at hk
      conv => whnf
      exact hk
    · rw [if_neg (by omega)] at hk
      conv => whnf
      exact hk
/-- slices.Compare. -/
theorem compare_x (s1 s2 : Value) (A B : List Nat) (r1 : Rd Tryd.prog 25 1 h s1 (A.map uv)) (r2 : Rd Tryd.prog 25 1 h s2 (B.map uv)) (hA : A.length ≤ 100) (hB : B.length ≤ 100) (hk : K (zv (cmpL A B)) h) : X Tryd.prog 17 #[s1, s2] h K := by
  obtain ⟨b1, c1, rfl, f1⟩ := r1
  obtain ⟨b2, c2, rfl, f2⟩ := r2
  rw [List.length_map, List.length_map] at *
  have hk' : ∀ x : Int, x = cmpL A B → K (zv x) h := fun x e => e ▸ hk
  clear hk
  refine fnv (args := _) mixed [] [] [] Tryd.func17 rfl (by kernel_rfl) ?_
  conv => whnf
  refine loop_at [11] [] (fun r vs cs h' => h = h' ∧ ∃ i : Nat, i ≤ A.length ∧ r = A.length - i ∧ vs = [.v (zv i)] ∧ i ≤ B.length ∧ cmpL (A.drop i) (B.drop i) = cmpL A B) A.length ⟨rfl, 0, by omega, by omega, rfl, by omega, rfl⟩ ?_
  rintro r vs cs mm bx _ ⟨rfl, i, hi, rfl, rfl, hiB, he⟩
  conv => whnf
  refine bsel_intro (fun q1 => ?_) (fun q1 => ?_) <;> try simp only [decide_eq_true_eq, decide_eq_false_iff_not, beq_iff_eq, beq_eq_false_iff_ne, ne_eq, Bool.not_eq_true', Bool.not_eq_false', bne_iff_ne, bne_eq_false_iff_eq, Bool.not_eq_true, Bool.not_eq_false, Bool.and_eq_true, Bool.or_eq_true, bs_size] at q1
  · have hiA : i < A.length := by omega
    obtain ⟨x, hx⟩ : ∃ x, A[i]? = some x := ⟨_, List.getElem?_eq_getElem hiA⟩
    obtain ⟨a1, rfl, l1⟩ := f1 i (uv x) (by rw [List.getElem?_map, hx]; rfl)
    have l1 : loadH Tryd.prog 25 h (a1.add (((i : Nat) : Int).toNat * 1)) = some (uv x) := by rw [Int.toNat_natCast]; exact l1
    conv => whnf
    first | refine need_intro (⟨by omega, by omega⟩) ?_ | refine must.mk (⟨by omega, by omega⟩) ?_
    conv => whnf
    refine ⟨_, l1, ?_⟩
    conv => whnf
    refine bsel_intro (fun q2 => ?_) (fun q2 => ?_) <;> try simp only [decide_eq_true_eq, decide_eq_false_iff_not, beq_iff_eq, beq_eq_false_iff_ne, ne_eq, Bool.not_eq_true', Bool.not_eq_false', bne_iff_ne, bne_eq_false_iff_eq, Bool.not_eq_true, Bool.not_eq_false, Bool.and_eq_true, Bool.or_eq_true, bs_size] at q2
    · have hBi : B.drop i = [] := List.drop_eq_nil_of_le (by omega)
      rw [hBi, List.drop_eq_getElem_cons hiA] at he
      conv => whnf
      exact hk' 1 he
    · obtain ⟨y, hy⟩ : ∃ y, B[i]? = some y := ⟨_, List.getElem?_eq_getElem (by omega)⟩
      obtain ⟨a2, rfl, l2⟩ := f2 i (uv y) (by rw [List.getElem?_map, hy]; rfl)
      have l2 : loadH Tryd.prog 25 h (a2.add (((i : Nat) : Int).toNat * 1)) = some (uv y) := by rw [Int.toNat_natCast]; exact l2
      rw [cmpL_drop hx hy] at he
      conv => whnf
      first | refine need_intro (⟨by omega, by omega⟩) ?_ | refine must.mk (⟨by omega, by omega⟩) ?_
      conv => whnf
      refine ⟨_, l2, ?_⟩
      conv => whnf
      refine cmpU_x (x : Int) (y : Int) ?_
      have hcc : cmpI (x : Int) (y : Int) = if x < y then -1 else if y < x then 1 else 0 := by
        unfold cmpI
        (repeat' split) <;> omega
      rw [hcc]
      conv => whnf
      refine bsel_intro (fun q3 => ?_) (fun q3 => ?_) <;> try simp only [decide_eq_true_eq, decide_eq_false_iff_not, beq_iff_eq, beq_eq_false_iff_ne, ne_eq, Bool.not_eq_true', Bool.not_eq_false', bne_iff_ne, bne_eq_false_iff_eq, Bool.not_eq_true, Bool.not_eq_false, Bool.and_eq_true, Bool.or_eq_true, bs_size] at q3
      · conv => whnf
        refine hk' _ ?_
        rw [← he]
        by_cases e1 : x < y
        · rw [if_pos e1, if_pos e1]
        · rw [if_neg e1, if_neg e1]
          by_cases e2 : y < x
          · rw [if_pos e2, if_pos e2]
          · rw [if_neg e1, if_neg e2] at q3
            omega
      · have e1 : ¬ x < y := fun e => by rw [if_pos e] at q3; omega
        have e2 : ¬ y < x := fun e => by rw [if_neg e1, if_pos e] at q3; omega
        rw [if_neg e1, if_neg e2] at he
        conv => whnf
        first | refine ov_i64 (by omega) ?_ | refine ov_u64 (by omega) ?_ | refine ov_i64 (by decide) ?_ | refine ov_u64 (by decide) ?_ | refine ov_u8 (by omega) ?_ | refine ov_i32 (by omega) ?_ | refine ov_u32 (by omega) ?_
        conv => whnf
        exact ⟨A.length - (i + 1), by omega, rfl, i + 1, by omega, rfl, rfl, by omega, he⟩
  · have hAi : A.drop i = [] := List.drop_eq_nil_of_le (by omega)
    rw [hAi] at he
    conv => whnf
    refine bsel_intro (fun q2 => ?_) (fun q2 => ?_) <;> try simp only [decide_eq_true_eq, decide_eq_false_iff_not, beq_iff_eq, beq_eq_false_iff_ne, ne_eq, Bool.not_eq_true', Bool.not_eq_false', bne_iff_ne, bne_eq_false_iff_eq, Bool.not_eq_true, Bool.not_eq_false, Bool.and_eq_true, Bool.or_eq_true, bs_size] at q2
    · conv => whnf
      rw [List.drop_eq_getElem_cons (show i < B.length by omega)] at he
      exact hk' (-1) he
    · have hBi : B.drop i = [] := List.drop_eq_nil_of_le (by omega)
      rw [hBi] at he
      conv => whnf
      exact hk' 0 he
end
end Go.Proofs.YtciagjfemgfhgaaDoor
/-! Outcomes compared: words, Less. -/
namespace Go.Proofs.YtciagjfemgfhgaaDoor
set_option linter.unusedSimpArgs false
set_option linter.unusedVariables false
open Go Go.Mid Go.RowKit
attribute [local irreducible] mid
section
set_option maxHeartbeats 8000000
set_option maxRecDepth 10000
variable {h : Hp} {K : Value → Hp → Prop}
theorem infU64 : Tryd.prog.info? 25 = some Tryd.prog.types[25] := by kernel_rfl
theorem clone_x {b off len cap : Nat} {el : TypeId} {cs : Array Value} {fz : Nat × Nat} (A : List Nat) (hb : h b = some (.cells cs el fz)) (hA : A.length = len) (hl : ∀ j x, A[j]? = some x → h.cell? ⟨b, off + j, none⟩ = some (uv x)) (hlen : len ≤ 1000)
    (hk : ∀ s' h', Owns h h' 25 1 s' A.length (A.map uv) → K s' h') : X Tryd.prog 36 #[.slice (some ⟨b, off, none⟩) len cap] h K := by
  refine fnv (args := _) mixed [] [] [] Tryd.func36 rfl (by kernel_rfl) ?_
  conv => whnf
  refine new_intro (o := rowO 25 []) (fun z h1 n_z le_z at_z ot_z => ?_)
  conv => whnf
  have hz : Owns h h1 25 1 (.slice (some ⟨z, 0, none⟩) 0 0) 0 [] := ⟨some z, ⟨rfl, .inr ⟨z, 0, [], rfl, rfl, Nat.le_refl _, rfl, at_z⟩⟩, le_z, fun c e => by cases e; exact n_z⟩
  refine Owns.appN (z := uv 0) (news := A.map uv) (bytes := 8) (by kernel_rfl) infU64 (by kernel_rfl) (by kernel_rfl) (by kernel_rfl) rfl (by decide) rfl rfl rfl hz (by rw [List.length_map, hA]; exact (Nat.mul_one _).symm) (fun j v hj => ⟨_, rfl, ?_⟩) (fun e => by cases e) (by simp [Value.oneCell']) (by omega) fun s5 h5 hO5 => ?_
  · rw [List.getElem?_map] at hj
    cases hx : A[j]? with
    | none => rw [hx] at hj; cases hj
    | some x =>
      rw [hx] at hj
      cases hj
      rw [addr_add]
      exact cell_le le_z (hl j x hx)
  rw [Nat.zero_add, ← hA] at hO5
  conv => whnf
  exact hk _ _ hO5
theorem aggOc : isAggT Tryd.prog 29 = some true := by kernel_rfl
theorem sizOc : sizeT Tryd.prog 29 = some 16 := by kernel_rfl
theorem agg34 : isAggT Tryd.prog 27 = some true := by kernel_rfl
theorem siz34 : sizeT Tryd.prog 27 = some 12 := by kernel_rfl
theorem agg4 : isAggT Tryd.prog 26 = some true := by kernel_rfl
theorem siz4 : sizeT Tryd.prog 26 = some 4 := by kernel_rfl
theorem words_x (o : Oc) (hk : ∀ s' h', Owns h h' 25 1 s' 16 (o.W.map uv) → K s' h') : X Tryd.prog 18 #[.agg o.cs.toArray] h K := by
  obtain ⟨W, hW⟩ := o
  obtain ⟨a0, a1, a2, a3, a4, a5, a6, a7, a8, a9, b0, b1, b2, b3, b4, b5, rfl⟩ := sixteen hW
  have hcs : (Oc.mk [a0, a1, a2, a3, a4, a5, a6, a7, a8, a9, b0, b1, b2, b3, b4, b5] hW).cs = [uv a0, uv a1, uv a2, uv a3, uv a4, uv a5, uv a6, uv a7, uv a8, uv a9, uv b0, uv b1, uv b2, uv b3, uv b4, uv b5] := rfl
  rw [hcs]
  simp only [List.map_cons, List.map_nil] at hk
  refine fnv (args := _) mixed [] [] [] Tryd.func18 rfl (by kernel_rfl) ?_
  conv => whnf
  refine new_intro (o := rowO 29 [uv a0, uv a1, uv a2, uv a3, uv a4, uv a5, uv a6, uv a7, uv a8, uv a9, uv b0, uv b1, uv b2, uv b3, uv b4, uv b5]) (fun b h1 n_b le_b at_b ot_b => ?_)
  conv => whnf
  show X _ _ #[.slice (some ⟨b, 0, none⟩) 4 4] _ _
  refine clone_x (off := 0) [a0, a1, a2, a3] at_b rfl (fun j x hj => ?_) (by decide) fun s2 h2 hO2 => ?_
  · rw [Nat.zero_add]
    refine cell_row at_b ?_
    match j, hj with
    | 0, hj => cases hj; rfl
    | 1, hj => cases hj; rfl
    | 2, hj => cases hj; rfl
    | 3, hj => cases hj; rfl
  have q2 := hO2.le _ _ at_b
  have hO2 : Owns h h2 25 1 s2 4 [uv a0, uv a1, uv a2, uv a3] := hO2.weak le_b
  conv => whnf
  refine ⟨_, loadP (k := 4) (x := [uv a4, uv a5, uv a6, uv a7, uv a8, uv a9, uv b0, uv b1, uv b2, uv b3, uv b4, uv b5]) agg34 siz34 q2 rfl rfl, ?_⟩
  conv => whnf
  refine loop_step ?_
  conv => whnf
  refine new_intro (o := rowO 26 [uv 0, uv 0, uv 0, uv 0]) (fun y0 g0 n_y0 le_y0 at_y0 ot_y0 => ?_)
  conv => whnf
  refine wr_intro (by exact storeA0 (z := .agg #[uv a4, uv a5, uv a6, uv a7]) siz4 at_y0 rfl rfl rfl) (fun k0 at_k0 ot_k0 => ?_)
  try (conv => whnf)
  conv => whnf
  refine Owns.appN (z := uv 0) (news := [uv a4, uv a5, uv a6, uv a7]) (bytes := 8) (by kernel_rfl) infU64 (by kernel_rfl) (by kernel_rfl) (by kernel_rfl) rfl (by decide) rfl rfl rfl (hO2.up (Hp.le_st n_y0 le_y0 ot_k0)) rfl (fun j v hj => ⟨_, rfl, ?_⟩) (fun e => by cases e) rfl (by decide) fun s3 m0 hO3 => ?_
  · show k0.cell? ((((⟨y0, 0, none⟩ : Addr).add (0 * 1))).add j) = _
    rw [addr_add, addr_add]
    have at2 : k0 y0 = some (rowO 26 [uv a4, uv a5, uv a6, uv a7]) := at_k0
    exact cell_row at2 (by simpa using hj)
  conv => whnf
  first | refine ov_i64 (by omega) ?_ | refine ov_u64 (by omega) ?_ | refine ov_i64 (by decide) ?_ | refine ov_u64 (by decide) ?_ | refine ov_u8 (by omega) ?_ | refine ov_i32 (by omega) ?_ | refine ov_u32 (by omega) ?_
  conv => whnf
  refine loop_step ?_
  conv => whnf
  refine new_intro (o := rowO 26 [uv 0, uv 0, uv 0, uv 0]) (fun y1 g1 n_y1 le_y1 at_y1 ot_y1 => ?_)
  conv => whnf
  refine wr_intro (by exact storeA0 (z := .agg #[uv a8, uv a9, uv b0, uv b1]) siz4 at_y1 rfl rfl rfl) (fun k1 at_k1 ot_k1 => ?_)
  try (conv => whnf)
  conv => whnf
  refine Owns.appN (z := uv 0) (news := [uv a8, uv a9, uv b0, uv b1]) (bytes := 8) (by kernel_rfl) infU64 (by kernel_rfl) (by kernel_rfl) (by kernel_rfl) rfl (by decide) rfl rfl rfl (hO3.up (Hp.le_st n_y1 le_y1 ot_k1)) rfl (fun j v hj => ⟨_, rfl, ?_⟩) (fun e => by cases e) rfl (by decide) fun s4 m1 hO4 => ?_
  · show k1.cell? ((((⟨y1, 0, none⟩ : Addr).add (0 * 1))).add j) = _
    rw [addr_add, addr_add]
    have at2 : k1 y1 = some (rowO 26 [uv a8, uv a9, uv b0, uv b1]) := at_k1
    exact cell_row at2 (by simpa using hj)
  conv => whnf
  first | refine ov_i64 (by omega) ?_ | refine ov_u64 (by omega) ?_ | refine ov_i64 (by decide) ?_ | refine ov_u64 (by decide) ?_ | refine ov_u8 (by omega) ?_ | refine ov_i32 (by omega) ?_ | refine ov_u32 (by omega) ?_
  conv => whnf
  refine loop_step ?_
  conv => whnf
  refine new_intro (o := rowO 26 [uv 0, uv 0, uv 0, uv 0]) (fun y2 g2 n_y2 le_y2 at_y2 ot_y2 => ?_)
  conv => whnf
  refine wr_intro (by exact storeA0 (z := .agg #[uv b2, uv b3, uv b4, uv b5]) siz4 at_y2 rfl rfl rfl) (fun k2 at_k2 ot_k2 => ?_)
  try (conv => whnf)
  conv => whnf
  refine Owns.appN (z := uv 0) (news := [uv b2, uv b3, uv b4, uv b5]) (bytes := 8) (by kernel_rfl) infU64 (by kernel_rfl) (by kernel_rfl) (by kernel_rfl) rfl (by decide) rfl rfl rfl (hO4.up (Hp.le_st n_y2 le_y2 ot_k2)) rfl (fun j v hj => ⟨_, rfl, ?_⟩) (fun e => by cases e) rfl (by decide) fun s5 m2 hO5 => ?_
  · show k2.cell? ((((⟨y2, 0, none⟩ : Addr).add (0 * 1))).add j) = _
    rw [addr_add, addr_add]
    have at2 : k2 y2 = some (rowO 26 [uv b2, uv b3, uv b4, uv b5]) := at_k2
    exact cell_row at2 (by simpa using hj)
  conv => whnf
  first | refine ov_i64 (by omega) ?_ | refine ov_u64 (by omega) ?_ | refine ov_i64 (by decide) ?_ | refine ov_u64 (by decide) ?_ | refine ov_u8 (by omega) ?_ | refine ov_i32 (by omega) ?_ | refine ov_u32 (by omega) ?_
  conv => whnf
  refine loop_step ?_
  conv => whnf
  exact hk _ _ hO5
/-- Less. -/
theorem less_x (a b : Oc) (hk : K (.bool (ltO a b)) h) : X Tryd.prog 5 #[.agg a.cs.toArray, .agg b.cs.toArray] h K := by
  refine X.forget ?_
  have la : a.cs.length = 16 := by rw [Oc.cs, List.length_map]; exact a.len
  have lb : b.cs.length = 16 := by rw [Oc.cs, List.length_map]; exact b.len
  refine fnv (args := _) mixed [] [] [7] Tryd.func5 rfl (by kernel_rfl) ?_
  conv => whnf
  refine new_intro (o := rowO 29 a.cs) (fun x1 h1 n_x1 le_x1 at_x1 ot_x1 => ?_)
  conv => whnf
  refine new_intro (o := rowO 29 b.cs) (fun x2 h2 n_x2 le_x2 at_x2 ot_x2 => ?_)
  conv => whnf
  have p2 := le_x2 _ _ at_x1
  refine ⟨fun h' => h' x2 = some (rowO 29 b.cs), at_x2, ?_⟩
  conv => whnf
  refine ⟨_, loadA0 aggOc sizOc p2 la, ?_⟩
  conv => whnf
  refine words_x a fun s3 h3 hO3 => ?_
  refine ⟨hO3.le _ _ at_x2, ?_⟩
  conv => whnf
  refine ⟨_, fun _ hh => loadA0 aggOc sizOc hh lb, ?_⟩
  conv => whnf
  refine words_x b fun s4 h4 hO4 => ?_
  refine ⟨hO4.le _ _ (hO3.le _ _ at_x2), ?_⟩
  conv => whnf
  refine compare_x s3 s4 a.W b.W ((hO3.rd aggW64).le hO4.le) (hO4.rd aggW64) (by rw [a.len]; decide) (by rw [b.len]; decide) ?_
  refine ⟨hO4.le _ _ (hO3.le _ _ at_x2), ?_⟩
  conv => whnf
  refine ⟨h, Hp.le_trans (Hp.le_trans le_x1 le_x2) (Hp.le_trans hO3.le hO4.le), kq hk (bI ?_)⟩
  unfold ltO
  rfl
theorem outCmp_x (a b : Oc) (hk : ∀ c : Int, decide (c < 0) = ltO a b → K (.int .i64 c) h) : X Tryd.prog 30 #[.agg a.cs.toArray, .agg b.cs.toArray] h K := by
  refine X.forget ?_
  have la : a.cs.length = 16 := by rw [Oc.cs, List.length_map]; exact a.len
  have lb : b.cs.length = 16 := by rw [Oc.cs, List.length_map]; exact b.len
  refine fnv (args := _) mixed [] [] [7] Tryd.func30 rfl (by kernel_rfl) ?_
  conv => whnf
  refine new_intro (o := rowO 29 a.cs) (fun x1 h1 n_x1 le_x1 at_x1 ot_x1 => ?_)
  conv => whnf
  refine new_intro (o := rowO 29 b.cs) (fun x2 h2 n_x2 le_x2 at_x2 ot_x2 => ?_)
  conv => whnf
  have p2 := le_x2 _ _ at_x1
  refine ⟨fun h' => h' x2 = some (rowO 29 b.cs), at_x2, ?_⟩
  conv => whnf
  refine ⟨_, loadA0 aggOc sizOc p2 la, ?_⟩
  conv => whnf
  refine words_x a fun s3 h3 hO3 => ?_
  refine ⟨hO3.le _ _ at_x2, ?_⟩
  conv => whnf
  refine ⟨_, fun _ hh => loadA0 aggOc sizOc hh lb, ?_⟩
  conv => whnf
  refine words_x b fun s4 h4 hO4 => ?_
  refine ⟨hO4.le _ _ (hO3.le _ _ at_x2), ?_⟩
  conv => whnf
  refine compare_x s3 s4 a.W b.W ((hO3.rd aggW64).le hO4.le) (hO4.rd aggW64) (by rw [a.len]; decide) (by rw [b.len]; decide) ?_
  refine ⟨hO4.le _ _ (hO3.le _ _ at_x2), ?_⟩
  conv => whnf
  exact ⟨h, Hp.le_trans (Hp.le_trans le_x1 le_x2) (Hp.le_trans hO3.le hO4.le), hk _ rfl⟩
theorem outS : Srt1 (α := Oc) Oc.cs ltO (.func (.func 30) #[] #[]) where
  len := fun o => by rw [Oc.cs, List.length_map]; exact o.len
  one := fun x => by simp [Oc.cs, Value.oneCell']
  cmp := fun x z h K hk => yv_x (by kernel_rfl) (outCmp_x x z hk)
/-- The document's Less. -/
theorem rless_x (a b : Oc) (hk : K (.bool (ltO a b)) h) : X Tryd.prog 6 #[.agg a.cs.toArray, .agg b.cs.toArray] h K := by
  refine X.forget ?_
  have hk' : ∀ (h' : Hp) (t : Bool), t = ltO a b → h.le h' → (∃ g : Hp, g.le h' ∧ K (.bool t) g) := fun h' t e hle => ⟨h, hle, e ▸ hk⟩
  clear hk
  unfold ltO at hk'
  have la := a.len
  have lb := b.len
  have hga : ∀ j, j < 16 → ∃ x, a.W[j]? = some x := fun j hj => ⟨_, List.getElem?_eq_getElem (by omega)⟩
  have hgb : ∀ j, j < 16 → ∃ x, b.W[j]? = some x := fun j hj => ⟨_, List.getElem?_eq_getElem (by omega)⟩
  have hca : ∀ (j x : Nat), a.W[j]? = some x → a.cs[j]? = some (uv x) := fun j x hx => by rw [Oc.cs, List.getElem?_map, hx]; rfl
  have hcb : ∀ (j x : Nat), b.W[j]? = some x → b.cs[j]? = some (uv x) := fun j x hx => by rw [Oc.cs, List.getElem?_map, hx]; rfl
  refine fnv (args := _) mixed [] [] [] Tryd.func6 rfl (by kernel_rfl) ?_
  conv => whnf
  refine new_intro (o := rowO 32 a.cs) (fun x1 h1 n_x1 le_x1 at_x1 ot_x1 => ?_)
  conv => whnf
  refine new_intro (o := rowO 32 b.cs) (fun x2 h2 n_x2 le_x2 at_x2 ot_x2 => ?_)
  conv => whnf
  have p1 := le_x2 _ _ at_x1
  have p2 := at_x2
  have le2 := Hp.le_trans le_x1 le_x2
  clear at_x1 at_x2 ot_x1 ot_x2 le_x1 le_x2
  refine loop_at [5] [] (fun r vs cs h' => h2 = h' ∧ ∃ i : Nat, i ≤ 4 ∧ r = 4 - i ∧ vs = [.v (zv i)] ∧ cmpL (a.W.drop i) (b.W.drop i) = cmpL a.W b.W) 4 ⟨rfl, 0, by omega, by omega, rfl, rfl⟩ ?_
  rintro r vs cs mm bx _ ⟨rfl, i, hi, rfl, rfl, he⟩
  conv => whnf
  refine bsel_intro (fun q1 => ?_) (fun q1 => ?_) <;> try simp only [decide_eq_true_eq, decide_eq_false_iff_not, beq_iff_eq, beq_eq_false_iff_ne, ne_eq, Bool.not_eq_true', Bool.not_eq_false', bne_iff_ne, bne_eq_false_iff_eq, Bool.not_eq_true, Bool.not_eq_false, Bool.and_eq_true, Bool.or_eq_true, bs_size] at q1
  · have hi4 : i < 4 := by omega
    obtain ⟨x, hx⟩ := hga i (by omega)
    obtain ⟨y, hy⟩ := hgb i (by omega)
    have ax : ∀ z : Nat, (((⟨z, 0, none⟩ : Addr).add 0).add (((i : Nat) : Int).toNat * 1)) = ⟨z, i, none⟩ := fun z => by simp [addr_add]
    rw [cmpL_drop hx hy] at he
    conv => whnf
    first | refine need_intro (⟨by omega, by omega⟩) ?_ | refine must.mk (⟨by omega, by omega⟩) ?_
    conv => whnf
    refine ⟨_, loadCA (ax x1) aggW64 p1 (hca _ _ hx), ?_⟩
    conv => whnf
    first | refine need_intro (⟨by omega, by omega⟩) ?_ | refine must.mk (⟨by omega, by omega⟩) ?_
    conv => whnf
    refine ⟨_, loadCA (ax x2) aggW64 p2 (hcb _ _ hy), ?_⟩
    conv => whnf
    refine bsel_intro (fun q2 => ?_) (fun q2 => ?_) <;> try simp only [decide_eq_true_eq, decide_eq_false_iff_not, beq_iff_eq, beq_eq_false_iff_ne, ne_eq, Bool.not_eq_true', Bool.not_eq_false', bne_iff_ne, bne_eq_false_iff_eq, Bool.not_eq_true, Bool.not_eq_false, Bool.and_eq_true, Bool.or_eq_true, bs_size] at q2
    · conv => whnf
      first | refine need_intro (⟨by omega, by omega⟩) ?_ | refine must.mk (⟨by omega, by omega⟩) ?_
      conv => whnf
      refine ⟨_, loadCA (ax x1) aggW64 p1 (hca _ _ hx), ?_⟩
      conv => whnf
      first | refine need_intro (⟨by omega, by omega⟩) ?_ | refine must.mk (⟨by omega, by omega⟩) ?_
      conv => whnf
      refine ⟨_, loadCA (ax x2) aggW64 p2 (hcb _ _ hy), ?_⟩
      conv => whnf
      refine hk' _ _ ?_ le2
      rw [← he]
      by_cases e1 : x < y
      · rw [if_pos e1, decide_eq_true (by omega)]; rfl
      · rw [if_neg e1, if_pos (by omega), decide_eq_false (by omega)]; rfl
    · rw [if_neg (by omega), if_neg (by omega)] at he
      conv => whnf
      first | refine ov_i64 (by omega) ?_ | refine ov_u64 (by omega) ?_ | refine ov_i64 (by decide) ?_ | refine ov_u64 (by decide) ?_ | refine ov_u8 (by omega) ?_ | refine ov_i32 (by omega) ?_ | refine ov_u32 (by omega) ?_
      conv => whnf
      exact ⟨4 - (i + 1), by omega, rfl, i + 1, by omega, rfl, rfl, he⟩
  have hi4 : i = 4 := by omega
  subst hi4
  conv => whnf
  refine loop_at [6] [] (fun r vs cs h' => h2 = h' ∧ ∃ t : Nat, t ≤ 3 ∧ r = 3 - t ∧ vs = [.v (zv t)] ∧ cmpL (a.W.drop (4 + t * 4)) (b.W.drop (4 + t * 4)) = cmpL a.W b.W) 3 ⟨rfl, 0, by omega, by omega, rfl, he⟩ ?_
  rintro r vs cs mm bx _ ⟨rfl, t, ht, rfl, rfl, het⟩
  conv => whnf
  refine bsel_intro (fun q3 => ?_) (fun q3 => ?_) <;> try simp only [decide_eq_true_eq, decide_eq_false_iff_not, beq_iff_eq, beq_eq_false_iff_ne, ne_eq, Bool.not_eq_true', Bool.not_eq_false', bne_iff_ne, bne_eq_false_iff_eq, Bool.not_eq_true, Bool.not_eq_false, Bool.and_eq_true, Bool.or_eq_true, bs_size] at q3
  · conv => whnf
    refine loop_at [7] [] (fun r vs cs h' => h2 = h' ∧ ∃ i : Nat, i ≤ 4 ∧ r = 4 - i ∧ vs = [.v (zv i)] ∧ cmpL (a.W.drop (4 + t * 4 + i)) (b.W.drop (4 + t * 4 + i)) = cmpL a.W b.W) 4 ⟨rfl, 0, by omega, by omega, rfl, het⟩ ?_
    rintro r vs cs mm bx _ ⟨rfl, i, hi, rfl, rfl, hei⟩
    conv => whnf
    refine bsel_intro (fun q4 => ?_) (fun q4 => ?_) <;> try simp only [decide_eq_true_eq, decide_eq_false_iff_not, beq_iff_eq, beq_eq_false_iff_ne, ne_eq, Bool.not_eq_true', Bool.not_eq_false', bne_iff_ne, bne_eq_false_iff_eq, Bool.not_eq_true, Bool.not_eq_false, Bool.and_eq_true, Bool.or_eq_true, bs_size] at q4
    · have hi4 : i < 4 := by omega
      obtain ⟨x, hx⟩ := hga (4 + t * 4 + i) (by omega)
      obtain ⟨y, hy⟩ := hgb (4 + t * 4 + i) (by omega)
      have ax : ∀ z : Nat, ((((⟨z, 0, none⟩ : Addr).add 4).add (((t : Nat) : Int).toNat * 4)).add (((i : Nat) : Int).toNat * 1)) = ⟨z, 4 + t * 4 + i, none⟩ := fun z => by simp [addr_add]
      rw [cmpL_drop hx hy] at hei
      conv => whnf
      first | refine need_intro (⟨by omega, by omega⟩) ?_ | refine must.mk (⟨by omega, by omega⟩) ?_
      conv => whnf
      first | refine need_intro (⟨by omega, by omega⟩) ?_ | refine must.mk (⟨by omega, by omega⟩) ?_
      conv => whnf
      refine ⟨_, loadCA (ax x1) aggW64 p1 (hca _ _ hx), ?_⟩
      conv => whnf
      first | refine need_intro (⟨by omega, by omega⟩) ?_ | refine must.mk (⟨by omega, by omega⟩) ?_
      conv => whnf
      first | refine need_intro (⟨by omega, by omega⟩) ?_ | refine must.mk (⟨by omega, by omega⟩) ?_
      conv => whnf
      refine ⟨_, loadCA (ax x2) aggW64 p2 (hcb _ _ hy), ?_⟩
      conv => whnf
      refine bsel_intro (fun q5 => ?_) (fun q5 => ?_) <;> try simp only [decide_eq_true_eq, decide_eq_false_iff_not, beq_iff_eq, beq_eq_false_iff_ne, ne_eq, Bool.not_eq_true', Bool.not_eq_false', bne_iff_ne, bne_eq_false_iff_eq, Bool.not_eq_true, Bool.not_eq_false, Bool.and_eq_true, Bool.or_eq_true, bs_size] at q5
      · conv => whnf
        first | refine need_intro (⟨by omega, by omega⟩) ?_ | refine must.mk (⟨by omega, by omega⟩) ?_
        conv => whnf
        first | refine need_intro (⟨by omega, by omega⟩) ?_ | refine must.mk (⟨by omega, by omega⟩) ?_
        conv => whnf
        refine ⟨_, loadCA (ax x1) aggW64 p1 (hca _ _ hx), ?_⟩
        conv => whnf
        first | refine need_intro (⟨by omega, by omega⟩) ?_ | refine must.mk (⟨by omega, by omega⟩) ?_
        conv => whnf
        first | refine need_intro (⟨by omega, by omega⟩) ?_ | refine must.mk (⟨by omega, by omega⟩) ?_
        conv => whnf
        refine ⟨_, loadCA (ax x2) aggW64 p2 (hcb _ _ hy), ?_⟩
        conv => whnf
        refine hk' _ _ ?_ le2
        rw [← hei]
        by_cases e1 : x < y
        · rw [if_pos e1, decide_eq_true (by omega)]; rfl
        · rw [if_neg e1, if_pos (by omega), decide_eq_false (by omega)]; rfl
      · rw [if_neg (by omega), if_neg (by omega)] at hei
        conv => whnf
        first | refine ov_i64 (by omega) ?_ | refine ov_u64 (by omega) ?_ | refine ov_i64 (by decide) ?_ | refine ov_u64 (by decide) ?_ | refine ov_u8 (by omega) ?_ | refine ov_i32 (by omega) ?_ | refine ov_u32 (by omega) ?_
        conv => whnf
        exact ⟨4 - (i + 1), by omega, rfl, i + 1, by omega, rfl, rfl, hei⟩
    · have hi4 : i = 4 := by omega
      subst hi4
      conv => whnf
      first | refine ov_i64 (by omega) ?_ | refine ov_u64 (by omega) ?_ | refine ov_i64 (by decide) ?_ | refine ov_u64 (by decide) ?_ | refine ov_u8 (by omega) ?_ | refine ov_i32 (by omega) ?_ | refine ov_u32 (by omega) ?_
      conv => whnf
      exact ⟨3 - (t + 1), by omega, rfl, t + 1, by omega, rfl, rfl, by rw [show 4 + (t + 1) * 4 = 4 + t * 4 + 4 by omega]; exact hei⟩
  · have ht3 : t = 3 := by omega
    subst ht3
    rw [List.drop_eq_nil_of_le (by omega), List.drop_eq_nil_of_le (by omega)] at het
    conv => whnf
    exact hk' _ _ (by rw [← het]; rfl) le2
end
end Go.Proofs.YtciagjfemgfhgaaDoor
/-! All orders of a test: the plain law. -/
namespace Go.Proofs.YtciagjfemgfhgaaDoor
set_option linter.unusedSimpArgs false
set_option linter.unusedVariables false
open Go Go.Mid Go.RowKit
attribute [local irreducible] mid
theorem doS_A (s : St) (t : Nat) (d : Dd) : (doS s t d).A = s.A.set t (s.A.getD t 0 + 1) := by
  unfold doS doN
  (repeat' split) <;> rfl
/-- The outcomes of a state, by all orders. -/
inductive OutR (T : List (List Dd)) : St → List Nat → Prop where
  | done {s : St} : (∀ (i : Nat) (L : List Dd), T[i]? = some L → L.length ≤ (s.A.getD i 0).toNat) → OutR T s s.W
  | step {s : St} {i : Nat} {L : List Dd} {d : Dd} {w : List Nat} : T[i]? = some L → L[(s.A.getD i 0).toNat]? = some d → OutR T (doS s i d) w → OutR T s w
theorem OutR.inv {T : List (List Dd)} {s : St} {w : List Nat} (o : OutR T s w) : ((∀ (i : Nat) (L : List Dd), T[i]? = some L → L.length ≤ (s.A.getD i 0).toNat) ∧ w = s.W) ∨ ∃ (i : Nat) (L : List Dd) (d : Dd), T[i]? = some L ∧ L[(s.A.getD i 0).toNat]? = some d ∧ OutR T (doS s i d) w := by
  cases o with
  | done h => exact .inl ⟨h, rfl⟩
  | step h1 h2 h3 => exact .inr ⟨_, _, _, h1, h2, h3⟩
/-- How many deeds are left. -/
def leftI (T : List (List Dd)) (s : St) (i : Nat) : Nat := (T.getD i []).length - (s.A.getD i 0).toNat
def left (T : List (List Dd)) (s : St) : Nat := leftI T s 0 + leftI T s 1 + leftI T s 2
theorem three {α : Type} {l : List α} (h : l.length = 3) : ∃ a b c, l = [a, b, c] := by
  match l, h with
  | [a, b, c], _ => exact ⟨a, b, c, rfl⟩
theorem left_step {T : List (List Dd)} {s : St} (hs : s.ok) {i : Nat} (hi : i < 3) {L : List Dd} {d d' : Dd} (hL : T[i]? = some L) (hd : L[(s.A.getD i 0).toNat]? = some d) : left T (doS s i d') + 1 = left T s := by
  obtain ⟨a, b, c, hA⟩ := three hs.a
  have ha := hs.a0
  have hlt := (List.getElem?_eq_some_iff.1 hd).1
  have hTd : T.getD i [] = L := by rw [List.getD_eq_getElem?_getD, hL]; rfl
  unfold left leftI
  rw [doS_A]
  rw [hA] at ha hlt ⊢
  have h0 := ha a (by simp)
  have h1 := ha b (by simp)
  have h2 := ha c (by simp)
  match i, hi with
  | 0, _ =>
    rw [hTd]
    simp only [List.getD_cons_zero, List.getD_cons_succ, List.set_cons_zero] at hlt ⊢
    omega
  | 1, _ =>
    rw [hTd]
    simp only [List.getD_cons_zero, List.getD_cons_succ, List.set_cons_zero, List.set_cons_succ] at hlt ⊢
    omega
  | 2, _ =>
    rw [hTd]
    simp only [List.getD_cons_zero, List.getD_cons_succ, List.set_cons_zero, List.set_cons_succ] at hlt ⊢
    omega
theorem left_pos {T : List (List Dd)} {s : St} (hs : s.ok) {i : Nat} (hi : i < 3) {L : List Dd} {d : Dd} (hL : T[i]? = some L) (hd : L[(s.A.getD i 0).toNat]? = some d) : 0 < left T s := by
  have := left_step hs hi (d' := d) hL hd
  omega
theorem mem_layTo {B : List Int} {t i : Nat} {v x : Int} (h : x ∈ layTo B t v i) : x = 0 ∨ x ∈ B := by
  unfold layTo at h
  obtain ⟨j, hj, rfl⟩ := List.mem_iff_getElem.1 h
  rw [List.getElem_mapIdx]
  split
  · exact .inl rfl
  · exact .inr (List.getElem_mem _)
theorem doS_ok {s : St} (hs : s.ok) {t : Nat} (ht : t < 3) {d : Dd} (hd : deedE d = 0) (hA : s.A.getD t 0 ≤ 900) : (doS s t d).ok := by
  obtain ⟨d1, d2, d3, d4, d5, d6, d7, d8⟩ := deed_ok hd
  obtain ⟨o1, o2, o3, o4, o5, o6⟩ := hs
  have ga := o4 _ (List.mem_of_getElem? (getD_at (l := s.A) 0 (show t < s.A.length by omega)))
  have gw := o6 _ (List.mem_of_getElem? (getD_at (l := s.W) 0 (show d.vr.toNat < s.W.length by omega)))
  have ha : ∀ x ∈ s.A.set t (s.A.getD t 0 + 1), 0 ≤ x ∧ x ≤ 1000 := fun x hx => by
    rcases List.mem_or_eq_of_mem_set hx with hx | hx
    · exact o4 x hx
    · omega
  have hl : ∀ x ∈ layL s.B t ((d.vr.toNat : Int) + 1), 0 ≤ x ∧ x ≤ 4 := fun x hx => by
    rcases mem_layTo hx with hx | hx
    · omega
    · exact o5 x hx
  have hw : ∀ (W : List Nat) (i x : Nat), (∀ y ∈ W, y < 18446744073709551616) → x < 18446744073709551616 → ∀ y ∈ W.set i x, y < 18446744073709551616 := fun W i x h1 h2 y hy => by
    rcases List.mem_or_eq_of_mem_set hy with hy | hy
    · exact h1 y hy
    · omega
  have hm : (s.W.getD d.vr.toNat 0 + d.n.toNat) % 18446744073709551616 < 18446744073709551616 := Nat.mod_lt _ (by decide)
  have hb : ∀ (B : List Int) (x : Int), (∀ y ∈ B, 0 ≤ y ∧ y ≤ 4) → 0 ≤ x ∧ x ≤ 4 → ∀ y ∈ B.set t x, 0 ≤ y ∧ y ≤ 4 := fun B x h1 h2 y hy => by
    rcases List.mem_or_eq_of_mem_set hy with hy | hy
    · exact h1 y hy
    · omega
  unfold doS doN
  split
  · exact ⟨by simp [o1], by rw [layTo_len]; exact o2, by simp [o3], ha, hl, hw _ _ _ o6 (by omega)⟩
  split
  · exact ⟨by simp [o1], o2, by simp [o3], ha, o5, hw _ _ _ o6 gw⟩
  split
  · exact ⟨by simp [o1], by rw [layTo_len]; exact o2, by simp [o3], ha, hl, hw _ _ _ (hw _ _ _ o6 hm) gw⟩
  split
  · exact ⟨by simp [o1], by rw [layTo_len]; exact o2, by simp [o3], ha, hl, hw _ _ _ (hw _ _ _ o6 (by omega)) gw⟩
  split
  · exact ⟨by simp [o1], by simp [o2], by simp [o3], ha, hb _ _ o5 (by omega), hw _ _ _ o6 gw⟩
  split
  · exact ⟨by simp [o1], by rw [List.length_set, layTo_len]; exact o2, by simp [o3], ha, hb _ _ hl (by omega), hw _ _ _ (hw _ _ _ o6 (by omega)) (by decide)⟩
  · exact ⟨by simp [o1], by simp [o2], by simp [o3], ha, hb _ _ o5 (by omega), hw _ _ _ o6 (by decide)⟩
/-- States and outcomes as keys of maps. -/
structure Sx where
  s : St
  a : s.A.length = 3
  b : s.B.length = 3
  w : s.W.length = 16
theorem Sx.ext {x y : Sx} (h : x.s = y.s) : x = y := by cases x; cases y; simp only at h; subst h; rfl
theorem St.ext3 {x y : St} (h1 : x.A = y.A) (h2 : x.B = y.B) (h3 : x.W = y.W) : x = y := by cases x; cases y; simp only at h1 h2 h3; subst h1 h2 h3; rfl
instance : DecidableEq Sx := fun a b => decidable_of_iff (a.s.A = b.s.A ∧ a.s.B = b.s.B ∧ a.s.W = b.s.W) ⟨fun h => Sx.ext (St.ext3 h.1 h.2.1 h.2.2), fun h => by subst h; exact ⟨rfl, rfl, rfl⟩⟩
instance : DecidableEq Oc := fun a b => decidable_of_iff (a.W = b.W) ⟨Oc.ext, fun h => by subst h; rfl⟩
def stv (x : Sx) : Value := .agg x.s.cs.toArray
def ocv (o : Oc) : Value := .agg o.cs.toArray
section
set_option maxHeartbeats 8000000
set_option maxRecDepth 10000
theorem ocT : KeyT Tryd.prog 29 ocv where
  under := Option.isSome_iff_exists.1 (by kernel_rfl)
  key := fun o => by
    obtain ⟨W, hW⟩ := o
    obtain ⟨a0, a1, a2, a3, a4, a5, a6, a7, a8, a9, b0, b1, b2, b3, b4, b5, hw⟩ := sixteen hW
    show keyV Tryd.prog 10000 29 (.agg (W.map uv).toArray) = true
    rw [hw]
    kernel_rfl
  equal := fun x y => by
    obtain ⟨W, hW⟩ := x
    obtain ⟨V, hV⟩ := y
    obtain ⟨a0, a1, a2, a3, a4, a5, a6, a7, a8, a9, b0, b1, b2, b3, b4, b5, hw⟩ := sixteen hW
    obtain ⟨c0, c1, c2, c3, c4, c5, c6, c7, c8, c9, d0, d1, d2, d3, d4, d5, hv⟩ := sixteen hV
    have e : eqV Tryd.prog 10000 29 (.agg ([a0, a1, a2, a3, a4, a5, a6, a7, a8, a9, b0, b1, b2, b3, b4, b5].map uv).toArray) (.agg ([c0, c1, c2, c3, c4, c5, c6, c7, c8, c9, d0, d1, d2, d3, d4, d5].map uv).toArray) =
        some (((a0 : Int) == c0 && ((a1 : Int) == c1 && ((a2 : Int) == c2 && ((a3 : Int) == c3 && true)))) && (((((a4 : Int) == c4 && ((a5 : Int) == c5 && ((a6 : Int) == c6 && ((a7 : Int) == c7 && true)))) && ((((a8 : Int) == c8 && ((a9 : Int) == c9 && ((b0 : Int) == d0 && ((b1 : Int) == d1 && true)))) && ((((b2 : Int) == d2 && ((b3 : Int) == d3 && ((b4 : Int) == d4 && ((b5 : Int) == d5 && true)))) && true)))))) && true)) := by kernel_rfl
    show eqV Tryd.prog 10000 29 (.agg (W.map uv).toArray) (.agg (V.map uv).toArray) = some (decide (Oc.mk W hW = Oc.mk V hV))
    have hd : decide (Oc.mk W hW = Oc.mk V hV) = decide (W = V) := by rw [decide_eq_decide, Oc.mk.injEq]
    rw [hd, hw, hv, e]
    congr 1
    rw [Bool.eq_iff_iff]
    simp
    omega
  same := fun o => by
    obtain ⟨W, hW⟩ := o
    obtain ⟨a0, a1, a2, a3, a4, a5, a6, a7, a8, a9, b0, b1, b2, b3, b4, b5, hw⟩ := sixteen hW
    show Instr.sameBits 10000 (.agg (W.map uv).toArray) (.agg (W.map uv).toArray) = true
    rw [hw]
    simp [Instr.sameBits]
theorem stT : KeyT Tryd.prog 78 stv where
  under := Option.isSome_iff_exists.1 (by kernel_rfl)
  key := fun o => by
    obtain ⟨⟨A, B, W⟩, hA, hB, hW⟩ := o
    obtain ⟨a0, a1, a2, a3, a4, a5, a6, a7, a8, a9, b0, b1, b2, b3, b4, b5, hw⟩ := sixteen hW
    obtain ⟨e0, e1, e2, ha⟩ := three hA
    obtain ⟨f0, f1, f2, hb⟩ := three hB
    show keyV Tryd.prog 10000 78 (.agg (cells3 A B W).toArray) = true
    simp only at hw ha hb
    rw [hw, ha, hb]
    kernel_rfl
  equal := fun x y => by
    obtain ⟨⟨A, B, W⟩, hA, hB, hW⟩ := x
    obtain ⟨⟨A', B', W'⟩, hA', hB', hW'⟩ := y
    obtain ⟨a0, a1, a2, a3, a4, a5, a6, a7, a8, a9, b0, b1, b2, b3, b4, b5, hw⟩ := sixteen hW
    obtain ⟨e0, e1, e2, ha⟩ := three hA
    obtain ⟨f0, f1, f2, hb⟩ := three hB
    obtain ⟨c0, c1, c2, c3, c4, c5, c6, c7, c8, c9, d0, d1, d2, d3, d4, d5, hw'⟩ := sixteen hW'
    obtain ⟨g0, g1, g2, ha'⟩ := three hA'
    obtain ⟨i0, i1, i2, hb'⟩ := three hB'
    have e : eqV Tryd.prog 10000 78 (.agg (cells3 [e0, e1, e2] [f0, f1, f2] [a0, a1, a2, a3, a4, a5, a6, a7, a8, a9, b0, b1, b2, b3, b4, b5]).toArray) (.agg (cells3 [g0, g1, g2] [i0, i1, i2] [c0, c1, c2, c3, c4, c5, c6, c7, c8, c9, d0, d1, d2, d3, d4, d5]).toArray) =
        some ((e0 == g0 && (e1 == g1 && (e2 == g2 && true))) && ((f0 == i0 && (f1 == i1 && (f2 == i2 && true))) && ((((a0 : Int) == c0 && ((a1 : Int) == c1 && ((a2 : Int) == c2 && ((a3 : Int) == c3 && true)))) && (((((a4 : Int) == c4 && ((a5 : Int) == c5 && ((a6 : Int) == c6 && ((a7 : Int) == c7 && true)))) && (((a8 : Int) == c8 && ((a9 : Int) == c9 && ((b0 : Int) == d0 && ((b1 : Int) == d1 && true)))) && (((b2 : Int) == d2 && ((b3 : Int) == d3 && ((b4 : Int) == d4 && ((b5 : Int) == d5 && true)))) && true)))) && true)) && true))) := by kernel_rfl
    have hd : decide (Sx.mk ⟨A, B, W⟩ hA hB hW = Sx.mk ⟨A', B', W'⟩ hA' hB' hW') = decide (A = A' ∧ B = B' ∧ W = W') := by rw [decide_eq_decide, Sx.mk.injEq, St.mk.injEq]
    show eqV Tryd.prog 10000 78 (.agg (cells3 A B W).toArray) (.agg (cells3 A' B' W').toArray) = some (decide (Sx.mk ⟨A, B, W⟩ hA hB hW = Sx.mk ⟨A', B', W'⟩ hA' hB' hW'))
    rw [hd]
    simp only at hw ha hb hw' ha' hb'
    rw [hw, ha, hb, hw', ha', hb', e]
    congr 1
    rw [Bool.eq_iff_iff]
    simp
    omega
  same := fun o => by
    obtain ⟨⟨A, B, W⟩, hA, hB, hW⟩ := o
    obtain ⟨a0, a1, a2, a3, a4, a5, a6, a7, a8, a9, b0, b1, b2, b3, b4, b5, hw⟩ := sixteen hW
    obtain ⟨e0, e1, e2, ha⟩ := three hA
    obtain ⟨f0, f1, f2, hb⟩ := three hB
    show Instr.sameBits 10000 (.agg (cells3 A B W).toArray) (.agg (cells3 A B W).toArray) = true
    simp only at hw ha hb
    rw [hw, ha, hb]
    simp [Instr.sameBits, cells3]
end
end Go.Proofs.YtciagjfemgfhgaaDoor
/-! All orders of a test: lists of outcomes that rise; what goes through all orders. -/
namespace Go.Proofs.YtciagjfemgfhgaaDoor
set_option linter.unusedSimpArgs false
set_option linter.unusedVariables false
open Go Go.Mid Go.RowKit
attribute [local irreducible] mid
/-- A list that rises. -/
def Ris (l : List Oc) : Prop := l.Pairwise fun a b => ltO a b = true
theorem ltO_irr (a : Oc) : ltO a a = false := ltO_swo.irrefl a
theorem ltO_tr {a b c : Oc} (h1 : ltO a b = true) (h2 : ltO b c = true) : ltO a c = true := ltO_swo.trans a b c h1 h2
def insO (o : Oc) : List Oc → List Oc
  | [] => [o]
  | x :: l => if ltO x o = true then x :: insO o l else if ltO o x = true then o :: x :: l else x :: l
theorem mem_insO {o y : Oc} : ∀ {l : List Oc}, y ∈ insO o l ↔ y = o ∨ y ∈ l
  | [] => by simp [insO]
  | x :: l => by
    unfold insO
    split
    · simp only [List.mem_cons, mem_insO (l := l)]
      constructor
      · rintro (h | h | h)
        · exact .inr (.inl h)
        · exact .inl h
        · exact .inr (.inr h)
      · rintro (h | h | h)
        · exact .inr (.inl h)
        · exact .inl h
        · exact .inr (.inr h)
    · rename_i h1
      split
      · simp
      · rename_i h2
        have := ltO_total (by simpa using h1) (by simpa using h2)
        subst this
        simp
theorem insO_ris {o : Oc} : ∀ {l : List Oc}, Ris l → Ris (insO o l)
  | [], _ => by simp [insO, Ris]
  | x :: l, h => by
    obtain ⟨h1, h2⟩ := List.pairwise_cons.1 h
    unfold insO
    split
    · rename_i hx
      refine List.pairwise_cons.2 ⟨fun y hy => ?_, insO_ris h2⟩
      rcases mem_insO.1 hy with rfl | hy
      · exact hx
      · exact h1 y hy
    · rename_i hx
      split
      · rename_i hox
        refine List.pairwise_cons.2 ⟨fun y hy => ?_, h⟩
        rcases List.mem_cons.1 hy with rfl | hy
        · exact hox
        · exact ltO_tr hox (h1 y hy)
      · exact h
theorem insO_len {o : Oc} : ∀ {l : List Oc}, (insO o l).length ≤ l.length + 1
  | [] => by simp [insO]
  | x :: l => by
    have := insO_len (o := o) (l := l)
    unfold insO
    split
    · simp only [List.length_cons]; omega
    · split <;> simp
theorem insO_at {o : Oc} : ∀ {l : List Oc} {m : Nat}, (∀ j x, j < m → l[j]? = some x → ltO x o = true) → (∀ x, l[m]? = some x → ltO x o = false) → m ≤ l.length → insO o l = if l[m]? = some o then l else l.take m ++ o :: l.drop m
  | [], m, _, _, hm => by
    have : m = 0 := by simpa using hm
    subst this
    simp [insO]
  | x :: l, 0, _, hr, _ => by
    have hx := hr x rfl
    unfold insO
    rw [if_neg (by simp [hx])]
    by_cases hxo : x = o
    · subst hxo
      rw [if_neg (by simp [hx])]
      simp
    · have hox : ltO o x = true := by
        cases e : ltO o x with
        | true => rfl
        | false => exact absurd (ltO_total hx e) hxo
      rw [if_pos hox, if_neg (by simpa using hxo)]
      simp
  | x :: l, m + 1, hl, hr, hm => by
    have hx := hl 0 x (by omega) rfl
    have ih := insO_at (o := o) (l := l) (m := m) (fun j y hj hy => hl (j + 1) y (by omega) hy) (fun y hy => hr y hy) (by simpa using hm)
    unfold insO
    rw [if_pos hx, ih]
    simp only [List.getElem?_cons_succ, List.take_succ_cons, List.drop_succ_cons, List.cons_append]
    split <;> rfl
theorem ris_head {x : Oc} {l : List Oc} (h : Ris (x :: l)) {y : Oc} (hy : y ∈ x :: l) : y = x ∨ ltO x y = true := by
  rcases List.mem_cons.1 hy with h1 | h1
  · exact .inl h1
  · exact .inr ((List.pairwise_cons.1 h).1 y h1)
/-- Rising lists of the same members are one. -/
theorem ris_eq : ∀ {l m : List Oc}, Ris l → Ris m → (∀ x, x ∈ l ↔ x ∈ m) → l = m
  | [], [], _, _, _ => rfl
  | [], y :: m, _, _, h => by have := (h y).2 (by simp); simp at this
  | x :: l, [], _, _, h => by have := (h x).1 (by simp); simp at this
  | x :: l, y :: m, h1, h2, h => by
    have e : x = y := by
      rcases ris_head h2 ((h x).1 (by simp)) with e | e
      · exact e
      · rcases ris_head h1 ((h y).2 (by simp)) with e' | e'
        · exact e'.symm
        · have := ltO_tr e e'
          rw [ltO_irr] at this; cases this
    subst e
    congr 1
    refine ris_eq (List.pairwise_cons.1 h1).2 (List.pairwise_cons.1 h2).2 fun z => ?_
    have hx1 : ∀ {q : List Oc}, Ris (x :: q) → x ∉ q := fun hq hin => by
      have := (List.pairwise_cons.1 hq).1 x hin
      rw [ltO_irr] at this; cases this
    constructor
    · intro hz
      rcases List.mem_cons.1 ((h z).1 (List.mem_cons_of_mem _ hz)) with e | e
      · subst e; exact absurd hz (hx1 h1)
      · exact e
    · intro hz
      rcases List.mem_cons.1 ((h z).2 (List.mem_cons_of_mem _ hz)) with e | e
      · subst e; exact absurd hz (hx1 h2)
      · exact e
/-- What was sorted, of keys that differ, rises. -/
theorem ris_of {l : List Oc} (hn : l.Nodup) (hs : l.Pairwise fun x z => ltO z x = false) : Ris l := by
  unfold Ris
  induction l with
  | nil => exact List.Pairwise.nil
  | cons x l ih =>
    obtain ⟨h1, h2⟩ := List.pairwise_cons.1 hs
    obtain ⟨h3, h4⟩ := List.nodup_cons.1 hn
    refine List.pairwise_cons.2 ⟨fun y hy => ?_, ih h4 h2⟩
    cases e : ltO x y with
    | true => rfl
    | false => exact absurd (ltO_total e (h1 y hy) ▸ hy) h3
/-- The outcomes that a state comes to. -/
def OutS (T : List (List Dd)) (s : St) (o : Oc) : Prop := OutR T s o.W
/-- A thread's next deed. -/
def nxt (T : List (List Dd)) (s : St) (i : Nat) : Option Dd := (T[i]?).bind fun L => L[(s.A.getD i 0).toNat]?
theorem nxt_some {T : List (List Dd)} {s : St} {i : Nat} {L : List Dd} {d : Dd} (h1 : T[i]? = some L) (h2 : L[(s.A.getD i 0).toNat]? = some d) : nxt T s i = some d := by
  unfold nxt
  rw [h1]; exact h2
theorem nxt_at {T : List (List Dd)} {s : St} {i : Nat} {d : Dd} (h : nxt T s i = some d) : ∃ L, T[i]? = some L ∧ L[(s.A.getD i 0).toNat]? = some d := by
  unfold nxt at h
  cases e : T[i]? with
  | none => rw [e] at h; cases h
  | some L => rw [e] at h; exact ⟨L, rfl, h⟩
theorem nxt_none {T : List (List Dd)} {s : St} {i : Nat} {L : List Dd} (h1 : T[i]? = some L) (h2 : L.length ≤ (s.A.getD i 0).toNat) : nxt T s i = none := by
  unfold nxt
  rw [h1]
  exact List.getElem?_eq_none h2
theorem outS_done {T : List (List Dd)} {s : St} (h : ∀ i, i < T.length → nxt T s i = none) : OutR T s s.W := by
  refine OutR.done fun i L hL => ?_
  have := h i (List.getElem?_eq_some_iff.1 hL).1
  unfold nxt at this
  rw [hL] at this
  exact List.getElem?_eq_none_iff.1 this
theorem outS_done' {T : List (List Dd)} {s : St} {w : List Nat} (h : ∀ i, i < T.length → nxt T s i = none) (o : OutR T s w) : w = s.W := by
  rcases o.inv with ⟨_, e⟩ | ⟨i, L, d, h1, h2, _⟩
  · exact e
  · have := h i (List.getElem?_eq_some_iff.1 h1).1
    rw [nxt_some h1 h2] at this; cases this
theorem outS_step {T : List (List Dd)} {s : St} {i : Nat} {d : Dd} {w : List Nat} (h : nxt T s i = some d) (o : OutR T (doS s i d) w) : OutR T s w := by
  obtain ⟨L, h1, h2⟩ := nxt_at h
  exact OutR.step h1 h2 o
theorem outS_inv {T : List (List Dd)} {s : St} {w : List Nat} {j : Nat} {d0 : Dd} (hj : j < T.length) (h : nxt T s j = some d0) (o : OutR T s w) : ∃ i d, i < T.length ∧ nxt T s i = some d ∧ OutR T (doS s i d) w := by
  rcases o.inv with ⟨h0, _⟩ | ⟨i, L, d, h1, h2, h3⟩
  · obtain ⟨L, h1, h2⟩ := nxt_at h
    have := h0 j L h1
    have := (List.getElem?_eq_some_iff.1 h2).1
    omega
  · exact ⟨i, d, (List.getElem?_eq_some_iff.1 h1).1, nxt_some h1 h2, h3⟩
theorem left_step' {T : List (List Dd)} {s : St} (hs : s.A.length = 3) (hp : ∀ x ∈ s.A, 0 ≤ x) {i : Nat} (hi : i < 3) {L : List Dd} {d d' : Dd} (hL : T[i]? = some L) (hd : L[(s.A.getD i 0).toNat]? = some d) : left T (doS s i d') + 1 = left T s := by
  obtain ⟨a, b, c, hA⟩ := three hs
  have hlt := (List.getElem?_eq_some_iff.1 hd).1
  have hTd : T.getD i [] = L := by rw [List.getD_eq_getElem?_getD, hL]; rfl
  unfold left leftI
  rw [doS_A]
  rw [hA] at hp hlt ⊢
  have h0 := hp a (by simp)
  have h1 := hp b (by simp)
  have h2 := hp c (by simp)
  match i, hi with
  | 0, _ =>
    rw [hTd]
    simp only [List.getD_cons_zero, List.getD_cons_succ, List.set_cons_zero] at hlt ⊢
    omega
  | 1, _ =>
    rw [hTd]
    simp only [List.getD_cons_zero, List.getD_cons_succ, List.set_cons_zero, List.set_cons_succ] at hlt ⊢
    omega
  | 2, _ =>
    rw [hTd]
    simp only [List.getD_cons_zero, List.getD_cons_succ, List.set_cons_zero, List.set_cons_succ] at hlt ⊢
    omega
/-- All orders, one by one. -/
def runs (T : List (List Dd)) : Nat → St → List (List Nat)
  | 0, s => [s.W]
  | n + 1, s => if (List.range T.length).all (fun i => (nxt T s i).isNone) then [s.W] else (List.range T.length).flatMap fun i => match nxt T s i with
    | some d => runs T n (doS s i d)
    | none => []
theorem runs_ok {T : List (List Dd)} (hT : T.length ≤ 3) : ∀ {n : Nat} {s : St}, (∀ (i : Nat) (d : Dd), nxt T s i = some d → (∀ x ∈ s.A, 0 ≤ x)) → s.A.length = 3 → (∀ x ∈ s.A, 0 ≤ x) → left T s ≤ n → ∀ w, OutR T s w ↔ w ∈ runs T n s
  | 0, s, _, hA, hp, hl, w => by
    have hs : ∀ i, i < T.length → nxt T s i = none := fun i hi => by
      cases e : nxt T s i with
      | none => rfl
      | some d =>
        obtain ⟨L, h1, h2⟩ := nxt_at e
        have h3 := (List.getElem?_eq_some_iff.1 h2).1
        have hTd : T.getD i [] = L := by rw [List.getD_eq_getElem?_getD, h1]; rfl
        have : 0 < leftI T s i := by unfold leftI; rw [hTd]; omega
        unfold left at hl
        have : i = 0 ∨ i = 1 ∨ i = 2 := by omega
        rcases this with rfl | rfl | rfl <;> omega
    simp only [runs, List.mem_singleton]
    exact ⟨outS_done' hs, fun e => e ▸ outS_done hs⟩
  | n + 1, s, hh, hA, hp, hl, w => by
    unfold runs
    by_cases hs : (List.range T.length).all (fun i => (nxt T s i).isNone) = true
    · rw [if_pos hs]
      have hs : ∀ i, i < T.length → nxt T s i = none := fun i hi => by
        have := List.all_eq_true.1 hs i (List.mem_range.2 hi)
        simpa using this
      simp only [List.mem_singleton]
      exact ⟨outS_done' hs, fun e => e ▸ outS_done hs⟩
    · rw [if_neg hs]
      have hs : ∃ j d0, j < T.length ∧ nxt T s j = some d0 := by
        apply Classical.byContradiction
        intro hno
        apply hs
        rw [List.all_eq_true]
        intro i hi
        cases e : nxt T s i with
        | none => rfl
        | some d => exact absurd ⟨i, d, List.mem_range.1 hi, e⟩ hno
      obtain ⟨j, d0, hj, hd0⟩ := hs
      have child : ∀ i d, i < T.length → nxt T s i = some d → (OutR T (doS s i d) w ↔ w ∈ runs T n (doS s i d)) := fun i d hi hd => by
        obtain ⟨L, h1, h2⟩ := nxt_at hd
        have hp2 : ∀ x ∈ (doS s i d).A, 0 ≤ x := fun x hx => by
          rw [doS_A] at hx
          rcases List.mem_or_eq_of_mem_set hx with hx | hx
          · exact hp x hx
          · have := hp _ (List.mem_of_getElem? (getD_at (l := s.A) 0 (show i < s.A.length by omega)))
            omega
        refine runs_ok hT (fun _ _ _ => hp2) (by rw [doS_A, List.length_set]; exact hA) hp2 ?_ w
        have := left_step' hA hp (show i < 3 by omega) h1 h2 (d' := d)
        omega
      rw [List.mem_flatMap]
      constructor
      · intro o
        obtain ⟨i, d, hi, hd, o2⟩ := outS_inv hj hd0 o
        exact ⟨i, List.mem_range.2 hi, by rw [hd]; exact (child i d hi hd).1 o2⟩
      · rintro ⟨i, hi, hw⟩
        cases e : nxt T s i with
        | none => rw [e] at hw; cases hw
        | some d =>
          rw [e] at hw
          exact outS_step e ((child i d (List.mem_range.1 hi) e).2 hw)
/-- One thread has one outcome. -/
theorem out_one {T : List (List Dd)} (hT : T.length = 1) {s : St} {w w' : List Nat} (o : OutR T s w) (o' : OutR T s w') : w = w' := by
  induction o with
  | done h =>
    rcases o'.inv with ⟨_, e⟩ | ⟨i, L, d, h1, h2, _⟩
    · exact e.symm
    · have := h i L h1
      have := (List.getElem?_eq_some_iff.1 h2).1
      omega
  | @step s i L d w h1 h2 h3 ih =>
    have hi := (List.getElem?_eq_some_iff.1 h1).1
    rcases o'.inv with ⟨h, e⟩ | ⟨j, L', d', h1', h2', o2⟩
    · have := h i L h1
      have := (List.getElem?_eq_some_iff.1 h2).1
      omega
    · have hj := (List.getElem?_eq_some_iff.1 h1').1
      have : i = j := by omega
      subst this
      rw [h1] at h1'
      cases h1'
      rw [h2] at h2'
      cases h2'
      exact ih o2
end Go.Proofs.YtciagjfemgfhgaaDoor
