/-
  Outcomes compared.
-/
import Derived.Test.YtciagjfemgfhgaaGreatDoorLta
import Derived.Test.YtciagjfemgfhgaaGreatDoorPdqF
import Derived.Test.YtciagjfemgfhgaaGreatDoorMidMO
/-! Outcomes compared. -/
namespace Go.Proofs.YtciagjfemgfhgaaGreatDoor
set_option linter.unusedSimpArgs false
set_option linter.unusedVariables false
open Go Go.Mid Go.RowKit
open Go.Sort (SWO)
attribute [local irreducible] mid
/-- Two rows of words, compared. -/
def cmpL : List Nat → List Nat → Int
  | [], [] => 0
  | [], _ :: _ => -1
  | _ :: _, [] => 1
  | x :: a, y :: b => if x < y then -1 else if y < x then 1 else cmpL a b
theorem cmpL_eq : ∀ (a b : List Nat), a.length = b.length → (cmpL a b = 0 ↔ a = b)
  | [], [], _ => by simp [cmpL]
  | [], _ :: _, h => by cases h
  | _ :: _, [], h => by cases h
  | x :: a, y :: b, h => by
    have ih := cmpL_eq a b (by simpa using h)
    unfold cmpL
    by_cases h1 : x < y
    · rw [if_pos h1]
      simp
      intro e; omega
    · rw [if_neg h1]
      by_cases h2 : y < x
      · rw [if_pos h2]
        simp
        intro e; omega
      · rw [if_neg h2, ih]
        have : x = y := by omega
        simp [this]
theorem cmpL_neg : ∀ (a b : List Nat), a.length = b.length → cmpL b a = - cmpL a b
  | [], [], _ => rfl
  | [], _ :: _, h => by cases h
  | _ :: _, [], h => by cases h
  | x :: a, y :: b, h => by
    have ih := cmpL_neg a b (by simpa using h)
    unfold cmpL
    by_cases h1 : x < y
    · rw [if_neg (by omega), if_pos h1, if_pos h1]; rfl
    · by_cases h2 : y < x
      · rw [if_pos h2, if_neg h1, if_pos h2]
      · rw [if_neg h2, if_neg h1, if_neg h1, if_neg h2, ih]
theorem cmpL_trans : ∀ (a b c : List Nat), a.length = b.length → b.length = c.length → cmpL a b < 0 → cmpL b c < 0 → cmpL a c < 0
  | [], [], _, _, _, h, _ => by simp [cmpL] at h
  | [], _ :: _, _, h, _, _, _ => by cases h
  | _ :: _, [], _, h, _, _, _ => by cases h
  | _ :: _, _ :: _, [], _, h, _, _ => by cases h
  | x :: a, y :: b, z :: c, h1, h2, h3, h4 => by
    have ih := cmpL_trans a b c (by simpa using h1) (by simpa using h2)
    unfold cmpL at h3 h4 ⊢
    by_cases e1 : x < y
    · by_cases e2 : y < z
      · rw [if_pos (by omega)]; decide
      · rw [if_neg e2] at h4
        by_cases e3 : z < y
        · rw [if_pos e3] at h4; omega
        · rw [if_pos (by omega)]; decide
    · rw [if_neg e1] at h3
      by_cases e2 : y < x
      · rw [if_pos e2] at h3; omega
      · rw [if_neg e2] at h3
        by_cases e3 : y < z
        · rw [if_pos (by omega)]; decide
        · rw [if_neg e3] at h4
          by_cases e4 : z < y
          · rw [if_pos e4] at h4; omega
          · rw [if_neg e4] at h4
            rw [if_neg (by omega), if_neg (by omega)]
            exact ih h3 h4
theorem cmpL_drop {a b : List Nat} {i x y : Nat} (ha : a[i]? = some x) (hb : b[i]? = some y) : cmpL (a.drop i) (b.drop i) = if x < y then -1 else if y < x then 1 else cmpL (a.drop (i + 1)) (b.drop (i + 1)) := by
  have h1 := (List.getElem?_eq_some_iff.1 ha)
  have h2 := (List.getElem?_eq_some_iff.1 hb)
  rw [List.drop_eq_getElem_cons h1.1, List.drop_eq_getElem_cons h2.1, h1.2, h2.2]
  rfl
/-- An outcome: sixteen words. -/
structure Oc where
  W : List Nat
  len : W.length = 16
instance : Inhabited Oc := ⟨⟨[0, 0, 0, 0, 0, 0, 0, 0, 0, 0, 0, 0, 0, 0, 0, 0], rfl⟩⟩
def Oc.cs (o : Oc) : List Value := o.W.map uv
def ltO (a b : Oc) : Bool := decide (cmpL a.W b.W < 0)
theorem Oc.ext {a b : Oc} (h : a.W = b.W) : a = b := by cases a; cases b; simp only at h; subst h; rfl
theorem ltO_swo : SWO ltO where
  irrefl := fun x => by
    unfold ltO
    rw [(cmpL_eq x.W x.W rfl).2 rfl]; rfl
  trans := fun x y z h1 h2 => by
    unfold ltO at *
    simp only [decide_eq_true_eq] at *
    exact cmpL_trans _ _ _ (by rw [x.len, y.len]) (by rw [y.len, z.len]) h1 h2
  ntrans := fun x y z h1 h2 => by
    unfold ltO at *
    simp only [decide_eq_false_iff_not] at *
    intro h3
    have e1 := cmpL_neg x.W y.W (by rw [x.len, y.len])
    have e2 := cmpL_neg y.W z.W (by rw [y.len, z.len])
    by_cases c1 : cmpL x.W y.W = 0
    · have := (cmpL_eq _ _ (by rw [x.len, y.len])).1 c1
      rw [← this] at h2; exact h2 h3
    · by_cases c2 : cmpL y.W z.W = 0
      · have := (cmpL_eq _ _ (by rw [y.len, z.len])).1 c2
        rw [this] at h1; exact h1 h3
      · have h4 := cmpL_trans z.W y.W x.W (by rw [z.len, y.len]) (by rw [y.len, x.len]) (by omega) (by omega)
        have e3 := cmpL_neg x.W z.W (by rw [x.len, z.len])
        omega
theorem ltO_total {a b : Oc} (h1 : ltO a b = false) (h2 : ltO b a = false) : a = b := by
  unfold ltO at *
  simp only [decide_eq_false_iff_not] at *
  have e1 := cmpL_neg a.W b.W (by rw [a.len, b.len])
  exact Oc.ext ((cmpL_eq _ _ (by rw [a.len, b.len])).1 (by omega))
theorem sixteen {W : List Nat} (h : W.length = 16) : ∃ a0 a1 a2 a3 a4 a5 a6 a7 a8 a9 b0 b1 b2 b3 b4 b5, W = [a0, a1, a2, a3, a4, a5, a6, a7, a8, a9, b0, b1, b2, b3, b4, b5] := by
  match W, h with
  | [a0, a1, a2, a3, a4, a5, a6, a7, a8, a9, b0, b1, b2, b3, b4, b5], _ => exact ⟨a0, a1, a2, a3, a4, a5, a6, a7, a8, a9, b0, b1, b2, b3, b4, b5, rfl⟩
section
set_option maxHeartbeats 8000000
set_option maxRecDepth 10000
variable {h : Hp} {K : Value → Hp → Prop}
def cmpI (a b : Int) : Int := if a < b then -1 else if a > b then 1 else 0
theorem cmpU_x (a b : Int) (hk : K (.int .i64 (cmpI a b)) h) : X Tryz.prog 50 #[.int .u64 a, .int .u64 b] h K := by
  have nan : ∀ (x : Int) (K : Value → Hp → Prop), K (.bool false) h → X Tryz.prog 76 #[.int .u64 x] h K := fun x K hk => by
    refine fnv (args := _) mixed [] [] [] Tryz.func76 rfl (by kernel_rfl) ?_; conv => whnf
    exact kq hk (bI (by simp))
  unfold cmpI at hk
  refine fnv (args := _) mixed [] [] [] Tryz.func50 rfl (by kernel_rfl) ?_; conv => whnf
  refine nan a _ ?_
  conv => whnf
  refine nan b _ ?_
  conv => whnf
  refine bsel_intro (fun q1 => ?_) (fun q1 => ?_) <;> try simp only [bsL] at q1
  · rw [if_pos q1] at hk
    conv => whnf
    exact hk
  · rw [if_neg q1] at hk
    conv => whnf
    refine bsel_intro (fun q2 => ?_) (fun q2 => ?_) <;> try simp only [bsL] at q2
    · rw [if_pos (by omega)] at hk
      conv => whnf
      exact hk
    · rw [if_neg (by omega)] at hk
      conv => whnf
      exact hk
/-- slices.Compare. -/
theorem compare_x (s1 s2 : Value) (A B : List Nat) (r1 : Rd Tryz.prog 46 1 h s1 (A.map uv)) (r2 : Rd Tryz.prog 46 1 h s2 (B.map uv)) (hA : A.length ≤ 100) (hB : B.length ≤ 100) (hk : K (zv (cmpL A B)) h) : X Tryz.prog 32 #[s1, s2] h K := by
  obtain ⟨b1, c1, rfl, f1⟩ := r1
  obtain ⟨b2, c2, rfl, f2⟩ := r2
  rw [List.length_map, List.length_map] at *
  have hk' : ∀ x : Int, x = cmpL A B → K (zv x) h := fun x e => e ▸ hk
  clear hk
  refine fnv (args := _) mixed [] [] [] Tryz.func32 rfl (by kernel_rfl) ?_; conv => whnf
  refine loop_at [11] [] (fun r vs cs h' => h = h' ∧ ∃ i : Nat, i ≤ A.length ∧ r = A.length - i ∧ vs = [.v (zv i)] ∧ i ≤ B.length ∧ cmpL (A.drop i) (B.drop i) = cmpL A B) A.length ⟨rfl, 0, by omega, by omega, rfl, by omega, rfl⟩ ?_
  rintro r vs cs mm bx _ ⟨rfl, i, hi, rfl, rfl, hiB, he⟩
  conv => whnf
  refine bsel_intro (fun q1 => ?_) (fun q1 => ?_) <;> try simp only [bsL] at q1
  · have hiA : i < A.length := by omega
    obtain ⟨x, hx⟩ : ∃ x, A[i]? = some x := ⟨_, List.getElem?_eq_getElem hiA⟩
    obtain ⟨a1, rfl, l1⟩ := f1 i (uv x) (by rw [List.getElem?_map, hx]; rfl)
    have l1 : loadH Tryz.prog 46 h (a1.add (((i : Nat) : Int).toNat * 1)) = some (uv x) := by rw [Int.toNat_natCast]; exact l1
    conv => whnf
    (first | refine need_intro (⟨by omega, by omega⟩) ?_ | refine must.mk (⟨by omega, by omega⟩) ?_); conv => whnf
    refine ⟨_, l1, ?_⟩; conv => whnf
    refine bsel_intro (fun q2 => ?_) (fun q2 => ?_) <;> try simp only [bsL] at q2
    · have hBi : B.drop i = [] := List.drop_eq_nil_of_le (by omega)
      rw [hBi, List.drop_eq_getElem_cons hiA] at he
      conv => whnf
      exact hk' 1 he
    · obtain ⟨y, hy⟩ : ∃ y, B[i]? = some y := ⟨_, List.getElem?_eq_getElem (by omega)⟩
      obtain ⟨a2, rfl, l2⟩ := f2 i (uv y) (by rw [List.getElem?_map, hy]; rfl)
      have l2 : loadH Tryz.prog 46 h (a2.add (((i : Nat) : Int).toNat * 1)) = some (uv y) := by rw [Int.toNat_natCast]; exact l2
      rw [cmpL_drop hx hy] at he
      conv => whnf
      (first | refine need_intro (⟨by omega, by omega⟩) ?_ | refine must.mk (⟨by omega, by omega⟩) ?_); conv => whnf
      refine ⟨_, l2, ?_⟩; conv => whnf
      refine cmpU_x (x : Int) (y : Int) ?_
      have hcc : cmpI (x : Int) (y : Int) = if x < y then -1 else if y < x then 1 else 0 := by
        unfold cmpI
        (repeat' split) <;> omega
      rw [hcc]
      conv => whnf
      refine bsel_intro (fun q3 => ?_) (fun q3 => ?_) <;> try simp only [bsL] at q3
      · conv => whnf
        refine hk' _ ?_
        rw [← he]
        by_cases e1 : x < y
        · rw [if_pos e1, if_pos e1]
        · rw [if_neg e1, if_neg e1]
          by_cases e2 : y < x
          · rw [if_pos e2, if_pos e2]
          · rw [if_neg e1, if_neg e2] at q3
            omega
      · have e1 : ¬ x < y := fun e => by rw [if_pos e] at q3; omega
        have e2 : ¬ y < x := fun e => by rw [if_neg e1, if_pos e] at q3; omega
        rw [if_neg e1, if_neg e2] at he
        conv => whnf
        (first | refine ov_c (by simp only [loK, hiK]; omega) ?_ | refine ov_c (by decide) ?_); conv => whnf
        exact ⟨A.length - (i + 1), by omega, rfl, i + 1, by omega, rfl, rfl, by omega, he⟩
  · have hAi : A.drop i = [] := List.drop_eq_nil_of_le (by omega)
    rw [hAi] at he
    conv => whnf
    refine bsel_intro (fun q2 => ?_) (fun q2 => ?_) <;> try simp only [bsL] at q2
    · conv => whnf
      rw [List.drop_eq_getElem_cons (show i < B.length by omega)] at he
      exact hk' (-1) he
    · have hBi : B.drop i = [] := List.drop_eq_nil_of_le (by omega)
      rw [hBi] at he
      conv => whnf
      exact hk' 0 he
end
end Go.Proofs.YtciagjfemgfhgaaGreatDoor
/-! Outcomes compared: words, Less. -/
namespace Go.Proofs.YtciagjfemgfhgaaGreatDoor
set_option linter.unusedSimpArgs false
set_option linter.unusedVariables false
open Go Go.Mid Go.RowKit
attribute [local irreducible] mid
section
set_option maxHeartbeats 8000000
set_option maxRecDepth 10000
variable {h : Hp} {K : Value → Hp → Prop}
theorem infU64 : Tryz.prog.info? 46 = some Tryz.prog.types[46] := by kernel_rfl
theorem clone_x {b off len cap : Nat} {el : TypeId} {cs : Array Value} {fz : Nat × Nat} (A : List Nat) (hb : h b = some (.cells cs el fz)) (hA : A.length = len) (hl : ∀ j x, A[j]? = some x → h.cell? ⟨b, off + j, none⟩ = some (uv x)) (hlen : len ≤ 1000)
    (hk : ∀ s' h', Owns h h' 46 1 s' A.length (A.map uv) → K s' h') : X Tryz.prog 51 #[.slice (some ⟨b, off, none⟩) len cap] h K := by
  refine fnv (args := _) mixed [] [] [] Tryz.func51 rfl (by kernel_rfl) ?_; conv => whnf
  refine new_intro (o := rowO 46 []) (fun z h1 n_z le_z at_z ot_z => ?_); conv => whnf
  have hz : Owns h h1 46 1 (.slice (some ⟨z, 0, none⟩) 0 0) 0 [] := ⟨some z, ⟨rfl, .inr ⟨z, 0, [], rfl, rfl, Nat.le_refl _, rfl, at_z⟩⟩, le_z, fun c e => by cases e; exact n_z⟩
  refine Owns.appN (z := uv 0) (news := A.map uv) (bytes := 8) (by kernel_rfl) infU64 (by kernel_rfl) (by kernel_rfl) (by kernel_rfl) rfl (by decide) rfl rfl rfl hz (by rw [List.length_map, hA]; exact (Nat.mul_one _).symm) (fun j v hj => ⟨_, rfl, ?_⟩) (fun e => by cases e) (by simp [Value.oneCell']) (by omega) fun s5 h5 hO5 => ?_
  · rw [List.getElem?_map] at hj
    cases hx : A[j]? with
    | none => rw [hx] at hj; cases hj
    | some x =>
      rw [hx] at hj
      cases hj
      rw [addr_add]
      exact cell_le le_z (hl j x hx)
  rw [Nat.zero_add, ← hA] at hO5
  conv => whnf
  exact hk _ _ hO5
theorem aggOc : isAggT Tryz.prog 50 = some true := by kernel_rfl
theorem sizOc : sizeT Tryz.prog 50 = some 16 := by kernel_rfl
theorem agg34 : isAggT Tryz.prog 48 = some true := by kernel_rfl
theorem siz34 : sizeT Tryz.prog 48 = some 12 := by kernel_rfl
theorem agg4 : isAggT Tryz.prog 47 = some true := by kernel_rfl
theorem siz4 : sizeT Tryz.prog 47 = some 4 := by kernel_rfl
theorem words_x (o : Oc) (hk : ∀ s' h', Owns h h' 46 1 s' 16 (o.W.map uv) → K s' h') : X Tryz.prog 33 #[.agg o.cs.toArray] h K := by
  obtain ⟨W, hW⟩ := o
  obtain ⟨a0, a1, a2, a3, a4, a5, a6, a7, a8, a9, b0, b1, b2, b3, b4, b5, rfl⟩ := sixteen hW
  have hcs : (Oc.mk [a0, a1, a2, a3, a4, a5, a6, a7, a8, a9, b0, b1, b2, b3, b4, b5] hW).cs = [uv a0, uv a1, uv a2, uv a3, uv a4, uv a5, uv a6, uv a7, uv a8, uv a9, uv b0, uv b1, uv b2, uv b3, uv b4, uv b5] := rfl
  rw [hcs]
  simp only [List.map_cons, List.map_nil] at hk
  refine fnv (args := _) mixed [] [] [] Tryz.func33 rfl (by kernel_rfl) ?_; conv => whnf
  refine new_intro (o := rowO 50 [uv a0, uv a1, uv a2, uv a3, uv a4, uv a5, uv a6, uv a7, uv a8, uv a9, uv b0, uv b1, uv b2, uv b3, uv b4, uv b5]) (fun b h1 n_b le_b at_b ot_b => ?_); conv => whnf
  show X _ _ #[.slice (some ⟨b, 0, none⟩) 4 4] _ _
  refine clone_x (off := 0) [a0, a1, a2, a3] at_b rfl (fun j x hj => ?_) (by decide) fun s2 h2 hO2 => ?_
  · rw [Nat.zero_add]
    refine cell_row at_b ?_
    match j, hj with
    | 0, hj => cases hj; rfl
    | 1, hj => cases hj; rfl
    | 2, hj => cases hj; rfl
    | 3, hj => cases hj; rfl
  have q2 := hO2.le _ _ at_b
  have hO2 : Owns h h2 46 1 s2 4 [uv a0, uv a1, uv a2, uv a3] := hO2.weak le_b
  conv => whnf
  refine ⟨_, loadP (k := 4) (x := [uv a4, uv a5, uv a6, uv a7, uv a8, uv a9, uv b0, uv b1, uv b2, uv b3, uv b4, uv b5]) agg34 siz34 q2 rfl rfl, ?_⟩; conv => whnf
  refine loop_step ?_; conv => whnf
  refine new_intro (o := rowO 47 [uv 0, uv 0, uv 0, uv 0]) (fun y0 g0 n_y0 le_y0 at_y0 ot_y0 => ?_); conv => whnf
  refine wr_intro (by exact storeA0 (z := .agg #[uv a4, uv a5, uv a6, uv a7]) siz4 at_y0 rfl rfl rfl) (fun k0 at_k0 ot_k0 => ?_)
  try (conv => whnf)
  conv => whnf
  refine Owns.appN (z := uv 0) (news := [uv a4, uv a5, uv a6, uv a7]) (bytes := 8) (by kernel_rfl) infU64 (by kernel_rfl) (by kernel_rfl) (by kernel_rfl) rfl (by decide) rfl rfl rfl (hO2.up (Hp.le_st n_y0 le_y0 ot_k0)) rfl (fun j v hj => ⟨_, rfl, ?_⟩) (fun e => by cases e) rfl (by decide) fun s3 m0 hO3 => ?_
  · show k0.cell? ((((⟨y0, 0, none⟩ : Addr).add (0 * 1))).add j) = _
    rw [addr_add, addr_add]
    have at2 : k0 y0 = some (rowO 47 [uv a4, uv a5, uv a6, uv a7]) := at_k0
    exact cell_row at2 (by simpa using hj)
  conv => whnf
  (first | refine ov_c (by simp only [loK, hiK]; omega) ?_ | refine ov_c (by decide) ?_); conv => whnf
  refine loop_step ?_; conv => whnf
  refine new_intro (o := rowO 47 [uv 0, uv 0, uv 0, uv 0]) (fun y1 g1 n_y1 le_y1 at_y1 ot_y1 => ?_); conv => whnf
  refine wr_intro (by exact storeA0 (z := .agg #[uv a8, uv a9, uv b0, uv b1]) siz4 at_y1 rfl rfl rfl) (fun k1 at_k1 ot_k1 => ?_)
  try (conv => whnf)
  conv => whnf
  refine Owns.appN (z := uv 0) (news := [uv a8, uv a9, uv b0, uv b1]) (bytes := 8) (by kernel_rfl) infU64 (by kernel_rfl) (by kernel_rfl) (by kernel_rfl) rfl (by decide) rfl rfl rfl (hO3.up (Hp.le_st n_y1 le_y1 ot_k1)) rfl (fun j v hj => ⟨_, rfl, ?_⟩) (fun e => by cases e) rfl (by decide) fun s4 m1 hO4 => ?_
  · show k1.cell? ((((⟨y1, 0, none⟩ : Addr).add (0 * 1))).add j) = _
    rw [addr_add, addr_add]
    have at2 : k1 y1 = some (rowO 47 [uv a8, uv a9, uv b0, uv b1]) := at_k1
    exact cell_row at2 (by simpa using hj)
  conv => whnf
  (first | refine ov_c (by simp only [loK, hiK]; omega) ?_ | refine ov_c (by decide) ?_); conv => whnf
  refine loop_step ?_; conv => whnf
  refine new_intro (o := rowO 47 [uv 0, uv 0, uv 0, uv 0]) (fun y2 g2 n_y2 le_y2 at_y2 ot_y2 => ?_); conv => whnf
  refine wr_intro (by exact storeA0 (z := .agg #[uv b2, uv b3, uv b4, uv b5]) siz4 at_y2 rfl rfl rfl) (fun k2 at_k2 ot_k2 => ?_)
  try (conv => whnf)
  conv => whnf
  refine Owns.appN (z := uv 0) (news := [uv b2, uv b3, uv b4, uv b5]) (bytes := 8) (by kernel_rfl) infU64 (by kernel_rfl) (by kernel_rfl) (by kernel_rfl) rfl (by decide) rfl rfl rfl (hO4.up (Hp.le_st n_y2 le_y2 ot_k2)) rfl (fun j v hj => ⟨_, rfl, ?_⟩) (fun e => by cases e) rfl (by decide) fun s5 m2 hO5 => ?_
  · show k2.cell? ((((⟨y2, 0, none⟩ : Addr).add (0 * 1))).add j) = _
    rw [addr_add, addr_add]
    have at2 : k2 y2 = some (rowO 47 [uv b2, uv b3, uv b4, uv b5]) := at_k2
    exact cell_row at2 (by simpa using hj)
  conv => whnf
  (first | refine ov_c (by simp only [loK, hiK]; omega) ?_ | refine ov_c (by decide) ?_); conv => whnf
  refine loop_step ?_; conv => whnf
  exact hk _ _ hO5
theorem outCmp_x (a b : Oc) (hk : ∀ c : Int, decide (c < 0) = ltO a b → K (.int .i64 c) h) : X Tryz.prog 31 #[.agg a.cs.toArray, .agg b.cs.toArray] h K := by
  refine X.forget ?_
  have la : a.cs.length = 16 := by rw [Oc.cs, List.length_map]; exact a.len
  have lb : b.cs.length = 16 := by rw [Oc.cs, List.length_map]; exact b.len
  refine fnv (args := _) mixed [] [] [7] Tryz.func31 rfl (by kernel_rfl) ?_; conv => whnf
  refine new_intro (o := rowO 50 a.cs) (fun x1 h1 n_x1 le_x1 at_x1 ot_x1 => ?_); conv => whnf
  refine new_intro (o := rowO 50 b.cs) (fun x2 h2 n_x2 le_x2 at_x2 ot_x2 => ?_); conv => whnf
  have p2 := le_x2 _ _ at_x1
  refine ⟨fun h' => h' x2 = some (rowO 50 b.cs), at_x2, ?_⟩
  conv => whnf
  refine ⟨_, loadA0 aggOc sizOc p2 la, ?_⟩; conv => whnf
  refine words_x a fun s3 h3 hO3 => ?_
  refine ⟨hO3.le _ _ at_x2, ?_⟩
  conv => whnf
  refine ⟨_, fun _ hh => loadA0 aggOc sizOc hh lb, ?_⟩
  conv => whnf
  refine words_x b fun s4 h4 hO4 => ?_
  refine ⟨hO4.le _ _ (hO3.le _ _ at_x2), ?_⟩
  conv => whnf
  refine compare_x s3 s4 a.W b.W ((hO3.rd aggW64).le hO4.le) (hO4.rd aggW64) (by rw [a.len]; decide) (by rw [b.len]; decide) ?_
  refine ⟨hO4.le _ _ (hO3.le _ _ at_x2), ?_⟩
  conv => whnf
  exact ⟨h, Hp.le_trans (Hp.le_trans le_x1 le_x2) (Hp.le_trans hO3.le hO4.le), hk _ rfl⟩
theorem outS : Srt1 (α := Oc) Oc.cs ltO (.func (.func 31) #[] #[]) where
  len := fun o => by rw [Oc.cs, List.length_map]; exact o.len
  one := fun x => by simp [Oc.cs, Value.oneCell']
  cmp := fun x z h K hk => yv_x (by kernel_rfl) (outCmp_x x z hk)
end
end Go.Proofs.YtciagjfemgfhgaaGreatDoor
/-! All orders of a test: the plain law. -/
namespace Go.Proofs.YtciagjfemgfhgaaGreatDoor
set_option linter.unusedSimpArgs false
set_option linter.unusedVariables false
open Go Go.Mid Go.RowKit
attribute [local irreducible] mid
theorem doS_A (s : St) (t : Nat) (d : Dd) : (doS s t d).A = s.A.set t (s.A.getD t 0 + 1) := by
  unfold doS doN
  (repeat' split) <;> rfl
/-- The outcomes of a state, by all orders. -/
inductive OutR (T : List (List Dd)) : St → List Nat → Prop where
  | done {s : St} : (∀ (i : Nat) (L : List Dd), T[i]? = some L → L.length ≤ (s.A.getD i 0).toNat) → OutR T s s.W
  | step {s : St} {i : Nat} {L : List Dd} {d : Dd} {w : List Nat} : T[i]? = some L → L[(s.A.getD i 0).toNat]? = some d → OutR T (doS s i d) w → OutR T s w
theorem OutR.inv {T : List (List Dd)} {s : St} {w : List Nat} (o : OutR T s w) : ((∀ (i : Nat) (L : List Dd), T[i]? = some L → L.length ≤ (s.A.getD i 0).toNat) ∧ w = s.W) ∨ ∃ (i : Nat) (L : List Dd) (d : Dd), T[i]? = some L ∧ L[(s.A.getD i 0).toNat]? = some d ∧ OutR T (doS s i d) w := by
  cases o with
  | done h => exact .inl ⟨h, rfl⟩
  | step h1 h2 h3 => exact .inr ⟨_, _, _, h1, h2, h3⟩
/-- How many deeds are left. -/
def leftI (T : List (List Dd)) (s : St) (i : Nat) : Nat := (T.getD i []).length - (s.A.getD i 0).toNat
def left (T : List (List Dd)) (s : St) : Nat := leftI T s 0 + leftI T s 1 + leftI T s 2
theorem three {α : Type} {l : List α} (h : l.length = 3) : ∃ a b c, l = [a, b, c] := by
  match l, h with
  | [a, b, c], _ => exact ⟨a, b, c, rfl⟩
theorem left_step {T : List (List Dd)} {s : St} (hs : s.ok) {i : Nat} (hi : i < 3) {L : List Dd} {d d' : Dd} (hL : T[i]? = some L) (hd : L[(s.A.getD i 0).toNat]? = some d) : left T (doS s i d') + 1 = left T s := by
  obtain ⟨a, b, c, hA⟩ := three hs.a
  have ha := hs.a0
  have hlt := (List.getElem?_eq_some_iff.1 hd).1
  have hTd : T.getD i [] = L := by rw [List.getD_eq_getElem?_getD, hL]; rfl
  unfold left leftI
  rw [doS_A]
  rw [hA] at ha hlt ⊢
  have h0 := ha a (by simp)
  have h1 := ha b (by simp)
  have h2 := ha c (by simp)
  match i, hi with
  | 0, _ =>
    rw [hTd]
    simp only [List.getD_cons_zero, List.getD_cons_succ, List.set_cons_zero] at hlt ⊢
    omega
  | 1, _ =>
    rw [hTd]
    simp only [List.getD_cons_zero, List.getD_cons_succ, List.set_cons_zero, List.set_cons_succ] at hlt ⊢
    omega
  | 2, _ =>
    rw [hTd]
    simp only [List.getD_cons_zero, List.getD_cons_succ, List.set_cons_zero, List.set_cons_succ] at hlt ⊢
    omega
theorem left_pos {T : List (List Dd)} {s : St} (hs : s.ok) {i : Nat} (hi : i < 3) {L : List Dd} {d : Dd} (hL : T[i]? = some L) (hd : L[(s.A.getD i 0).toNat]? = some d) : 0 < left T s := by
  have := left_step hs hi (d' := d) hL hd
  omega
theorem mem_layTo {B : List Int} {t i : Nat} {v x : Int} (h : x ∈ layTo B t v i) : x = 0 ∨ x ∈ B := by
  unfold layTo at h
  obtain ⟨j, hj, rfl⟩ := List.mem_iff_getElem.1 h
  rw [List.getElem_mapIdx]
  split
  · exact .inl rfl
  · exact .inr (List.getElem_mem _)
theorem doS_ok {s : St} (hs : s.ok) {t : Nat} (ht : t < 3) {d : Dd} (hd : deedE d = 0) (hA : s.A.getD t 0 ≤ 900) : (doS s t d).ok := by
  obtain ⟨d1, d2, d3, d4, d5, d6, d7, d8⟩ := deed_ok hd
  obtain ⟨o1, o2, o3, o4, o5, o6⟩ := hs
  have ga := o4 _ (List.mem_of_getElem? (getD_at (l := s.A) 0 (show t < s.A.length by omega)))
  have gw := o6 _ (List.mem_of_getElem? (getD_at (l := s.W) 0 (show d.vr.toNat < s.W.length by omega)))
  have ha : ∀ x ∈ s.A.set t (s.A.getD t 0 + 1), 0 ≤ x ∧ x ≤ 1000 := fun x hx => by
    rcases List.mem_or_eq_of_mem_set hx with hx | hx
    · exact o4 x hx
    · omega
  have hl : ∀ x ∈ layL s.B t ((d.vr.toNat : Int) + 1), 0 ≤ x ∧ x ≤ 4 := fun x hx => by
    rcases mem_layTo hx with hx | hx
    · omega
    · exact o5 x hx
  have hw : ∀ (W : List Nat) (i x : Nat), (∀ y ∈ W, y < 18446744073709551616) → x < 18446744073709551616 → ∀ y ∈ W.set i x, y < 18446744073709551616 := fun W i x h1 h2 y hy => by
    rcases List.mem_or_eq_of_mem_set hy with hy | hy
    · exact h1 y hy
    · omega
  have hm : (s.W.getD d.vr.toNat 0 + d.n.toNat) % 18446744073709551616 < 18446744073709551616 := Nat.mod_lt _ (by decide)
  have hb : ∀ (B : List Int) (x : Int), (∀ y ∈ B, 0 ≤ y ∧ y ≤ 4) → 0 ≤ x ∧ x ≤ 4 → ∀ y ∈ B.set t x, 0 ≤ y ∧ y ≤ 4 := fun B x h1 h2 y hy => by
    rcases List.mem_or_eq_of_mem_set hy with hy | hy
    · exact h1 y hy
    · omega
  unfold doS doN
  split
  · exact ⟨by simp [o1], by rw [layTo_len]; exact o2, by simp [o3], ha, hl, hw _ _ _ o6 (by omega)⟩
  split
  · exact ⟨by simp [o1], o2, by simp [o3], ha, o5, hw _ _ _ o6 gw⟩
  split
  · exact ⟨by simp [o1], by rw [layTo_len]; exact o2, by simp [o3], ha, hl, hw _ _ _ (hw _ _ _ o6 hm) gw⟩
  split
  · exact ⟨by simp [o1], by rw [layTo_len]; exact o2, by simp [o3], ha, hl, hw _ _ _ (hw _ _ _ o6 (by omega)) gw⟩
  split
  · exact ⟨by simp [o1], by simp [o2], by simp [o3], ha, hb _ _ o5 (by omega), hw _ _ _ o6 gw⟩
  split
  · exact ⟨by simp [o1], by rw [List.length_set, layTo_len]; exact o2, by simp [o3], ha, hb _ _ hl (by omega), hw _ _ _ (hw _ _ _ o6 (by omega)) (by decide)⟩
  · exact ⟨by simp [o1], by simp [o2], by simp [o3], ha, hb _ _ o5 (by omega), hw _ _ _ o6 (by decide)⟩
/-- States and outcomes as keys of maps. -/
structure Sx where
  s : St
  a : s.A.length = 3
  b : s.B.length = 3
  w : s.W.length = 16
theorem Sx.ext {x y : Sx} (h : x.s = y.s) : x = y := by cases x; cases y; simp only at h; subst h; rfl
theorem St.ext3 {x y : St} (h1 : x.A = y.A) (h2 : x.B = y.B) (h3 : x.W = y.W) : x = y := by cases x; cases y; simp only at h1 h2 h3; subst h1 h2 h3; rfl
instance : DecidableEq Sx := fun a b => decidable_of_iff (a.s.A = b.s.A ∧ a.s.B = b.s.B ∧ a.s.W = b.s.W) ⟨fun h => Sx.ext (St.ext3 h.1 h.2.1 h.2.2), fun h => by subst h; exact ⟨rfl, rfl, rfl⟩⟩
instance : DecidableEq Oc := fun a b => decidable_of_iff (a.W = b.W) ⟨Oc.ext, fun h => by subst h; rfl⟩
def stv (x : Sx) : Value := .agg x.s.cs.toArray
def ocv (o : Oc) : Value := .agg o.cs.toArray
section
set_option maxHeartbeats 8000000
set_option maxRecDepth 10000
theorem ocT : KeyT Tryz.prog 50 ocv where
  under := Option.isSome_iff_exists.1 (by kernel_rfl)
  key := fun o => by
    obtain ⟨W, hW⟩ := o
    obtain ⟨a0, a1, a2, a3, a4, a5, a6, a7, a8, a9, b0, b1, b2, b3, b4, b5, hw⟩ := sixteen hW
    show keyV Tryz.prog 10000 50 (.agg (W.map uv).toArray) = true
    rw [hw]
    kernel_rfl
  equal := fun x y => by
    obtain ⟨W, hW⟩ := x
    obtain ⟨V, hV⟩ := y
    obtain ⟨a0, a1, a2, a3, a4, a5, a6, a7, a8, a9, b0, b1, b2, b3, b4, b5, hw⟩ := sixteen hW
    obtain ⟨c0, c1, c2, c3, c4, c5, c6, c7, c8, c9, d0, d1, d2, d3, d4, d5, hv⟩ := sixteen hV
    have e : eqV Tryz.prog 10000 50 (.agg ([a0, a1, a2, a3, a4, a5, a6, a7, a8, a9, b0, b1, b2, b3, b4, b5].map uv).toArray) (.agg ([c0, c1, c2, c3, c4, c5, c6, c7, c8, c9, d0, d1, d2, d3, d4, d5].map uv).toArray) =
        some (((a0 : Int) == c0 && ((a1 : Int) == c1 && ((a2 : Int) == c2 && ((a3 : Int) == c3 && true)))) && (((((a4 : Int) == c4 && ((a5 : Int) == c5 && ((a6 : Int) == c6 && ((a7 : Int) == c7 && true)))) && ((((a8 : Int) == c8 && ((a9 : Int) == c9 && ((b0 : Int) == d0 && ((b1 : Int) == d1 && true)))) && ((((b2 : Int) == d2 && ((b3 : Int) == d3 && ((b4 : Int) == d4 && ((b5 : Int) == d5 && true)))) && true)))))) && true)) := by kernel_rfl
    show eqV Tryz.prog 10000 50 (.agg (W.map uv).toArray) (.agg (V.map uv).toArray) = some (decide (Oc.mk W hW = Oc.mk V hV))
    have hd : decide (Oc.mk W hW = Oc.mk V hV) = decide (W = V) := by rw [decide_eq_decide, Oc.mk.injEq]
    rw [hd, hw, hv, e]
    congr 1
    rw [Bool.eq_iff_iff]
    simp
    omega
  same := fun o => by
    obtain ⟨W, hW⟩ := o
    obtain ⟨a0, a1, a2, a3, a4, a5, a6, a7, a8, a9, b0, b1, b2, b3, b4, b5, hw⟩ := sixteen hW
    show Instr.sameBits 10000 (.agg (W.map uv).toArray) (.agg (W.map uv).toArray) = true
    rw [hw]
    simp [Instr.sameBits]
theorem stT : KeyT Tryz.prog 80 stv where
  under := Option.isSome_iff_exists.1 (by kernel_rfl)
  key := fun o => by
    obtain ⟨⟨A, B, W⟩, hA, hB, hW⟩ := o
    obtain ⟨a0, a1, a2, a3, a4, a5, a6, a7, a8, a9, b0, b1, b2, b3, b4, b5, hw⟩ := sixteen hW
    obtain ⟨e0, e1, e2, ha⟩ := three hA
    obtain ⟨f0, f1, f2, hb⟩ := three hB
    show keyV Tryz.prog 10000 80 (.agg (cells3 A B W).toArray) = true
    simp only at hw ha hb
    rw [hw, ha, hb]
    kernel_rfl
  equal := fun x y => by
    obtain ⟨⟨A, B, W⟩, hA, hB, hW⟩ := x
    obtain ⟨⟨A', B', W'⟩, hA', hB', hW'⟩ := y
    obtain ⟨a0, a1, a2, a3, a4, a5, a6, a7, a8, a9, b0, b1, b2, b3, b4, b5, hw⟩ := sixteen hW
    obtain ⟨e0, e1, e2, ha⟩ := three hA
    obtain ⟨f0, f1, f2, hb⟩ := three hB
    obtain ⟨c0, c1, c2, c3, c4, c5, c6, c7, c8, c9, d0, d1, d2, d3, d4, d5, hw'⟩ := sixteen hW'
    obtain ⟨g0, g1, g2, ha'⟩ := three hA'
    obtain ⟨i0, i1, i2, hb'⟩ := three hB'
    have e : eqV Tryz.prog 10000 80 (.agg (cells3 [e0, e1, e2] [f0, f1, f2] [a0, a1, a2, a3, a4, a5, a6, a7, a8, a9, b0, b1, b2, b3, b4, b5]).toArray) (.agg (cells3 [g0, g1, g2] [i0, i1, i2] [c0, c1, c2, c3, c4, c5, c6, c7, c8, c9, d0, d1, d2, d3, d4, d5]).toArray) =
        some ((e0 == g0 && (e1 == g1 && (e2 == g2 && true))) && ((f0 == i0 && (f1 == i1 && (f2 == i2 && true))) && ((((a0 : Int) == c0 && ((a1 : Int) == c1 && ((a2 : Int) == c2 && ((a3 : Int) == c3 && true)))) && (((((a4 : Int) == c4 && ((a5 : Int) == c5 && ((a6 : Int) == c6 && ((a7 : Int) == c7 && true)))) && (((a8 : Int) == c8 && ((a9 : Int) == c9 && ((b0 : Int) == d0 && ((b1 : Int) == d1 && true)))) && (((b2 : Int) == d2 && ((b3 : Int) == d3 && ((b4 : Int) == d4 && ((b5 : Int) == d5 && true)))) && true)))) && true)) && true))) := by kernel_rfl
    have hd : decide (Sx.mk ⟨A, B, W⟩ hA hB hW = Sx.mk ⟨A', B', W'⟩ hA' hB' hW') = decide (A = A' ∧ B = B' ∧ W = W') := by rw [decide_eq_decide, Sx.mk.injEq, St.mk.injEq]
    show eqV Tryz.prog 10000 80 (.agg (cells3 A B W).toArray) (.agg (cells3 A' B' W').toArray) = some (decide (Sx.mk ⟨A, B, W⟩ hA hB hW = Sx.mk ⟨A', B', W'⟩ hA' hB' hW'))
    rw [hd]
    simp only at hw ha hb hw' ha' hb'
    rw [hw, ha, hb, hw', ha', hb', e]
    congr 1
    rw [Bool.eq_iff_iff]
    simp
    omega
  same := fun o => by
    obtain ⟨⟨A, B, W⟩, hA, hB, hW⟩ := o
    obtain ⟨a0, a1, a2, a3, a4, a5, a6, a7, a8, a9, b0, b1, b2, b3, b4, b5, hw⟩ := sixteen hW
    obtain ⟨e0, e1, e2, ha⟩ := three hA
    obtain ⟨f0, f1, f2, hb⟩ := three hB
    show Instr.sameBits 10000 (.agg (cells3 A B W).toArray) (.agg (cells3 A B W).toArray) = true
    simp only at hw ha hb
    rw [hw, ha, hb]
    simp [Instr.sameBits, cells3]
end
end Go.Proofs.YtciagjfemgfhgaaGreatDoor
/-! All orders of a test: lists of outcomes that rise; what goes through all orders. -/
namespace Go.Proofs.YtciagjfemgfhgaaGreatDoor
set_option linter.unusedSimpArgs false
set_option linter.unusedVariables false
open Go Go.Mid Go.RowKit
attribute [local irreducible] mid
/-- A list that rises. -/
def Ris (l : List Oc) : Prop := l.Pairwise fun a b => ltO a b = true
theorem ltO_irr (a : Oc) : ltO a a = false := ltO_swo.irrefl a
theorem ltO_tr {a b c : Oc} (h1 : ltO a b = true) (h2 : ltO b c = true) : ltO a c = true := ltO_swo.trans a b c h1 h2
def insO (o : Oc) : List Oc → List Oc
  | [] => [o]
  | x :: l => if ltO x o = true then x :: insO o l else if ltO o x = true then o :: x :: l else x :: l
theorem mem_insO {o y : Oc} : ∀ {l : List Oc}, y ∈ insO o l ↔ y = o ∨ y ∈ l
  | [] => by simp [insO]
  | x :: l => by
    unfold insO
    split
    · simp only [List.mem_cons, mem_insO (l := l)]
      constructor
      · rintro (h | h | h)
        · exact .inr (.inl h)
        · exact .inl h
        · exact .inr (.inr h)
      · rintro (h | h | h)
        · exact .inr (.inl h)
        · exact .inl h
        · exact .inr (.inr h)
    · rename_i h1
      split
      · simp
      · rename_i h2
        have := ltO_total (by simpa using h1) (by simpa using h2)
        subst this
        simp
theorem insO_ris {o : Oc} : ∀ {l : List Oc}, Ris l → Ris (insO o l)
  | [], _ => by simp [insO, Ris]
  | x :: l, h => by
    obtain ⟨h1, h2⟩ := List.pairwise_cons.1 h
    unfold insO
    split
    · rename_i hx
      refine List.pairwise_cons.2 ⟨fun y hy => ?_, insO_ris h2⟩
      rcases mem_insO.1 hy with rfl | hy
      · exact hx
      · exact h1 y hy
    · rename_i hx
      split
      · rename_i hox
        refine List.pairwise_cons.2 ⟨fun y hy => ?_, h⟩
        rcases List.mem_cons.1 hy with rfl | hy
        · exact hox
        · exact ltO_tr hox (h1 y hy)
      · exact h
theorem insO_len {o : Oc} : ∀ {l : List Oc}, (insO o l).length ≤ l.length + 1
  | [] => by simp [insO]
  | x :: l => by
    have := insO_len (o := o) (l := l)
    unfold insO
    split
    · simp only [List.length_cons]; omega
    · split <;> simp
theorem insO_at {o : Oc} : ∀ {l : List Oc} {m : Nat}, (∀ j x, j < m → l[j]? = some x → ltO x o = true) → (∀ x, l[m]? = some x → ltO x o = false) → m ≤ l.length → insO o l = if l[m]? = some o then l else l.take m ++ o :: l.drop m
  | [], m, _, _, hm => by
    have : m = 0 := by simpa using hm
    subst this
    simp [insO]
  | x :: l, 0, _, hr, _ => by
    have hx := hr x rfl
    unfold insO
    rw [if_neg (by simp [hx])]
    by_cases hxo : x = o
    · subst hxo
      rw [if_neg (by simp [hx])]
      simp
    · have hox : ltO o x = true := by
        cases e : ltO o x with
        | true => rfl
        | false => exact absurd (ltO_total hx e) hxo
      rw [if_pos hox, if_neg (by simpa using hxo)]
      simp
  | x :: l, m + 1, hl, hr, hm => by
    have hx := hl 0 x (by omega) rfl
    have ih := insO_at (o := o) (l := l) (m := m) (fun j y hj hy => hl (j + 1) y (by omega) hy) (fun y hy => hr y hy) (by simpa using hm)
    unfold insO
    rw [if_pos hx, ih]
    simp only [List.getElem?_cons_succ, List.take_succ_cons, List.drop_succ_cons, List.cons_append]
    split <;> rfl
theorem ris_head {x : Oc} {l : List Oc} (h : Ris (x :: l)) {y : Oc} (hy : y ∈ x :: l) : y = x ∨ ltO x y = true := by
  rcases List.mem_cons.1 hy with h1 | h1
  · exact .inl h1
  · exact .inr ((List.pairwise_cons.1 h).1 y h1)
/-- Rising lists of the same members are one. -/
theorem ris_eq : ∀ {l m : List Oc}, Ris l → Ris m → (∀ x, x ∈ l ↔ x ∈ m) → l = m
  | [], [], _, _, _ => rfl
  | [], y :: m, _, _, h => by have := (h y).2 (by simp); simp at this
  | x :: l, [], _, _, h => by have := (h x).1 (by simp); simp at this
  | x :: l, y :: m, h1, h2, h => by
    have e : x = y := by
      rcases ris_head h2 ((h x).1 (by simp)) with e | e
      · exact e
      · rcases ris_head h1 ((h y).2 (by simp)) with e' | e'
        · exact e'.symm
        · have := ltO_tr e e'
          rw [ltO_irr] at this; cases this
    subst e
    congr 1
    refine ris_eq (List.pairwise_cons.1 h1).2 (List.pairwise_cons.1 h2).2 fun z => ?_
    have hx1 : ∀ {q : List Oc}, Ris (x :: q) → x ∉ q := fun hq hin => by
      have := (List.pairwise_cons.1 hq).1 x hin
      rw [ltO_irr] at this; cases this
    constructor
    · intro hz
      rcases List.mem_cons.1 ((h z).1 (List.mem_cons_of_mem _ hz)) with e | e
      · subst e; exact absurd hz (hx1 h1)
      · exact e
    · intro hz
      rcases List.mem_cons.1 ((h z).2 (List.mem_cons_of_mem _ hz)) with e | e
      · subst e; exact absurd hz (hx1 h2)
      · exact e
/-- What was sorted, of keys that differ, rises. -/
theorem ris_of {l : List Oc} (hn : l.Nodup) (hs : l.Pairwise fun x z => ltO z x = false) : Ris l := by
  unfold Ris
  induction l with
  | nil => exact List.Pairwise.nil
  | cons x l ih =>
    obtain ⟨h1, h2⟩ := List.pairwise_cons.1 hs
    obtain ⟨h3, h4⟩ := List.nodup_cons.1 hn
    refine List.pairwise_cons.2 ⟨fun y hy => ?_, ih h4 h2⟩
    cases e : ltO x y with
    | true => rfl
    | false => exact absurd (ltO_total e (h1 y hy) ▸ hy) h3
/-- The outcomes that a state comes to. -/
def OutS (T : List (List Dd)) (s : St) (o : Oc) : Prop := OutR T s o.W
/-- A thread's next deed. -/
def nxt (T : List (List Dd)) (s : St) (i : Nat) : Option Dd := (T[i]?).bind fun L => L[(s.A.getD i 0).toNat]?
theorem nxt_some {T : List (List Dd)} {s : St} {i : Nat} {L : List Dd} {d : Dd} (h1 : T[i]? = some L) (h2 : L[(s.A.getD i 0).toNat]? = some d) : nxt T s i = some d := by
  unfold nxt
  rw [h1]; exact h2
theorem nxt_at {T : List (List Dd)} {s : St} {i : Nat} {d : Dd} (h : nxt T s i = some d) : ∃ L, T[i]? = some L ∧ L[(s.A.getD i 0).toNat]? = some d := by
  unfold nxt at h
  cases e : T[i]? with
  | none => rw [e] at h; cases h
  | some L => rw [e] at h; exact ⟨L, rfl, h⟩
theorem nxt_none {T : List (List Dd)} {s : St} {i : Nat} {L : List Dd} (h1 : T[i]? = some L) (h2 : L.length ≤ (s.A.getD i 0).toNat) : nxt T s i = none := by
  unfold nxt
  rw [h1]
  exact List.getElem?_eq_none h2
theorem outS_done {T : List (List Dd)} {s : St} (h : ∀ i, i < T.length → nxt T s i = none) : OutR T s s.W := by
  refine OutR.done fun i L hL => ?_
  have := h i (List.getElem?_eq_some_iff.1 hL).1
  unfold nxt at this
  rw [hL] at this
  exact List.getElem?_eq_none_iff.1 this
theorem outS_done' {T : List (List Dd)} {s : St} {w : List Nat} (h : ∀ i, i < T.length → nxt T s i = none) (o : OutR T s w) : w = s.W := by
  rcases o.inv with ⟨_, e⟩ | ⟨i, L, d, h1, h2, _⟩
  · exact e
  · have := h i (List.getElem?_eq_some_iff.1 h1).1
    rw [nxt_some h1 h2] at this; cases this
theorem outS_step {T : List (List Dd)} {s : St} {i : Nat} {d : Dd} {w : List Nat} (h : nxt T s i = some d) (o : OutR T (doS s i d) w) : OutR T s w := by
  obtain ⟨L, h1, h2⟩ := nxt_at h
  exact OutR.step h1 h2 o
theorem outS_inv {T : List (List Dd)} {s : St} {w : List Nat} {j : Nat} {d0 : Dd} (hj : j < T.length) (h : nxt T s j = some d0) (o : OutR T s w) : ∃ i d, i < T.length ∧ nxt T s i = some d ∧ OutR T (doS s i d) w := by
  rcases o.inv with ⟨h0, _⟩ | ⟨i, L, d, h1, h2, h3⟩
  · obtain ⟨L, h1, h2⟩ := nxt_at h
    have := h0 j L h1
    have := (List.getElem?_eq_some_iff.1 h2).1
    omega
  · exact ⟨i, d, (List.getElem?_eq_some_iff.1 h1).1, nxt_some h1 h2, h3⟩
theorem left_step' {T : List (List Dd)} {s : St} (hs : s.A.length = 3) (hp : ∀ x ∈ s.A, 0 ≤ x) {i : Nat} (hi : i < 3) {L : List Dd} {d d' : Dd} (hL : T[i]? = some L) (hd : L[(s.A.getD i 0).toNat]? = some d) : left T (doS s i d') + 1 = left T s := by
  obtain ⟨a, b, c, hA⟩ := three hs
  have hlt := (List.getElem?_eq_some_iff.1 hd).1
  have hTd : T.getD i [] = L := by rw [List.getD_eq_getElem?_getD, hL]; rfl
  unfold left leftI
  rw [doS_A]
  rw [hA] at hp hlt ⊢
  have h0 := hp a (by simp)
  have h1 := hp b (by simp)
  have h2 := hp c (by simp)
  match i, hi with
  | 0, _ =>
    rw [hTd]
    simp only [List.getD_cons_zero, List.getD_cons_succ, List.set_cons_zero] at hlt ⊢
    omega
  | 1, _ =>
    rw [hTd]
    simp only [List.getD_cons_zero, List.getD_cons_succ, List.set_cons_zero, List.set_cons_succ] at hlt ⊢
    omega
  | 2, _ =>
    rw [hTd]
    simp only [List.getD_cons_zero, List.getD_cons_succ, List.set_cons_zero, List.set_cons_succ] at hlt ⊢
    omega
/-- All orders, one by one. -/
def runs (T : List (List Dd)) : Nat → St → List (List Nat)
  | 0, s => [s.W]
  | n + 1, s => if (List.range T.length).all (fun i => (nxt T s i).isNone) then [s.W] else (List.range T.length).flatMap fun i => match nxt T s i with
    | some d => runs T n (doS s i d)
    | none => []
theorem runs_ok {T : List (List Dd)} (hT : T.length ≤ 3) : ∀ {n : Nat} {s : St}, (∀ (i : Nat) (d : Dd), nxt T s i = some d → (∀ x ∈ s.A, 0 ≤ x)) → s.A.length = 3 → (∀ x ∈ s.A, 0 ≤ x) → left T s ≤ n → ∀ w, OutR T s w ↔ w ∈ runs T n s
  | 0, s, _, hA, hp, hl, w => by
    have hs : ∀ i, i < T.length → nxt T s i = none := fun i hi => by
      cases e : nxt T s i with
      | none => rfl
      | some d =>
        obtain ⟨L, h1, h2⟩ := nxt_at e
        have h3 := (List.getElem?_eq_some_iff.1 h2).1
        have hTd : T.getD i [] = L := by rw [List.getD_eq_getElem?_getD, h1]; rfl
        have : 0 < leftI T s i := by unfold leftI; rw [hTd]; omega
        unfold left at hl
        have : i = 0 ∨ i = 1 ∨ i = 2 := by omega
        rcases this with rfl | rfl | rfl <;> omega
    simp only [runs, List.mem_singleton]
    exact ⟨outS_done' hs, fun e => e ▸ outS_done hs⟩
  | n + 1, s, hh, hA, hp, hl, w => by
    unfold runs
    by_cases hs : (List.range T.length).all (fun i => (nxt T s i).isNone) = true
    · rw [if_pos hs]
      have hs : ∀ i, i < T.length → nxt T s i = none := fun i hi => by
        have := List.all_eq_true.1 hs i (List.mem_range.2 hi)
        simpa using this
      simp only [List.mem_singleton]
      exact ⟨outS_done' hs, fun e => e ▸ outS_done hs⟩
    · rw [if_neg hs]
      have hs : ∃ j d0, j < T.length ∧ nxt T s j = some d0 := by
        apply Classical.byContradiction
        intro hno
        apply hs
        rw [List.all_eq_true]
        intro i hi
        cases e : nxt T s i with
        | none => rfl
        | some d => exact absurd ⟨i, d, List.mem_range.1 hi, e⟩ hno
      obtain ⟨j, d0, hj, hd0⟩ := hs
      have child : ∀ i d, i < T.length → nxt T s i = some d → (OutR T (doS s i d) w ↔ w ∈ runs T n (doS s i d)) := fun i d hi hd => by
        obtain ⟨L, h1, h2⟩ := nxt_at hd
        have hp2 : ∀ x ∈ (doS s i d).A, 0 ≤ x := fun x hx => by
          rw [doS_A] at hx
          rcases List.mem_or_eq_of_mem_set hx with hx | hx
          · exact hp x hx
          · have := hp _ (List.mem_of_getElem? (getD_at (l := s.A) 0 (show i < s.A.length by omega)))
            omega
        refine runs_ok hT (fun _ _ _ => hp2) (by rw [doS_A, List.length_set]; exact hA) hp2 ?_ w
        have := left_step' hA hp (show i < 3 by omega) h1 h2 (d' := d)
        omega
      rw [List.mem_flatMap]
      constructor
      · intro o
        obtain ⟨i, d, hi, hd, o2⟩ := outS_inv hj hd0 o
        exact ⟨i, List.mem_range.2 hi, by rw [hd]; exact (child i d hi hd).1 o2⟩
      · rintro ⟨i, hi, hw⟩
        cases e : nxt T s i with
        | none => rw [e] at hw; cases hw
        | some d =>
          rw [e] at hw
          exact outS_step e ((child i d (List.mem_range.1 hi) e).2 hw)
/-- One thread has one outcome. -/
theorem out_one {T : List (List Dd)} (hT : T.length = 1) {s : St} {w w' : List Nat} (o : OutR T s w) (o' : OutR T s w') : w = w' := by
  induction o with
  | done h =>
    rcases o'.inv with ⟨_, e⟩ | ⟨i, L, d, h1, h2, _⟩
    · exact e.symm
    · have := h i L h1
      have := (List.getElem?_eq_some_iff.1 h2).1
      omega
  | @step s i L d w h1 h2 h3 ih =>
    have hi := (List.getElem?_eq_some_iff.1 h1).1
    rcases o'.inv with ⟨h, e⟩ | ⟨j, L', d', h1', h2', o2⟩
    · have := h i L h1
      have := (List.getElem?_eq_some_iff.1 h2).1
      omega
    · have hj := (List.getElem?_eq_some_iff.1 h1').1
      have : i = j := by omega
      subst this
      rw [h1] at h1'
      cases h1'
      rw [h2] at h2'
      cases h2'
      exact ih o2
end Go.Proofs.YtciagjfemgfhgaaGreatDoor
/-! All outcomes of a test: the states that are met. -/
namespace Go.Proofs.YtciagjfemgfhgaaGreatDoor
set_option linter.unusedSimpArgs false
set_option linter.unusedVariables false
open Go Go.Mid Go.RowKit
attribute [local irreducible] mid
/-- The states that were met. -/
def metF (M : List Sx) (x : Sx) : Option Value := if x ∈ M then some (zv 1) else none
theorem metF_put (M : List Sx) (x : Sx) : putF (metF M) x (some (zv 1)) = metF (x :: M) := by
  funext y
  unfold putF metF
  by_cases h : y = x
  · rw [if_pos h, if_pos (by rw [h]; simp)]
  · rw [if_neg h]
    by_cases h2 : y ∈ M
    · rw [if_pos h2, if_pos (List.mem_cons_of_mem _ h2)]
    · rw [if_neg h2, if_neg (fun hh => by rcases List.mem_cons.1 hh with e | e; exact h e; exact h2 e)]
/-- A map that bears these outcomes. -/
def EndF (E : List Oc) (f : Oc → Option Value) : Prop := ∀ o, (o ∈ E → ∃ n : Int, f o = some (zv n)) ∧ (o ∉ E → f o = none)
theorem EndF.put {E : List Oc} {f : Oc → Option Value} (h : EndF E f) (o : Oc) (n : Int) : EndF (o :: E) (putF f o (some (zv n))) := fun p => by
  unfold putF
  by_cases e : p = o
  · rw [if_pos e]
    exact ⟨fun _ => ⟨n, rfl⟩, fun hh => absurd (by rw [e]; simp) hh⟩
  · rw [if_neg e]
    exact ⟨fun hh => (h p).1 ((List.mem_cons.1 hh).resolve_left e), fun hh => (h p).2 fun h2 => hh (List.mem_cons_of_mem _ h2)⟩
/-- All outcomes of a state are there. -/
def DoneS (T : List (List Dd)) (E : List Oc) (s : St) : Prop := ∀ o, OutS T s o → o ∈ E
theorem DoneS.up {T : List (List Dd)} {E E' : List Oc} {s : St} (d : DoneS T E s) (h : ∀ o ∈ E, o ∈ E') : DoneS T E' s := fun o ho => h o (d o ho)
/-- What goOn knows: where the variables lie that it captured. -/
structure GoC (k : Hp) (cm ct cg ce m e : Nat) (g v : Value) (Ts : List Th) : Prop where
  a : k cm = some (rowO 75 [.map (some m)])
  b : k ct = some (rowO 24 [v])
  c : k cg = some (rowO 77 [g])
  d : k ce = some (rowO 76 [.map (some e)])
  m0 : k m = none
  e0 : k e = none
  me : m ≠ e
  rd : RdP k v Ts
abbrev goV (cm ct cg ce : Nat) : Value := .func (.func 28) #[] #[.pointer (some ⟨cm, 0, none⟩), .pointer (some ⟨ct, 0, none⟩), .pointer (some ⟨cg, 0, none⟩), .pointer (some ⟨ce, 0, none⟩)]
theorem GoC.up {k k' : Hp} {cm ct cg ce m e : Nat} {g v : Value} {Ts : List Th} (c : GoC k cm ct cg ce m e g v Ts) (h : k.le k') (h1 : k' m = none) (h2 : k' e = none) : GoC k' cm ct cg ce m e g v Ts :=
  ⟨h _ _ c.a, h _ _ c.b, h _ _ c.c, h _ _ c.d, h1, h2, c.me, c.rd.le h⟩
theorem aggMp1 : isAggT Tryz.prog 75 = some false := by kernel_rfl
theorem aggMp2 : isAggT Tryz.prog 76 = some false := by kernel_rfl
theorem aggFn : isAggT Tryz.prog 77 = some false := by kernel_rfl
theorem mapM : Tryz.prog.underlying 75 = some (.map 80 3) := by kernel_rfl
theorem mapE : Tryz.prog.underlying 76 = some (.map 50 3) := by kernel_rfl
theorem intZ : zeroT Tryz.prog 3 = some (zv 0) := by kernel_rfl
/-- A state behind a deed, as a key. -/
theorem nextSx (x : Sx) {i : Nat} (hx : x.s.ok) (hi : i < 3) {d : Dd} (hd : deedE d = 0) (hA : x.s.A.getD i 0 ≤ 900) : ∃ y : Sx, y.s = doS x.s i d ∧ y.s.ok := by
  have := doS_ok hx hi hd hA
  exact ⟨⟨doS x.s i d, this.a, this.b, this.w⟩, rfl, this⟩
theorem pow3 {n : Nat} (h : 0 < n) : 3 ^ n = 3 * 3 ^ (n - 1) := by
  obtain ⟨m, rfl⟩ : ∃ m, n = m + 1 := ⟨n - 1, by omega⟩
  rw [Nat.pow_succ, Nat.mul_comm]; rfl
theorem c3_W {A B : List Int} {W : List Nat} (hA : A.length = 3) (hB : B.length = 3) (hW : W.length = 16) : ((cells3 A B W).drop 6).take 16 = W.map uv := by
  obtain ⟨a, b, c, rfl⟩ := three hA
  obtain ⟨d, e, f, rfl⟩ := three hB
  show (W.map uv).take 16 = _
  rw [List.take_of_length_le (by rw [List.length_map, hW]; exact Nat.le_refl _)]
theorem X.args {P : Program} {F : FuncId} {a b : Array Value} {h : Hp} {K : Value → Hp → Prop} (e : a = b) (x : X P F a h K) : X P F b h K := e ▸ x
section
set_option maxHeartbeats 8000000
set_option maxRecDepth 10000
theorem goOn_x {Ts : List Th} (hT : Ts.length ≤ 3) (h5 : ∀ p ∈ Ts, p.L.length ≤ 5) (hd : ∀ p ∈ Ts, ∀ d ∈ p.L, deedE d = 0) (cm ct cg ce m e : Nat) (v : Value) :
    ∀ (N : Nat) (x : Sx) (k h : Hp) (M : List Sx) (E : List Oc) (f : Oc → Option Value) (nM nE : Nat) (om oe : Obj) (K : Value → Hp → Prop), left (Ts.map (·.L)) x.s < N → x.s.ok → GoC k cm ct cg ce m e (goV cm ct cg ce) v Ts → k.le h →
      h m = some om → MapB stv (metF M) nM om → h e = some oe → MapB ocv f nE oe → EndF E f → (∀ y ∈ M, left (Ts.map (·.L)) y.s ≤ left (Ts.map (·.L)) x.s → DoneS (Ts.map (·.L)) E y.s) →
      (∀ (M' : List Sx) (E' : List Oc) (f' : Oc → Option Value) (nM' nE' : Nat) (om' oe' : Obj) (h' : Hp), k.le h' → h' m = some om' → MapB stv (metF M') nM' om' → h' e = some oe' → MapB ocv f' nE' oe' → EndF E' f' →
        (∀ y ∈ M', y ∈ M ∨ left (Ts.map (·.L)) y.s ≤ left (Ts.map (·.L)) x.s ∧ DoneS (Ts.map (·.L)) E' y.s) → (∀ o ∈ E, o ∈ E') → (∀ o ∈ E', o ∈ E ∨ OutS (Ts.map (·.L)) x.s o) → DoneS (Ts.map (·.L)) E' x.s → nE' ≤ nE + 3 ^ left (Ts.map (·.L)) x.s → K (.tuple #[]) h') →
      X Tryz.prog 28 #[stv x, .pointer (some ⟨cm, 0, none⟩), .pointer (some ⟨ct, 0, none⟩), .pointer (some ⟨cg, 0, none⟩), .pointer (some ⟨ce, 0, none⟩)] h K := by
  intro N
  induction N with
  | zero => intro x k h M E f nM nE om oe K hN; omega
  | succ N ih =>
  intro x k h M E f nM nE om oe K hN hx hG hkh hm hM he hE hEF hpre hk
  have hcl := c3_len hx.a hx.b hx.w
  have hlook := MapB.look mapM intZ stT hm hM x false
  have hlE := fun (h' : Hp) (oe : Obj) (f : Oc → Option Value) (nE : Nat) (o : Oc) (he : h' e = some oe) (hE : MapB ocv f nE oe) => MapB.look mapE intZ ocT he hE o false
  have hob_ := hG.rd
  obtain ⟨base, cap, rfl, hf1, hf2⟩ := hob_
  generalize hTT : Ts.map (·.L) = T at *
  have hTl : T.length = Ts.length := by rw [← hTT, List.length_map]
  have hTi : ∀ (i : Nat) (p : Th), Ts[i]? = some p → T[i]? = some p.L := fun i p hp => by rw [← hTT, List.getElem?_map, hp]; rfl
  have hdone : x ∈ M → K (.tuple #[]) h := fun hin => hk M E f nM nE om oe h hkh hm hM he hE hEF (fun y hy => .inl hy) (fun o ho => ho) (fun o ho => .inl ho) (hpre x hin (Nat.le_refl _)) (Nat.le_add_right _ _)
  refine fnv (args := _) mixed [] [] [30, 47] Tryz.func28 rfl (by kernel_rfl) ?_; conv => whnf
  refine new_intro (o := rowO 80 x.s.cs) (fun bs h1 n_bs le_bs at_bs ot_bs => ?_); conv => whnf
  have k1 : k.le h1 := Hp.le_trans hkh le_bs
  have m1 := le_bs _ _ hm
  have e1 := le_bs _ _ he
  have l1 : lookH Tryz.prog 75 h1 (.map (some m)) (stv x) false = some (lookR false (metF M x) (zv 0)) := MapB.look mapM intZ stT m1 hM x false
  refine ⟨_, loadC0 aggMp1 (k1 _ _ hG.a) rfl, ?_⟩; conv => whnf
  refine ⟨_, loadA0 aggSt sizSt at_bs hcl, ?_⟩; conv => whnf
  by_cases hin : x ∈ M
  · have l1 : lookH Tryz.prog 75 h1 (.map (some m)) (.agg x.s.cs.toArray) false = some (zv 1) := by
      have e0 : metF M x = some (zv 1) := by unfold metF; rw [if_pos hin]
      rw [e0] at l1; exact l1
    refine ⟨_, l1, ?_⟩; conv => whnf
    exact hk M E f nM nE om oe h1 k1 m1 hM e1 hE hEF (fun y hy => .inl hy) (fun o ho => ho) (fun o ho => .inl ho) (hpre x hin (Nat.le_refl _)) (Nat.le_add_right _ _)
  have l1 : lookH Tryz.prog 75 h1 (.map (some m)) (.agg x.s.cs.toArray) false = some (zv 0) := by
    have e0 : metF M x = none := by unfold metF; rw [if_neg hin]
    rw [e0] at l1; exact l1
  refine ⟨_, l1, ?_⟩; conv => whnf
  have hob_ := MapB.upd mapM stT m1 hM x (zv 1)
  obtain ⟨om2, hup2, hM2⟩ := hob_
  rw [metF_put] at hM2
  refine ⟨_, loadC0 aggMp1 (k1 _ _ hG.a) rfl, ?_⟩; conv => whnf
  refine ⟨_, loadA0 aggSt sizSt at_bs hcl, ?_⟩; conv => whnf
  refine wr_intro (by exact hup2) (fun h2 at_h2 ot_h2 => ?_)
  try (conv => whnf)
  have nbm : bs ≠ m := Ne.symm (Hp.ne n_bs hm)
  have nbe : bs ≠ e := Ne.symm (Hp.ne n_bs he)
  have kbs : k bs = none := Hp.none_le hkh n_bs
  have k2 : k.le h2 := Hp.le_st hG.m0 k1 ot_h2
  have e2 : h2 e = some oe := (ot_h2 e (Ne.symm hG.me)).trans e1
  have b2 : h2 bs = some (rowO 80 x.s.cs) := (ot_h2 bs nbm).trans at_bs
  have m2 : h2 m = some om2 := at_h2
  have kk : (k.set bs (rowO 80 x.s.cs)).le h2 := Hp.set_le k2 b2
  have kk0 : k.le (k.set bs (rowO 80 x.s.cs)) := Hp.le_set' kbs
  have GK := hG.up kk0 (by rw [Hp.set_other _ _ (Ne.symm nbm)]; exact hG.m0) (by rw [Hp.set_other _ _ (Ne.symm nbe)]; exact hG.e0)
  have kb : (k.set bs (rowO 80 x.s.cs)) bs = some (rowO 80 x.s.cs) := Hp.set_same _ _ _
  generalize (k.set bs (rowO 80 x.s.cs)) = kx at *
  clear at_bs ot_bs le_bs n_bs at_h2 ot_h2 k1 m1 e1 l1 b2 k2
  have hf1 : ∀ (i : Nat) (p : Th), Ts[i]? = some p → ∃ b, base = some b ∧ loadH Tryz.prog 41 kx (b.add (((i : Nat) : Int).toNat * 1)) = some p.v := fun i p hp => by
    obtain ⟨b, eb, l⟩ := hf1 i p hp; exact ⟨b, eb, loadH_le kk0 l⟩
  have hf2 : ∀ p ∈ Ts, ∀ (j : Nat) (d : Dd), p.L[j]? = some d → ∃ b, p.a = some b ∧ loadH Tryz.prog 56 kx (b.add (((j : Nat) : Int).toNat * 4)) = some (.agg d.cs.toArray) := fun p hp j d hd => by
    obtain ⟨b, eb, l⟩ := hf2 p hp j d hd; exact ⟨b, eb, loadH_le kk0 l⟩
  conv => whnf
  refine ⟨_, loadC0 aggTs (kk _ _ GK.b) rfl, ?_⟩; conv => whnf
  refine loop_at [18, 6] [] (fun r vs cs h' => ∃ (i : Nat) (M1 : List Sx) (E1 : List Oc) (f1 : Oc → Option Value) (nM1 nE1 : Nat) (om1 oe1 : Obj) (c : Nat), i ≤ Ts.length ∧ r = Ts.length - i ∧ vs = [.v (zv i), .v (.bool (decide (c = 0)))] ∧ c ≤ i ∧ kx.le h' ∧ h' m = some om1 ∧ MapB stv (metF M1) nM1 om1 ∧ h' e = some oe1 ∧ MapB ocv f1 nE1 oe1 ∧ EndF E1 f1 ∧
    (∀ y ∈ M1, y ∈ M ∨ y = x ∨ left T y.s < left T x.s ∧ DoneS T E1 y.s) ∧ (∀ o ∈ E, o ∈ E1) ∧ (∀ o ∈ E1, o ∈ E ∨ OutS T x.s o) ∧ (∀ j, j < i → ∀ d, nxt T x.s j = some d → DoneS T E1 (doS x.s j d)) ∧ nE1 ≤ nE + c * 3 ^ (left T x.s - 1) ∧ (c = 0 → ∀ j, j < i → nxt T x.s j = none) ∧ (c ≠ 0 → ∃ j d, j < T.length ∧ nxt T x.s j = some d)) Ts.length
    ⟨0, x :: M, E, f, _, nE, om2, oe, 0, by omega, by omega, rfl, by omega, kk, m2, hM2, e2, hE, hEF, fun y hy => by
      rcases List.mem_cons.1 hy with h | h
      · exact .inr (.inl h)
      · exact .inl h, fun o ho => ho, fun o ho => .inl ho, fun j hj => by omega, by omega, fun _ j hj => by omega, fun hh => absurd rfl hh⟩ ?_
  clear m2 hM2 e2 hE hEF kk hup2 hM he hm hkh hlE hlook
  rintro r vs cs mm bx h3 ⟨i, M1, E1, f1, nM1, nE1, om1, oe1, c, hi, rfl, rfl, hci, k3, m3, hM3, e3, hE3, hEF3, v1, v2, v3, v4, v5, v6, v7⟩
  conv => whnf
  refine bsel_intro (fun q1 => ?_) (fun q1 => ?_) <;> try simp only [bsL] at q1
  · have hiT : i < Ts.length := by omega
    obtain ⟨⟨pa, pc, pL⟩, hp⟩ : ∃ p, Ts[i]? = some p := ⟨_, List.getElem?_eq_getElem hiT⟩
    obtain ⟨b1, rfl, l1⟩ := hf1 i _ hp
    have g1 := hf2 _ (List.mem_of_getElem? hp)
    have hp5 := h5 _ (List.mem_of_getElem? hp)
    have hpd := hd _ (List.mem_of_getElem? hp)
    have hTp := hTi _ _ hp
    simp only [] at g1 hp5 hpd hTp
    have ga := getD_at (l := x.s.A) 0 (show i < x.s.A.length by rw [hx.a]; omega)
    have hnx : ∀ d, pL[(x.s.A.getD i 0).toNat]? = some d → nxt T x.s i = some d := fun d hd => nxt_some hTp hd
    have hnn : pL.length ≤ (x.s.A.getD i 0).toNat → nxt T x.s i = none := fun hd => nxt_none hTp hd
    have hstep : ∀ d d', pL[(x.s.A.getD i 0).toNat]? = some d → left T (doS x.s i d') + 1 = left T x.s := fun d d' hd => left_step hx (by omega) hTp hd
    have hnext : ∀ d, d ∈ pL → x.s.A.getD i 0 ≤ 900 → ∃ y : Sx, y.s = doS x.s i d ∧ y.s.ok := fun d hd hA => nextSx x hx (by omega) (hpd d hd) hA
    have ba := hx.a0 _ (List.mem_of_getElem? ga)
    generalize x.s.A.getD i 0 = at0 at *
    obtain ⟨an, rfl⟩ : ∃ n : Nat, at0 = n := ⟨at0.toNat, by omega⟩
    rw [Int.toNat_natCast] at hnx hnn hstep
    have ata : ((⟨bs, 0, none⟩ : Addr).add 0).add (((i : Nat) : Int).toNat * 1) = ⟨bs, i, none⟩ := by simp [addr_add]
    have kb3 := k3 _ _ kb
    conv => whnf
    (first | refine need_intro (⟨by omega, by omega⟩) ?_ | refine must.mk (⟨by omega, by omega⟩) ?_); conv => whnf
    refine ⟨_, loadH_le k3 l1, ?_⟩; conv => whnf
    (first | refine need_intro (⟨by omega, by omega⟩) ?_ | refine must.mk (⟨by omega, by omega⟩) ?_); conv => whnf
    refine ⟨_, loadCA ata aggI kb3 (c3_a ga), ?_⟩; conv => whnf
    refine bsel_intro (fun q2 => ?_) (fun q2 => ?_) <;> try simp only [bsL] at q2
    · have hj : an < pL.length := by omega
      obtain ⟨d, hdd⟩ : ∃ d, pL[an]? = some d := ⟨_, List.getElem?_eq_getElem hj⟩
      obtain ⟨b2, rfl, l2⟩ := g1 an d hdd
      have hde := hpd d (List.mem_of_getElem? hdd)
      have hs1 := hstep d d hdd
      obtain ⟨y, hy1, hy2⟩ := hnext d (List.mem_of_getElem? hdd) (by omega)
      have hnd := hnx d hdd
      conv => whnf
      refine ⟨fun h' => h' cg = some (rowO 77 [goV cm ct cg ce]), k3 _ _ GK.c, ?_⟩
      conv => whnf
      refine ⟨_, fun _ hh => loadC0 aggFn hh rfl, ?_⟩
      conv => whnf
      refine ⟨_, loadA0 aggSt sizSt kb3 hcl, ?_⟩; conv => whnf
      (first | refine need_intro (⟨by omega, by omega⟩) ?_ | refine must.mk (⟨by omega, by omega⟩) ?_); conv => whnf
      refine ⟨_, loadCA ata aggI kb3 (c3_a ga), ?_⟩; conv => whnf
      (first | refine need_intro (⟨by omega, by omega⟩) ?_ | refine must.mk (⟨by omega, by omega⟩) ?_); conv => whnf
      refine ⟨_, loadH_le k3 l2, ?_⟩; conv => whnf
      refine do_x x.s hx i (by omega) d hde ?_
      refine ⟨k3 _ _ GK.c, ?_⟩
      conv => whnf
      refine X.args (a := #[stv y, .pointer (some ⟨cm, 0, none⟩), .pointer (some ⟨ct, 0, none⟩), .pointer (some ⟨cg, 0, none⟩), .pointer (some ⟨ce, 0, none⟩)]) (by show _ = #[Value.agg (doS x.s i d).cs.toArray, .pointer (some ⟨cm, 0, none⟩), .pointer (some ⟨ct, 0, none⟩), .pointer (some ⟨cg, 0, none⟩), .pointer (some ⟨ce, 0, none⟩)]; unfold stv; rw [hy1]) ?_
      have hly : left T y.s + 1 = left T x.s := by rw [hy1]; exact hs1
      refine ih y kx h3 M1 E1 f1 nM1 nE1 om1 oe1 _ (by omega) hy2 GK k3 m3 hM3 e3 hE3 hEF3 (fun z hz hlz => ?_) (fun M2 E2 f2 nM2 nE2 om2 oe2 h4 k4 m4 hM4 e4 hE4 hEF4 w1 w2 w3 w4 w5 => ?_)
      · rcases v1 z hz with h9 | h9 | h9
        · exact (hpre z h9 (by omega)).up v2
        · subst h9; omega
        · exact h9.2
      refine ⟨k4 _ _ GK.c, ?_⟩
      conv => whnf
      (first | refine ov_c (by simp only [loK, hiK]; omega) ?_ | refine ov_c (by decide) ?_); conv => whnf
      have hl1 : left T x.s - 1 = left T y.s := by omega
      rw [hl1] at v5
      refine ⟨Ts.length - (i + 1), by omega, i + 1, M2, E2, f2, nM2, nE2, om2, oe2, c + 1, by omega, rfl, ?_, by omega, k4, m4, hM4, e4, hE4, hEF4, fun z hz => ?_, fun o ho => w2 o (v2 o ho), fun o ho => ?_, fun j hj2 d2 hd2 => ?_, ?_, fun hh => by omega, fun _ => ⟨i, d, by omega, hnd⟩⟩
      · rw [decide_eq_false (show ¬ c + 1 = 0 by omega)]; rfl
      · rcases w1 z hz with h9 | h9
        · rcases v1 z h9 with h8 | h8 | h8
          · exact .inl h8
          · exact .inr (.inl h8)
          · exact .inr (.inr ⟨h8.1, h8.2.up w2⟩)
        · exact .inr (.inr ⟨by omega, h9.2⟩)
      · rcases w3 o ho with h9 | h9
        · exact v3 o h9
        · refine .inr (outS_step hnd ?_)
          rw [← hy1]; exact h9
      · by_cases hji : j = i
        · subst hji
          rw [hnd] at hd2; cases hd2
          rw [← hy1]; exact w4
        · exact (v4 j (by omega) d2 hd2).up w2
      · rw [hl1, Nat.succ_mul]
        generalize 3 ^ left T y.s = P at *
        generalize c * P = Q at *
        omega
    · have hnn2 := hnn (by omega)
      conv => whnf
      (first | refine ov_c (by simp only [loK, hiK]; omega) ?_ | refine ov_c (by decide) ?_); conv => whnf
      refine ⟨Ts.length - (i + 1), by omega, i + 1, M1, E1, f1, nM1, nE1, om1, oe1, c, by omega, rfl, rfl, by omega, k3, m3, hM3, e3, hE3, hEF3, v1, v2, v3, fun j hj2 d2 hd2 => ?_, v5, fun hh j hj2 => ?_, v7⟩
      · by_cases hji : j = i
        · subst hji
          rw [hnn2] at hd2; cases hd2
        · exact v4 j (by omega) d2 hd2
      · by_cases hji : j = i
        · subst hji; exact hnn2
        · exact v6 hh j (by omega)
  have hin3 : i = Ts.length := by omega
  subst hin3
  conv => whnf
  refine bsel_intro (fun q3 => ?_) (fun q3 => ?_) <;> try simp only [bsL] at q3
  · have hs0 : ∀ j, j < T.length → nxt T x.s j = none := fun j hj => v6 q3 j (by omega)
    have hW := hx.w
    obtain ⟨o, ho⟩ : ∃ o : Oc, o.W = x.s.W := ⟨⟨x.s.W, hx.w⟩, rfl⟩
    have hoo : OutS T x.s o := by unfold OutS; rw [ho]; exact outS_done hs0
    have hou : ∀ o', OutS T x.s o' → o' = o := fun o' h9 => Oc.ext (by rw [ho]; exact outS_done' hs0 h9)
    have hcv : ∃ c0 : Int, lookR false (f1 o) (zv 0) = zv c0 ∧ (f1 o).getD (zv 0) = zv c0 := by
      by_cases h9 : o ∈ E1
      · obtain ⟨n, hn⟩ := (hEF3 o).1 h9
        exact ⟨n, by rw [hn]; rfl, by rw [hn]; rfl⟩
      · have hn := (hEF3 o).2 h9
        exact ⟨0, by rw [hn]; rfl, by rw [hn]; rfl⟩
    obtain ⟨c0, hc1, hc2⟩ := hcv
    have look3 := MapB.look mapE intZ ocT e3 hE3 o false
    rw [hc1] at look3
    have hob_ := MapB.ent mapE intZ ocT e3 hE3 o
    obtain ⟨st, oe4, hent, hE4, hput⟩ := hob_
    rw [hc2] at hent hE4
    have hov : ocv o = .agg (x.s.W.map uv).toArray := by unfold ocv Oc.cs; rw [ho]
    have hoW : loadH Tryz.prog 50 h3 ((⟨bs, 0, none⟩ : Addr).add 6) = some (ocv o) := by
      rw [hov]
      exact loadP aggOc sizOc (k3 _ _ kb) (c3_W hx.a hx.b hx.w) (by rw [List.length_map, hx.w])
    conv => whnf
    refine ⟨fun h' => lookH Tryz.prog 76 h' (.map (some e)) (ocv o) false = some (zv c0), look3, ?_⟩
    conv => whnf
    refine ⟨_, loadC0 aggMp2 (k3 _ _ GK.d) rfl, ?_⟩; conv => whnf
    refine ⟨_, hoW, ?_⟩; conv => whnf
    refine ⟨_, fun _ hh => hh, ?_⟩
    conv => whnf
    refine ov_wrap ?_
    conv => whnf
    refine io_intro (by exact hent) (fun h10 at_h10 ot_h10 => ?_)
    try (conv => whnf)
    have k10 : kx.le h10 := Hp.le_st GK.e0 k3 ot_h10
    refine ⟨?_, ?_⟩
    · have := MapB.look mapE intZ ocT at_h10 hE4 o false
      show lookH Tryz.prog 76 h10 (.map (some e)) (ocv o) false = some (zv c0)
      rw [this]
      unfold putF
      rw [if_pos rfl]
      rfl
    conv => whnf
    have hob_ := hput (.int .i64 (IntKind.i64.wrap (c0 + 1))) h10 at_h10
    obtain ⟨oe11, hst11, hE11⟩ := hob_
    refine wr_intro (by exact hst11) (fun h11 at_h11 ot_h11 => ?_)
    try (conv => whnf)
    have k11 : kx.le h11 := Hp.le_st GK.e0 k10 ot_h11
    have hEF11 := hEF3.put o (IntKind.i64.wrap (c0 + 1))
    have hn11 : putN f1 o nE1 ≤ nE1 + 1 := by unfold putN; split <;> omega
    refine hk M1 (o :: E1) _ nM1 _ om1 oe11 h11 (Hp.le_trans kk0 k11) ?_ hM3 at_h11 hE11 hEF11 (fun z hz => ?_) (fun o' ho' => List.mem_cons_of_mem _ (v2 o' ho')) (fun o' ho' => ?_) (fun o' ho' => ?_) ?_
    · rw [ot_h11 m hG.me, ot_h10 m hG.me]; exact m3
    · rcases v1 z hz with h9 | h9 | h9
      · exact .inl h9
      · subst h9
        refine .inr ⟨Nat.le_refl _, fun o' ho' => ?_⟩
        rw [hou o' ho']; simp
      · exact .inr ⟨by omega, h9.2.up fun o' ho' => List.mem_cons_of_mem _ ho'⟩
    · rcases List.mem_cons.1 ho' with h9 | h9
      · rw [h9]; exact .inr hoo
      · exact v3 o' h9
    · rw [hou o' ho']; simp
    · rw [q3, Nat.zero_mul] at v5
      have : 0 < 3 ^ left T x.s := Nat.pow_pos (by decide)
      omega
  · obtain ⟨j, d, hj1, hj2⟩ := v7 q3
    have hD : DoneS T E1 x.s := fun o ho => by
      obtain ⟨i2, d2, g1, g2, g3⟩ := outS_inv hj1 hj2 ho
      exact v4 i2 (by omega) d2 g2 o g3
    have hpos : 0 < left T x.s := by
      obtain ⟨L, g1, g2⟩ := nxt_at hj2
      exact left_pos hx (by omega) g1 g2
    have hp3 := pow3 hpos
    have hc3 : c * 3 ^ (left T x.s - 1) ≤ 3 * 3 ^ (left T x.s - 1) := Nat.mul_le_mul_right _ (by omega)
    conv => whnf
    refine hk M1 E1 f1 nM1 nE1 om1 oe1 h3 (Hp.le_trans kk0 k3) m3 hM3 e3 hE3 hEF3 (fun z hz => ?_) v2 v3 hD (by omega)
    rcases v1 z hz with h9 | h9 | h9
    · exact .inl h9
    · subst h9; exact .inr ⟨Nat.le_refl _, hD⟩
    · exact .inr ⟨by omega, h9.2⟩
end
end Go.Proofs.YtciagjfemgfhgaaGreatDoor
