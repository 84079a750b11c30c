/-
  Two rows of numbers compared; how many picks a machine needs at most.
-/
import Derived.Test.YtmegglmeiecnfaaGreatFair6
namespace Go.Proofs.YtmegglmeiecnfaaGreat
open Go Go.Mid Go.RowKit
attribute [local irreducible] X MLoop mid
theorem rdI {h : Hp} {s : Value} {l : List Int} (r : Rd Tryz.prog 3 1 h s (iv l)) : ∃ base cap, s = .slice base l.length cap ∧ ∀ i x, l[i]? = some x → ∃ a, base = some a ∧ loadH Tryz.prog 3 h (a.add (i * 1)) = some (.int .i64 x) := by
  obtain ⟨base, cap, e, f⟩ := r
  refine ⟨base, cap, by rw [e]; simp [iv], fun i x hx => f i _ ?_⟩
  rw [iv, List.getElem?_map, hx]; rfl
set_option maxHeartbeats 4000000 in
set_option maxRecDepth 10000 in
theorem ints_x (s1 s2 : Value) (l1 l2 : List Int) (h : Hp) (K : Value → Hp → Prop) (hl : l1.length ≤ 2 ^ 40) (hl2 : l2.length ≤ 2 ^ 40) (hr1 : Rd Tryz.prog 3 1 h s1 (iv l1)) (hr2 : Rd Tryz.prog 3 1 h s2 (iv l2))
    (hk : K (.bool (decide (l1 = l2))) h) : X Tryz.prog 18 #[s1, s2] h K := by
  obtain ⟨b1, c1, rfl, f1⟩ := rdI hr1
  obtain ⟨b2, c2, rfl, f2⟩ := rdI hr2
  refine fnv (args := [.slice b1 l1.length c1, .slice b2 l2.length c2]) mixed [] [] [] Tryz.func18 rfl (by kernel_rfl) ?_
  conv => whnf
  refine bsel_intro (fun h1 => ?_) (fun h1 => ?_)
  · conv => whnf
    rw [decide_eq_false (fun e => by subst e; simp at h1)] at hk
    exact hk
  have hll : l1.length = l2.length := by simp at h1; omega
  conv => whnf
  refine loop_at [5] [] (fun r vs _ h' => h = h' ∧ ∃ j : Nat, j ≤ l1.length ∧ r = l1.length - j ∧ vs = [.v (.int .i64 j)] ∧ l1.take j = l2.take j) l1.length ⟨rfl, 0, by omega, by omega, rfl, by simp⟩ ?_
  rintro r vs cs mm bx _ ⟨rfl, j, hj, rfl, rfl, he⟩
  conv => whnf
  refine bsel_intro (fun h2 => ?_) (fun h2 => ?_) <;> simp only [decide_eq_true_eq, decide_eq_false_iff_not] at h2
  · have g1 : j < l1.length := by omega
    have g2 : j < l2.length := by omega
    obtain ⟨a1, rfl, e1⟩ := f1 j _ (List.getElem?_eq_getElem g1)
    obtain ⟨a2, rfl, e2⟩ := f2 j _ (List.getElem?_eq_getElem g2)
    conv => whnf
    refine need_intro ⟨by omega, by omega⟩ ?_
    conv => whnf
    refine ⟨_, e1, ?_⟩
    conv => whnf
    refine need_intro ⟨by omega, by omega⟩ ?_
    conv => whnf
    refine ⟨_, e2, ?_⟩
    conv => whnf
    refine bsel_intro (fun h3 => ?_) (fun h3 => ?_)
    · conv => whnf
      rw [decide_eq_false (fun e => by subst e; simp at h3)] at hk
      exact hk
    · conv => whnf
      refine ⟨l1.length - (j + 1), by omega, rfl, j + 1, by omega, rfl, ?_, ?_⟩
      · show [MV.v (.int .i64 (IntKind.i64.wrap (j + 1)))] = _
        rw [IntWalk.i64_in _ (by omega)]; rfl
      · rw [List.take_succ_eq_append_getElem g1, List.take_succ_eq_append_getElem g2, he]
        have : l1[j] = l2[j] := by simpa using h3
        rw [this]
  · obtain rfl : j = l1.length := by omega
    conv => whnf
    rw [List.take_length, hll, List.take_length] at he
    rw [decide_eq_true he] at hk
    exact hk
set_option maxRecDepth 10000 in
theorem within_x (a b : Int) (h : Hp) (K : Value → Hp → Prop) (hk : K (.bool (decide (1 ≤ a ∧ a ≤ b))) h) : X Tryz.prog 19 #[.int .i64 a, .int .i64 b] h K := by
  refine fnv (args := [.int .i64 a, .int .i64 b]) mixed [] [] [] Tryz.func19 rfl (by kernel_rfl) ?_
  conv => whnf
  refine bsel_intro (fun h1 => ?_) (fun h1 => ?_) <;> simp only [decide_eq_true_eq, decide_eq_false_iff_not] at h1
  · conv => whnf
    have : (1 ≤ a ∧ a ≤ b) ↔ a ≤ b := by omega
    simp only [this] at hk
    exact hk
  · conv => whnf
    rw [decide_eq_false (by omega)] at hk
    exact hk
abbrev confV (a b c d : Int) : Value := .agg #[.int .i64 a, .int .i64 b, .int .i64 c, .int .i64 d]
def rightP (a b c d : Int) : Prop := (1 ≤ a ∧ a ≤ 8) ∧ (1 ≤ b ∧ b ≤ 64) ∧ (1 ≤ c ∧ c ≤ 4096) ∧ (1 ≤ d ∧ d ≤ 32)
instance (a b c d : Int) : Decidable (rightP a b c d) := by unfold rightP; infer_instance
set_option maxHeartbeats 4000000 in
set_option maxRecDepth 10000 in
theorem right_x (a b c d : Int) (h : Hp) (K : Value → Hp → Prop) (hk : K (.bool (decide (rightP a b c d))) h) : X Tryz.prog 8 #[confV a b c d] h K := by
  refine fnv (args := [confV a b c d]) mixed [(1, 1), (3, 1), (7, 1), (12, 1), (17, 1)] [19] [] Tryz.func8 rfl (by kernel_rfl) ?_
  conv => whnf
  refine within_x a 8 _ _ ?_
  conv => whnf
  refine bsel_intro (fun h1 => ?_) (fun h1 => ?_) <;> simp only [decide_eq_true_eq, decide_eq_false_iff_not] at h1
  case _ => 
    conv => whnf
    refine within_x b 64 _ _ ?_
    conv => whnf
    refine bsel_intro (fun h2 => ?_) (fun h2 => ?_) <;> simp only [decide_eq_true_eq, decide_eq_false_iff_not] at h2
    case _ =>
      conv => whnf
      refine within_x c 4096 _ _ ?_
      conv => whnf
      refine bsel_intro (fun h3 => ?_) (fun h3 => ?_) <;> simp only [decide_eq_true_eq, decide_eq_false_iff_not] at h3
      case _ =>
        conv => whnf
        refine within_x d 32 _ _ ?_
        conv => whnf
        rw [show decide (rightP a b c d) = decide (1 ≤ d ∧ d ≤ 32) by unfold rightP; simp [h1, h2, h3]] at hk
        exact hk
      case _ =>
        conv => whnf
        rw [decide_eq_false (fun e => h3 e.2.2.1)] at hk
        exact hk
    case _ =>
      conv => whnf
      rw [decide_eq_false (fun e => h2 e.2.1)] at hk
      exact hk
  case _ =>
    conv => whnf
    rw [decide_eq_false (fun e => h1 e.1)] at hk
    exact hk
/-- How long one waits with n others. -/
def waitL : Nat → Int
  | 0 => 0
  | n + 1 => ((n : Int) + 1) * (waitL n + 6)
theorem waitL_succ (n : Nat) : waitL (n + 1) = ((n : Int) + 1) * (waitL n + 6) := rfl
theorem waitL_le : ∀ n, n ≤ 7 → 0 ≤ waitL n ∧ waitL n ≤ 82194 := by
  intro n hn
  have : n = 0 ∨ n = 1 ∨ n = 2 ∨ n = 3 ∨ n = 4 ∨ n = 5 ∨ n = 6 ∨ n = 7 := by omega
  rcases this with rfl | rfl | rfl | rfl | rfl | rfl | rfl | rfl <;> exact ⟨by decide, by decide⟩
theorem waitL_step : ∀ n : Nat, n < 7 → 0 ≤ ((n : Int) + 1) * (waitL n + 6) ∧ ((n : Int) + 1) * (waitL n + 6) ≤ 82194 := by
  intro n hn
  have := waitL_le (n + 1) (by omega)
  rw [waitL_succ] at this
  exact this
set_option maxHeartbeats 4000000 in
set_option maxRecDepth 10000 in
theorem wait_x (n : Nat) (h : Hp) (K : Value → Hp → Prop) (hn : n ≤ 7) (hk : K (.int .i64 (waitL n)) h) : X Tryz.prog 9 #[.int .i64 n] h K := by
  refine fnv (args := [.int .i64 n]) mixed [] [] [] Tryz.func9 rfl (by kernel_rfl) ?_
  conv => whnf
  refine loop_at [4, 3] [] (fun r vs _ h' => h = h' ∧ ∃ j : Nat, j ≤ n ∧ r = n - j ∧ vs = [.v (.int .i64 ((j : Int) + 1)), .v (.int .i64 (waitL j))]) n ⟨rfl, 0, by omega, by omega, rfl⟩ ?_
  rintro r vs cs mm bx _ ⟨rfl, j, hj, rfl, rfl⟩
  conv => whnf
  refine bsel_intro (fun h2 => ?_) (fun h2 => ?_) <;> simp only [decide_eq_true_eq, decide_eq_false_iff_not] at h2
  · conv => whnf
    have h3 := waitL_le j (by omega)
    have h4 := waitL_step j (by omega)
    refine ⟨n - (j + 1), by omega, rfl, j + 1, by omega, rfl, ?_⟩
    show [MV.v (.int .i64 (IntKind.i64.wrap (((j : Int) + 1) + 1))), MV.v (.int .i64 (IntKind.i64.wrap (((j : Int) + 1) * IntKind.i64.wrap (waitL j + 6))))] = _
    rw [IntWalk.i64_in (waitL j + 6) (by omega), IntWalk.i64_in (((j : Int) + 1) * (waitL j + 6)) (by omega), IntWalk.i64_in ((j : Int) + 1 + 1) (by omega), waitL_succ]; rfl
  · obtain rfl : j = n := by omega
    conv => whnf
    exact hk
/-- The turns of the harts that there are; none where one of them may not be. -/
def turnsL : List Int → Option Int
  | [] => some 0
  | n :: r => if n < 0 ∨ 1000 < n then none else (turnsL r).map (n + ·)
def boundL (a b c d : Int) (bs : List Int) (k : Int) : Int × Int :=
  if rightP a b c d then match turnsL (bs.take a.toNat) with
    | none => (0, 3)
    | some t => if k < a ∨ 1000 < k then (0, 3) else (k * (1 + 6 * (2 * waitL (a.toNat - 1) + 7) * (t * (24 + 16 * a) + 1)), 0)
  else (0, 1)
theorem turnsL_le : ∀ (l : List Int) (t : Int), turnsL l = some t → 0 ≤ t ∧ t ≤ 1000 * l.length
  | [], t, h => by cases h; simp
  | n :: r, t, h => by
    unfold turnsL at h
    split at h
    · cases h
    · cases hr : turnsL r with
      | none => rw [hr] at h; cases h
      | some u =>
        rw [hr] at h
        have := turnsL_le r u hr
        simp only [Option.map_some, Option.some.injEq] at h
        simp only [List.length_cons]
        omega
theorem turnsL_snoc : ∀ (l : List Int) (n : Int), turnsL (l ++ [n]) = match turnsL l with
    | none => none
    | some t => if n < 0 ∨ 1000 < n then none else some (t + n)
  | [], n => by
    simp only [List.nil_append, turnsL]
    split <;> simp
  | m :: l, n => by
    simp only [List.cons_append, turnsL]
    split
    · rfl
    · rw [turnsL_snoc l n]
      cases turnsL l with
      | none => rfl
      | some t => simp only; split <;> simp [Int.add_assoc]
theorem turnsL_none : ∀ (l r : List Int), turnsL l = none → turnsL (l ++ r) = none
  | [], r, h => by cases h
  | m :: l, r, h => by
    simp only [List.cons_append, turnsL] at h ⊢
    split
    · rfl
    · rename_i hm
      rw [if_neg hm] at h
      cases hl : turnsL l with
      | none => rw [turnsL_none l r hl]; rfl
      | some t => rw [hl] at h; cases h
set_option maxHeartbeats 4000000 in
set_option maxRecDepth 10000 in
theorem bound_x (a b c d : Int) (bs : List Int) (k : Int) (h : Hp) (K : Value → Hp → Prop) (hbs : bs.length = 8)
    (hk : K (.tuple #[.int .i64 (boundL a b c d bs k).1, .int .i64 (boundL a b c d bs k).2]) h) : X Tryz.prog 4 #[confV a b c d, .agg (iv bs).toArray, .int .i64 k] h K := by
  refine X.forget ?_
  refine fnv (args := [confV a b c d, .agg (iv bs).toArray, .int .i64 k]) mixed [(3, 3), (16, 3), (35, 3), (42, 3), (49, 3)] [9] [] Tryz.func4 rfl (by kernel_rfl) ?_
  conv => whnf
  intro g hg
  conv => whnf
  refine right_x a b c d _ _ ?_
  conv => whnf
  unfold boundL at hk
  by_cases hr : rightP a b c d
  case neg =>
    rw [decide_eq_false hr]
    rw [if_neg hr] at hk
    conv => whnf
    exact ⟨h, Hp.le_set hg, hk⟩
  rw [decide_eq_true hr]
  rw [if_pos hr] at hk
  obtain ⟨⟨ha1, ha8⟩, _⟩ := hr
  have hlt : (bs.take a.toNat).length = a.toNat := by rw [List.length_take]; omega
  generalize hG : h.set g (rowO 24 (iv bs)) = G
  have hle : h.le G := by rw [← hG]; exact Hp.le_set hg
  have hGg : G g = some (rowO 24 (iv bs)) := by rw [← hG]; exact Hp.set_same _ _ _
  conv => whnf
  refine need_intro ⟨by omega, by omega⟩ ?_
  conv => whnf
  refine loop_at [20, 8] [3] (fun r vs cs h' => G = h' ∧ ∃ (j : Nat) (t : Int), j ≤ a.toNat ∧ r = a.toNat - j ∧ vs = [.v (.int .i64 j), .v (.int .i64 t)] ∧ cs = [some [.int .i64 a, .int .i64 b, .int .i64 c, .int .i64 d]] ∧ turnsL ((bs.take a.toNat).take j) = some t) a.toNat ⟨hG.symm, 0, 0, by omega, by omega, rfl, rfl, rfl⟩ ?_
  rintro r vs cs mm bx _ ⟨rfl, j, t, hj, rfl, rfl, rfl, htu⟩
  have htb := turnsL_le _ _ htu
  rw [List.length_take, hlt] at htb
  conv => whnf
  refine bsel_intro (fun h1 => ?_) (fun h1 => ?_) <;> simp only [decide_eq_true_eq, decide_eq_false_iff_not] at h1
  case _ =>
    have hj8 : j < bs.length := by omega
    have hjt : j < (bs.take a.toNat).length := by omega
    have hsn := turnsL_snoc ((bs.take a.toNat).take j) (bs.take a.toNat)[j]
    rw [← List.take_succ_eq_append_getElem hjt, htu, List.getElem_take] at hsn
    simp only at hsn
    conv => whnf
    refine need_intro ⟨by omega, by omega⟩ ?_
    conv => whnf
    refine ⟨.int .i64 bs[j], ?_, ?_⟩
    · show loadH Tryz.prog 3 G ((⟨g, 0, none⟩ : Addr).add (j * 1)) = _
      rw [addr_add, Nat.zero_add, Nat.mul_one]
      exact loadP agg3 hGg (by simp)
    conv => whnf
    have hbad : (bs[j] < 0 ∨ 1000 < bs[j]) → K (.tuple #[.int .i64 0, .int .i64 3]) h := by
      intro hb
      rw [if_pos hb] at hsn
      have : turnsL (bs.take a.toNat) = none := by
        rw [← List.take_append_drop (j + 1) (bs.take a.toNat)]
        exact turnsL_none _ _ hsn
      rw [this] at hk
      exact hk
    refine bsel_intro (fun h2 => ?_) (fun h2 => ?_) <;> simp only [decide_eq_true_eq, decide_eq_false_iff_not] at h2
    case _ =>
      conv => whnf
      exact ⟨h, hle, hbad (.inl h2)⟩
    conv => whnf
    refine bsel_intro (fun h3 => ?_) (fun h3 => ?_) <;> simp only [decide_eq_true_eq, decide_eq_false_iff_not] at h3
    case _ =>
      conv => whnf
      exact ⟨h, hle, hbad (.inr h3)⟩
    conv => whnf
    rw [if_neg (by omega)] at hsn
    refine ⟨a.toNat - (j + 1), by omega, rfl, j + 1, t + bs[j], by omega, rfl, ?_, rfl, hsn⟩
    show [MV.v (.int .i64 (IntKind.i64.wrap (j + 1))), MV.v (.int .i64 (IntKind.i64.wrap (t + bs[j])))] = _
    rw [IntWalk.i64_in ((j : Int) + 1) (by omega), IntWalk.i64_in (t + bs[j]) (by omega)]; rfl
  obtain rfl : j = a.toNat := by omega
  rw [show ((bs.take a.toNat).take a.toNat) = bs.take a.toNat by rw [List.take_take, Nat.min_self]] at htu
  rw [htu] at hk
  simp only at hk
  conv => whnf
  refine bsel_intro (fun h2 => ?_) (fun h2 => ?_) <;> simp only [decide_eq_true_eq, decide_eq_false_iff_not] at h2
  case _ =>
    conv => whnf
    rw [if_pos (.inl h2)] at hk
    exact ⟨h, hle, hk⟩
  conv => whnf
  refine bsel_intro (fun h3 => ?_) (fun h3 => ?_) <;> simp only [decide_eq_true_eq, decide_eq_false_iff_not] at h3
  case _ =>
    conv => whnf
    rw [if_pos (.inr h3)] at hk
    exact ⟨h, hle, hk⟩
  conv => whnf
  rw [if_neg (by omega)] at hk
  have hwa : IntKind.i64.wrap (a - 1) = ((a.toNat - 1 : Nat) : Int) := by rw [IntWalk.i64_in _ (by omega)]; omega
  rw [hwa]
  refine wait_x (a.toNat - 1) _ _ (by omega) ?_
  have hW := waitL_le (a.toNat - 1) (by omega)
  generalize waitL (a.toNat - 1) = W at *
  have ht : 0 ≤ t ∧ t ≤ 8000 := by omega
  have hB : 0 ≤ t * (24 + 16 * a) ∧ t * (24 + 16 * a) ≤ 8000 * 152 := ⟨Int.mul_nonneg ht.1 (by omega), Int.mul_le_mul ht.2 (by omega) (by omega) (by omega)⟩
  have hC : 0 ≤ 6 * (2 * W + 7) * (t * (24 + 16 * a) + 1) ∧ 6 * (2 * W + 7) * (t * (24 + 16 * a) + 1) ≤ 986370 * 1216001 := ⟨Int.mul_nonneg (by omega) (by omega), Int.mul_le_mul (by omega) (by omega) (by omega) (by omega)⟩
  have hD : 0 ≤ k * (1 + 6 * (2 * W + 7) * (t * (24 + 16 * a) + 1)) ∧ k * (1 + 6 * (2 * W + 7) * (t * (24 + 16 * a) + 1)) ≤ 1000 * 1199430000000 := ⟨Int.mul_nonneg (by omega) (by omega), Int.mul_le_mul (by omega) (by omega) (by omega) (by omega)⟩
  conv => whnf
  refine ⟨h, hle, ?_⟩
  show K (.tuple #[.int .i64 (IntKind.i64.wrap (k * IntKind.i64.wrap (1 + IntKind.i64.wrap (IntKind.i64.wrap (6 * IntKind.i64.wrap (IntKind.i64.wrap (2 * W) + 7)) * IntKind.i64.wrap (IntKind.i64.wrap (t * IntKind.i64.wrap (24 + IntKind.i64.wrap (16 * a))) + 1))))), .int .i64 0]) h
  rw [IntWalk.i64_in (2 * W) (by omega), IntWalk.i64_in (2 * W + 7) (by omega), IntWalk.i64_in (6 * (2 * W + 7)) (by omega), IntWalk.i64_in (16 * a) (by omega), IntWalk.i64_in (24 + 16 * a) (by omega), IntWalk.i64_in (t * (24 + 16 * a)) (by omega),
    IntWalk.i64_in (t * (24 + 16 * a) + 1) (by omega), IntWalk.i64_in (6 * (2 * W + 7) * (t * (24 + 16 * a) + 1)) (by omega), IntWalk.i64_in (1 + 6 * (2 * W + 7) * (t * (24 + 16 * a) + 1)) (by omega), IntWalk.i64_in _ (by omega)]
  exact hk
end Go.Proofs.YtmegglmeiecnfaaGreat
