/-
  Scripts' texts: what a text's script is, plainly.
-/
import Derived.Test.YtjipfibbkmmfbaaGreatDoorStxB
import Derived.Test.YtjipfibbkmmfbaaGreatDoorLibQ
/-! Scripts' texts: what a text's script is, plainly. -/
namespace Go.Proofs.YtjipfibbkmmfbaaGreatDoor
set_option linter.unusedSimpArgs false
set_option linter.unusedVariables false
open Go Go.Mid Go.RowKit
set_option maxRecDepth 10000
/-- A number's word. -/
def numK (w : Str) : Option Int := match Lib.parseIntB 64 w with
  | .ok v => if 0 ≤ v ∧ Lib.itoa v = w then some v else none
  | _ => none
theorem numK_some {w : Str} {v : Int} (h : numK w = some v) : 0 ≤ v ∧ Lib.itoa v = w := by
  unfold numK at h
  split at h
  · split at h
    · rename_i hh; cases h; exact hh
    · cases h
  · cases h
theorem numK_itoa {v : Int} (h0 : 0 ≤ v) (h1 : v ≤ 9223372036854775807) : numK (Lib.itoa v) = some v := by
  unfold numK
  rw [parse_itoa (by omega) h1]
  exact if_pos ⟨h0, rfl⟩
def cfK : List Str → Option Cf
  | [m, a, b, c, d] => if m = sMachine then (numK a).bind fun a => (numK b).bind fun b => (numK c).bind fun c => (numK d).bind fun d => if rightB ⟨a, b, c, d⟩ = true then some ⟨a, b, c, d⟩ else none else none
  | _ => none
def Bu.of (l : List Int) : Bu := ⟨l.getD 0 0, l.getD 1 0, l.getD 2 0, l.getD 3 0, l.getD 4 0, l.getD 5 0, l.getD 6 0, l.getD 7 0⟩
/-- Numbers, all or none. -/
def numsK : List Str → Option (List Int)
  | [] => some []
  | w :: r => (numK w).bind fun n => (numsK r).bind fun l => some (n :: l)
def buK (c : Cf) : List Str → Option Bu
  | m :: r => if m = sBudget ∧ (r.length : Int) = c.a then (numsK r).bind fun l => if budE c.a (Bu.of l) = 0 then some (Bu.of l) else none else none
  | [] => none
def unhex : Str → Str
  | a :: b :: r => UInt8.ofNat (16 * hexD.idxOf a + hexD.idxOf b) :: unhex r
  | _ => []
def rawK (w : Str) : Option Str := if w = [] ∨ w.length % 2 ≠ 0 ∨ ¬ (∀ c ∈ w, c ∈ hexD) then none else some (unhex w)
/-- What is read so far. -/
structure St where
  P : List (Nat × Str)
  L : List Ln
  last : Bool
def layK (c : Cf) (s : St) (l : Ln) (n : Int) : Option St := if lineE c.a l = 0 ∧ n ≤ 60000 - (s.L.length : Int) then some ⟨s.P, s.L ++ List.replicate n.toNat l, true⟩ else none
def stepK (c : Cf) (s : St) : List Str → Option St
  | [k, a] => if k = sTick then (numK a).bind fun n => layK c s ⟨1, n, false⟩ 1 else if k = sInput then (numK a).bind fun n => layK c s ⟨2, n, false⟩ 1 else none
  | [k, a, b] =>
    if k = sAt then if s.last = true then none else (numK a).bind fun n => (rawK b).bind fun x => if partE c.c n x.length = 0 ∧ s.P.length < 256 then some ⟨s.P ++ [(n.toNat, x)], s.L, s.last⟩ else none
    else if k = sPick then (numK a).bind fun i => (numK b).bind fun n => if n < 1 ∨ s.L.getLast? = some ⟨0, i, false⟩ then none else layK c s ⟨0, i, false⟩ n
    else if k = sWire then (numK a).bind fun n => if b = sOn then layK c s ⟨3, n, true⟩ 1 else if b = sOff then layK c s ⟨3, n, false⟩ 1 else none
    else none
  | _ => none
/-- The lines behind the first two; f: no less than the text's length. -/
def restK (c : Cf) : Nat → St → Str → Option St
  | 0, s, t => if t = [] then some s else none
  | f + 1, s, t => if t = [] then some s else if (10 : UInt8) ∈ t then (stepK c s (sp [32] (lineA t))).bind fun s' => restK c f s' (t.drop ((lineA t).length + 1)) else none
def parseK (t : Str) : Option (Cf × Bu × St) :=
  if (10 : UInt8) ∈ t then (cfK (sp [32] (lineA t))).bind fun c =>
    if (10 : UInt8) ∈ t.drop ((lineA t).length + 1) then (buK c (sp [32] (lineA (t.drop ((lineA t).length + 1))))).bind fun u =>
      (restK c ((t.drop ((lineA t).length + 1)).drop ((lineA (t.drop ((lineA t).length + 1))).length + 1)).length ⟨[], [], false⟩ ((t.drop ((lineA t).length + 1)).drop ((lineA (t.drop ((lineA t).length + 1))).length + 1))).map fun s => (c, u, s)
    else none
  else none
def partsK (P : List (Nat × Str)) : Str := P.flatMap fun p => J [sAt, Lib.decDigits p.1, hexS p.2] ++ [10]
def textR (s : St) : Str := partsK s.P ++ runsT s.L 0
/-- A run more. -/
theorem runs_app {l : Ln} {n : Nat} (L : List Ln) (hn : 1 ≤ n) (h1 : l.w ≠ 0 → n = 1) (h2 : l.w = 0 → L.getLast? ≠ some l) : ∀ (k i : Nat), L.length - i ≤ k → i ≤ L.length → runsT (L ++ List.replicate n l) i = runsT L i ++ lineT l n := by
  intro k
  induction k with
  | zero =>
    intro i hk hi
    obtain rfl : i = L.length := by omega
    rw [runsT_end (Nat.le_refl _)]
    have hr : IsRun (L ++ List.replicate n l) L.length n := by
      have hget : ∀ j, j < n → (L ++ List.replicate n l)[L.length + j]? = some l := fun j hj => by
        rw [List.getElem?_append_right (by omega), show L.length + j - L.length = j by omega, List.getElem?_replicate, if_pos hj]
      refine ⟨l, by have := hget 0 (by omega); simpa using this, hn, by rw [List.length_append, List.length_replicate]; exact Nat.le_refl _, h1, hget, fun _ hh => ?_⟩
      rw [List.getElem?_eq_none (by rw [List.length_append, List.length_replicate]; exact Nat.le_refl _)] at hh
      cases hh
    obtain ⟨x, hx, _⟩ := id hr
    have hxl : x = l := by
      rw [List.getElem?_append_right (Nat.le_refl _), Nat.sub_self, List.getElem?_replicate, if_pos (by omega)] at hx
      exact (Option.some.inj hx).symm
    subst hxl
    rw [runsT_at hx hr, runsT_end (by rw [List.length_append, List.length_replicate]; exact Nat.le_refl _), List.append_nil]
    rfl
  | succ k ih =>
    intro i hk hi
    by_cases he : i = L.length
    · exact ih i (by omega) hi
    have hlt : i < L.length := by omega
    obtain ⟨x, hx⟩ : ∃ x, L[i]? = some x := ⟨_, List.getElem?_eq_getElem hlt⟩
    have hr := runN_is hx
    obtain ⟨y, hy, r1, r2, r3, r4, r5⟩ := id hr
    obtain rfl : x = y := by rw [hx] at hy; exact Option.some.inj hy
    have hx' : (L ++ List.replicate n l)[i]? = some x := by rw [List.getElem?_append_left hlt]; exact hx
    have hr' : IsRun (L ++ List.replicate n l) i (runN L i) := by
      refine ⟨x, hx', r1, by rw [List.length_append]; omega, r3, fun j hj => by rw [List.getElem?_append_left (by omega)]; exact r4 j hj, fun hw hh => ?_⟩
      by_cases hq : i + runN L i < L.length
      · rw [List.getElem?_append_left hq] at hh
        exact r5 hw hh
      · have e : i + runN L i = L.length := by omega
        rw [e, List.getElem?_append_right (Nat.le_refl _), Nat.sub_self, List.getElem?_replicate, if_pos (by omega)] at hh
        have hxl : l = x := Option.some.inj hh
        refine h2 (hxl ▸ hw) ?_
        rw [hxl, List.getLast?_eq_getElem?]
        have := r4 (runN L i - 1) (by omega)
        rw [show i + (runN L i - 1) = L.length - 1 by omega] at this
        exact this
    rw [runsT_at hx' hr', runsT_at hx hr, ih _ (by omega) (by omega), List.append_assoc]
theorem itoa_nat {n : Int} (h : 0 ≤ n) : Lib.itoa n = Lib.decDigits n.toNat := by
  obtain ⟨k, rfl⟩ := Int.eq_ofNat_of_zero_le h
  rfl
theorem hexD_ix : ∀ c ∈ hexD, hexD.idxOf c < 16 ∧ hexN (hexD.idxOf c) = c := by decide
theorem hexN_ix : ∀ n : Nat, n < 16 → hexD.idxOf (hexN n) = n ∧ hexN n ∈ hexD := by decide
theorem hex_unhex : ∀ (m : Nat) (w : Str), w.length ≤ m → w.length % 2 = 0 → (∀ c ∈ w, c ∈ hexD) → hexS (unhex w) = w
  | _, [], _, _, _ => rfl
  | _, [a], _, h, _ => by simp at h
  | 0, a :: b :: r, hm, _, _ => by simp at hm
  | m + 1, a :: b :: r, hm, h, hd => by
    have ha := hexD_ix a (hd a (by simp))
    have hb := hexD_ix b (hd b (by simp))
    have ih := hex_unhex m r (by simp at hm; omega) (by simp at h; omega) fun c hc => hd c (by simp [hc])
    show hexS (UInt8.ofNat (16 * hexD.idxOf a + hexD.idxOf b) :: unhex r) = _
    have e : (UInt8.ofNat (16 * hexD.idxOf a + hexD.idxOf b)).toNat = 16 * hexD.idxOf a + hexD.idxOf b := by
      rw [UInt8.toNat_ofNat']; exact Nat.mod_eq_of_lt (by omega)
    show [hexN ((UInt8.ofNat (16 * hexD.idxOf a + hexD.idxOf b)).toNat / 16), hexN ((UInt8.ofNat (16 * hexD.idxOf a + hexD.idxOf b)).toNat % 16)] ++ hexS (unhex r) = _
    rw [e, ih, show (16 * hexD.idxOf a + hexD.idxOf b) / 16 = hexD.idxOf a by omega, show (16 * hexD.idxOf a + hexD.idxOf b) % 16 = hexD.idxOf b by omega, ha.2, hb.2]
    rfl
theorem unhex_hex : ∀ b : Str, unhex (hexS b) = b
  | [] => rfl
  | x :: r => by
    have hx : x.toNat < 256 := UInt8.toNat_lt x
    have h1 := hexN_ix (x.toNat / 16) (by omega)
    have h2 := hexN_ix (x.toNat % 16) (by omega)
    show UInt8.ofNat (16 * hexD.idxOf (hexN (x.toNat / 16)) + hexD.idxOf (hexN (x.toNat % 16))) :: unhex (hexS r) = x :: r
    rw [unhex_hex r, h1.1, h2.1, show 16 * (x.toNat / 16) + x.toNat % 16 = x.toNat by omega, UInt8.ofNat_toNat]
theorem hexS_mem : ∀ b : Str, ∀ c ∈ hexS b, c ∈ hexD
  | [], c, h => by cases h
  | x :: r, c, h => by
    have hx : x.toNat < 256 := UInt8.toNat_lt x
    have h : c ∈ [hexN (x.toNat / 16), hexN (x.toNat % 16)] ++ hexS r := h
    rcases List.mem_append.1 h with h | h
    · rcases List.mem_cons.1 h with rfl | h
      · exact (hexN_ix _ (by omega)).2
      · rw [List.mem_singleton.1 h]; exact (hexN_ix _ (by omega)).2
    · exact hexS_mem r c h
theorem rawK_some {w b : Str} (h : rawK w = some b) : hexS b = w := by
  unfold rawK at h
  split at h
  · cases h
  · rename_i hh
    obtain rfl : unhex w = b := Option.some.inj h
    refine hex_unhex _ w (Nat.le_refl _) ?_ ?_
    · by_cases h2 : w.length % 2 = 0
      · exact h2
      · exact absurd (.inr (.inl h2)) hh
    · by_cases h3 : ∀ c ∈ w, c ∈ hexD
      · exact h3
      · exact absurd (.inr (.inr h3)) hh
theorem rawK_hex {b : Str} (h : b ≠ []) : rawK (hexS b) = some b := by
  unfold rawK
  rw [unhex_hex, if_neg]
  rintro (e | e | e)
  · have := congrArg List.length e
    rw [hexS_len] at this
    have h0 := List.length_pos_iff.2 h
    simp at this
    omega
  · rw [hexS_len] at e; omega
  · exact e (hexS_mem b)
/-- What is right of what is read so far. -/
structure St.inv (c : Cf) (s : St) : Prop where
  last : s.last = false → s.L = []
  lenP : s.P.length ≤ 256
  okP : ∀ p ∈ s.P, partE c.c p.1 p.2.length = 0
  lenL : s.L.length ≤ 60000
  okL : ∀ l ∈ s.L, lineE c.a l = 0
theorem lay_step {c : Cf} {s s' : St} {l : Ln} {n : Int} (i : s.inv c) (h : layK c s l n = some s') (hn : 1 ≤ n) (h1 : l.w ≠ 0 → n = 1) (h2 : l.w = 0 → s.L.getLast? ≠ some l) : textR s' = textR s ++ lineT l n.toNat ∧ s'.inv c := by
  unfold layK at h
  split at h
  · rename_i hh
    obtain rfl := Option.some.inj h
    refine ⟨?_, fun e => by simp at e, i.lenP, i.okP, by show (s.L ++ List.replicate n.toNat l).length ≤ 60000; rw [List.length_append, List.length_replicate]; omega, fun x hx => ?_⟩
    · unfold textR
      show partsK s.P ++ runsT (s.L ++ List.replicate n.toNat l) 0 = _
      rw [runs_app s.L (by omega) (fun hw => by rw [h1 hw]; rfl) h2 _ 0 (Nat.le_refl _) (by omega), List.append_assoc]
    · rcases List.mem_append.1 hx with hx | hx
      · exact i.okL x hx
      · rw [(List.mem_replicate.1 hx).2]; exact hh.1
  · cases h
theorem step_law {c : Cf} {s s' : St} {ws : List Str} (i : s.inv c) (h : stepK c s ws = some s') : textR s' = textR s ++ (J ws ++ [10]) ∧ s'.inv c := by
  unfold stepK at h
  split at h
  · rename_i k a
    split at h
    · rename_i hk
      cases hn : numK a with
      | none => rw [hn] at h; cases h
      | some n =>
        rw [hn] at h
        have := lay_step i h (by omega) (fun _ => rfl) (fun hw => by simp at hw)
        rw [hk, ← (numK_some hn).2]
        exact this
    · split at h
      · rename_i hk
        cases hn : numK a with
        | none => rw [hn] at h; cases h
        | some n =>
          rw [hn] at h
          have := lay_step i h (by omega) (fun _ => rfl) (fun hw => by simp at hw)
          rw [hk, ← (numK_some hn).2]
          exact this
      · cases h
  · rename_i k a b
    split at h
    · rename_i hk
      split at h
      · cases h
      rename_i hl
      cases hn : numK a with
      | none => rw [hn] at h; cases h
      | some n =>
        cases hb : rawK b with
        | none => rw [hn, hb] at h; cases h
        | some x =>
          rw [hn, hb] at h
          have h : (if partE c.c n x.length = 0 ∧ s.P.length < 256 then some (⟨s.P ++ [(n.toNat, x)], s.L, s.last⟩ : St) else none) = some s' := h
          split at h
          · rename_i hh
            obtain rfl := Option.some.inj h
            have h0 := (numK_some hn).1
            have hL := i.last (by simpa using hl)
            refine ⟨?_, i.last, by show (s.P ++ [(n.toNat, x)]).length ≤ 256; rw [List.length_append, List.length_singleton]; omega, fun p hp => ?_, i.lenL, i.okL⟩
            · unfold textR partsK
              show (s.P ++ [(n.toNat, x)]).flatMap _ ++ runsT s.L 0 = _
              rw [hL, show runsT [] 0 = [] from runsT_end (Nat.le_refl _), List.append_nil, List.append_nil, List.flatMap_append, List.flatMap_singleton, hk, ← rawK_some hb, ← (numK_some hn).2, itoa_nat h0]
            · rcases List.mem_append.1 hp with hp | hp
              · exact i.okP p hp
              · rw [List.mem_singleton.1 hp]
                show partE c.c (n.toNat : Int) x.length = 0
                rw [Int.toNat_of_nonneg h0]; exact hh.1
          · cases h
    · split at h
      · rename_i hk
        cases ha : numK a with
        | none => rw [ha] at h; cases h
        | some j =>
          cases hb : numK b with
          | none => rw [ha, hb] at h; cases h
          | some n =>
            rw [ha, hb] at h
            have h : (if n < 1 ∨ s.L.getLast? = some ⟨0, j, false⟩ then none else layK c s ⟨0, j, false⟩ n) = some s' := h
            split at h
            · cases h
            · rename_i hh
              have := lay_step i h (by omega) (fun hw => absurd rfl hw) (fun _ e => hh (.inr e))
              rw [hk, ← (numK_some ha).2, ← (numK_some hb).2]
              rw [show lineT ⟨0, j, false⟩ n.toNat = J [sPick, Lib.itoa j, Lib.itoa n] ++ [10] from by
                show J [sPick, Lib.itoa j, Lib.itoa (n.toNat : Int)] ++ [10] = _
                rw [Int.toNat_of_nonneg (by omega)]] at this
              exact this
      · split at h
        · rename_i hk
          cases hn : numK a with
          | none => rw [hn] at h; cases h
          | some n =>
            rw [hn] at h
            have h : (if b = sOn then layK c s ⟨3, n, true⟩ 1 else if b = sOff then layK c s ⟨3, n, false⟩ 1 else none) = some s' := h
            rw [hk, ← (numK_some hn).2]
            split at h
            · rename_i hb
              rw [hb]
              exact lay_step i h (by omega) (fun _ => rfl) (fun hw => by simp at hw)
            · split at h
              · rename_i hb
                rw [hb]
                exact lay_step i h (by omega) (fun _ => rfl) (fun hw => by simp at hw)
              · cases h
        · cases h
  · cases h
theorem first_of {c : UInt8} : ∀ {s : Str}, c ∈ s → ∃ w r, s = w ++ c :: r ∧ c ∉ w
  | [], h => by cases h
  | x :: s, h => by
    by_cases hx : x = c
    · exact ⟨[], s, by rw [hx]; rfl, by simp⟩
    · have hs : c ∈ s := by
        rcases List.mem_cons.1 h with e | e
        · exact absurd e.symm hx
        · exact e
      obtain ⟨w, r, e, hw⟩ := first_of hs
      exact ⟨x :: w, r, by rw [e]; rfl, fun hh => (List.mem_cons.1 hh).elim (fun e => hx e.symm) hw⟩
theorem J_cons (w : Str) {xs : List Str} (h : xs ≠ []) : J (w :: xs) = w ++ 32 :: J xs := by
  cases xs with
  | nil => exact absurd rfl h
  | cons y ys =>
    show Lib.join _ _ = w ++ 32 :: Lib.join _ _
    rw [join_tl, join_tl, tl_cons]
theorem J_one (w : Str) : J [w] = w := by
  show Lib.join _ _ = w
  rw [join_tl, tl_nil, List.append_nil]
theorem J_sp : ∀ (n : Nat) (s : Str), s.length ≤ n → J (sp [32] s) = s := by
  intro n
  induction n with
  | zero =>
    intro s hn
    obtain rfl : s = [] := List.length_eq_zero_iff.1 (by omega)
    rw [sp_end (by simp)]
    exact J_one _
  | succ n ih =>
    intro s hn
    by_cases hm : (32 : UInt8) ∈ s
    · obtain ⟨w, r, rfl, hw⟩ := first_of hm
      rw [sp_one hw, J_cons _ (sp_ne _ _), ih r (by simp at hn; omega)]
    · rw [sp_end hm]
      exact J_one _
theorem rest_law {c : Cf} : ∀ (f : Nat) {s s' : St} (t : Str), s.inv c → restK c f s t = some s' → textR s' = textR s ++ t ∧ s'.inv c
  | 0, s, s', t, i, h => by
    unfold restK at h
    split at h
    · rename_i ht
      obtain rfl := Option.some.inj h
      rw [ht, List.append_nil]; exact ⟨rfl, i⟩
    · cases h
  | f + 1, s, s', t, i, h => by
    unfold restK at h
    split at h
    · rename_i ht
      obtain rfl := Option.some.inj h
      rw [ht, List.append_nil]; exact ⟨rfl, i⟩
    · split at h
      · rename_i h10
        cases h1 : stepK c s (sp [32] (lineA t)) with
        | none => rw [h1] at h; cases h
        | some s1 =>
          rw [h1] at h
          obtain ⟨a1, i1⟩ := step_law i h1
          obtain ⟨a2, i2⟩ := rest_law f _ i1 h
          refine ⟨?_, i2⟩
          rw [a2, a1, J_sp _ _ (Nat.le_refl _), List.append_assoc, List.append_assoc]
          congr 1
          exact (lineA_split h10).symm
      · cases h
theorem cf_law {ws : List Str} {c : Cf} (h : cfK ws = some c) : head1 c = J ws ++ [10] ∧ rightB c = true := by
  unfold cfK at h
  split at h
  · rename_i m a b x d
    split at h
    · rename_i hm
      cases ha : numK a with
      | none => rw [ha] at h; cases h
      | some va =>
      cases hb : numK b with
      | none => rw [ha, hb] at h; cases h
      | some vb =>
      cases hx : numK x with
      | none => rw [ha, hb, hx] at h; cases h
      | some vx =>
      cases hd : numK d with
      | none => rw [ha, hb, hx, hd] at h; cases h
      | some vd =>
      rw [ha, hb, hx, hd] at h
      have h : (if rightB ⟨va, vb, vx, vd⟩ = true then some (⟨va, vb, vx, vd⟩ : Cf) else none) = some c := h
      split at h
      · rename_i hr
        obtain rfl := Option.some.inj h
        refine ⟨?_, hr⟩
        rw [hm, ← (numK_some ha).2, ← (numK_some hb).2, ← (numK_some hx).2, ← (numK_some hd).2]
        rfl
      · cases h
    · cases h
  · cases h
theorem nums_law : ∀ {ws : List Str} {l : List Int}, numsK ws = some l → l.map Lib.itoa = ws ∧ l.length = ws.length
  | [], l, h => by obtain rfl := Option.some.inj h; exact ⟨rfl, rfl⟩
  | w :: r, l, h => by
    unfold numsK at h
    cases hw : numK w with
    | none => rw [hw] at h; cases h
    | some n =>
      cases hr : numsK r with
      | none => rw [hw, hr] at h; cases h
      | some l' =>
        rw [hw, hr] at h
        obtain rfl := Option.some.inj h
        obtain ⟨a, b⟩ := nums_law hr
        exact ⟨by rw [List.map_cons, a, (numK_some hw).2], by rw [List.length_cons, List.length_cons, b]⟩
theorem bu_of_l {l : List Int} (h : l.length ≤ 8) : (Bu.of l).l.take l.length = l := by
  match l, h with
  | [], _ => rfl
  | [_], _ => rfl
  | [_, _], _ => rfl
  | [_, _, _], _ => rfl
  | [_, _, _, _], _ => rfl
  | [_, _, _, _, _], _ => rfl
  | [_, _, _, _, _, _], _ => rfl
  | [_, _, _, _, _, _, _], _ => rfl
  | [_, _, _, _, _, _, _, _], _ => rfl
theorem bu_law {c : Cf} {ws : List Str} {u : Bu} (hc : rightB c = true) (h : buK c ws = some u) : head2 c u = J ws ++ [10] ∧ budE c.a u = 0 := by
  unfold buK at h
  split at h
  · rename_i m r
    split at h
    · rename_i hm
      cases hr : numsK r with
      | none => rw [hr] at h; cases h
      | some l =>
        rw [hr] at h
        have h : (if budE c.a (Bu.of l) = 0 then some (Bu.of l) else none) = some u := h
        split at h
        · rename_i hb
          obtain rfl := Option.some.inj h
          refine ⟨?_, hb⟩
          obtain ⟨e1, e2⟩ := nums_law hr
          have h8 := (of_decide_eq_true hc).2.1
          unfold head2 budW
          rw [show c.a.toNat = l.length by omega, bu_of_l (by omega), e1, hm.1]
        · cases h
    · cases h
  · cases h
def textK (c : Cf) (u : Bu) (s : St) : Str := head1 c ++ head2 c u ++ textR s
/-- A text that is read is written as it was. -/
theorem parse_law {t : Str} {c : Cf} {u : Bu} {s : St} (h : parseK t = some (c, u, s)) : textK c u s = t ∧ rightB c = true ∧ budE c.a u = 0 ∧ s.inv c := by
  unfold parseK at h
  split at h
  · rename_i h1
    cases hc : cfK (sp [32] (lineA t)) with
    | none => rw [hc] at h; cases h
    | some c' =>
      rw [hc] at h
      revert h
      show (if _ then _ else _) = _ → _
      intro h
      split at h
      · rename_i h2
        cases hu : buK c' (sp [32] (lineA (t.drop ((lineA t).length + 1)))) with
        | none => rw [hu] at h; cases h
        | some u' =>
          rw [hu] at h
          obtain ⟨s', hs, e⟩ := Option.map_eq_some_iff.1 h
          obtain ⟨rfl, rfl, rfl⟩ := e
          obtain ⟨a1, r1⟩ := cf_law hc
          obtain ⟨a2, r2⟩ := bu_law r1 hu
          obtain ⟨a3, i3⟩ := rest_law _ _ (s := ⟨[], [], false⟩) ⟨fun _ => rfl, (by decide), fun p hp => (by cases hp), (by decide), fun p hp => (by cases hp)⟩ hs
          refine ⟨?_, r1, r2, i3⟩
          have z : textR ⟨[], [], false⟩ = [] := by unfold textR; rw [show runsT [] 0 = [] from runsT_end (Nat.le_refl _)]; rfl
          unfold textK
          rw [a1, a2, a3, z, J_sp _ _ (Nat.le_refl _), J_sp _ _ (Nat.le_refl _), List.nil_append]
          conv => rhs; rw [lineA_split h1, lineA_split h2]
          simp
      · cases h
  · cases h
end Go.Proofs.YtjipfibbkmmfbaaGreatDoor
/-! Scripts' texts: what is written is read as it was, plainly. -/
namespace Go.Proofs.YtjipfibbkmmfbaaGreatDoor
set_option linter.unusedSimpArgs false
set_option linter.unusedVariables false
open Go Go.Mid Go.RowKit
set_option maxRecDepth 10000
/-- Words that are read as they were written. -/
def Fair (ws : List Str) : Prop := ∀ w ∈ ws, (32 : UInt8) ∉ w ∧ (10 : UInt8) ∉ w
theorem J_sp2 : ∀ {ws : List Str}, ws ≠ [] → Fair ws → sp [32] (J ws) = ws
  | [], h, _ => absurd rfl h
  | [w], _, h => by rw [J_one]; exact sp_end (h w (by simp)).1
  | w :: x :: r, _, h => by
    rw [J_cons w (by simp : x :: r ≠ []), sp_one (h w (by simp)).1, J_sp2 (by simp) fun y hy => h y (by simp [hy])]
theorem J_no10 : ∀ {ws : List Str}, Fair ws → (10 : UInt8) ∉ J ws
  | [], _ => by decide
  | [w], h => by rw [J_one]; exact (h w (by simp)).2
  | w :: x :: r, h => by
    rw [J_cons w (by simp : x :: r ≠ [])]
    intro hh
    rcases List.mem_append.1 hh with hh | hh
    · exact (h w (by simp)).2 hh
    · rcases List.mem_cons.1 hh with hh | hh
      · cases hh
      · exact J_no10 (fun y hy => h y (by simp [hy])) hh
theorem lineA_app {w r : Str} (h : (10 : UInt8) ∉ w) : lineA (w ++ 10 :: r) = w := by
  induction w with
  | nil => unfold lineA; rw [List.nil_append, List.takeWhile_cons, if_neg (by simp)]
  | cons c w ih =>
    have h1 : c ≠ 10 := fun e => h (by rw [e]; simp)
    unfold lineA
    rw [List.cons_append, List.takeWhile_cons, if_pos (by simpa using h1)]
    congr 1
    exact ih fun hm => h (by simp [hm])
/-- A line ahead of a text. -/
theorem next_J {ws : List Str} (h0 : ws ≠ []) (h : Fair ws) (r : Str) : (10 : UInt8) ∈ (J ws ++ [10]) ++ r ∧ sp [32] (lineA ((J ws ++ [10]) ++ r)) = ws ∧ ((J ws ++ [10]) ++ r).drop ((lineA ((J ws ++ [10]) ++ r)).length + 1) = r := by
  have e : (J ws ++ [10]) ++ r = J ws ++ 10 :: r := by simp
  rw [e, lineA_app (J_no10 h), J_sp2 h0 h]
  refine ⟨by simp, rfl, ?_⟩
  rw [show J ws ++ 10 :: r = (J ws ++ [10]) ++ r by simp, show (J ws).length + 1 = (J ws ++ [10]).length by simp, List.drop_left]
theorem rest_step {c : Cf} {f : Nat} {s : St} {ws : List Str} {r : Str} (h0 : ws ≠ []) (h : Fair ws) (hf : ((J ws ++ [10]) ++ r).length ≤ f) : ∃ f', r.length ≤ f' ∧ restK c f s ((J ws ++ [10]) ++ r) = (stepK c s ws).bind fun s' => restK c f' s' r := by
  obtain ⟨a, b, d⟩ := next_J h0 h r
  have hl : ((J ws ++ [10]) ++ r).length = (J ws).length + 1 + r.length := by simp; omega
  obtain ⟨f', rfl⟩ : ∃ f', f = f' + 1 := ⟨f - 1, by omega⟩
  refine ⟨f', by omega, ?_⟩
  conv => lhs; unfold restK
  rw [if_neg (by intro e; rw [e] at hl; simp at hl; omega), if_pos a, b, d]
theorem fair_cons {w : Str} {ws : List Str} (h : (32 : UInt8) ∉ w ∧ (10 : UInt8) ∉ w) (hw : Fair ws) : Fair (w :: ws) := fun x hx => by
  rcases List.mem_cons.1 hx with rfl | hx
  · exact h
  · exact hw x hx
theorem fair_nil : Fair [] := fun x hx => by cases hx
theorem digs_fair {l : Str} (h : digs l) : (32 : UInt8) ∉ l ∧ (10 : UInt8) ∉ l :=
  ⟨fun m => absurd (h _ m).1 (by decide), fun m => absurd (h _ m).1 (by decide)⟩
theorem dec_fair (n : Nat) : (32 : UInt8) ∉ Lib.decDigits n ∧ (10 : UInt8) ∉ Lib.decDigits n := digs_fair (dec_dv n).2
theorem itoa_fair {n : Int} (h : 0 ≤ n) : (32 : UInt8) ∉ Lib.itoa n ∧ (10 : UInt8) ∉ Lib.itoa n := by
  rw [itoa_nat h]; exact dec_fair _
theorem hex_fair (b : Str) : (32 : UInt8) ∉ hexS b ∧ (10 : UInt8) ∉ hexS b :=
  ⟨fun m => absurd (hexS_mem b _ m) (by decide), fun m => absurd (hexS_mem b _ m) (by decide)⟩
theorem nums_itoa : ∀ {l : List Int}, (∀ x ∈ l, 0 ≤ x ∧ x ≤ 9223372036854775807) → numsK (l.map Lib.itoa) = some l
  | [], _ => rfl
  | x :: l, h => by
    show (numK (Lib.itoa x)).bind _ = _
    rw [numK_itoa (h x (by simp)).1 (h x (by simp)).2, nums_itoa (l := l) fun y hy => h y (by simp [hy])]
    rfl
theorem part_rng {c : Cf} (hc : rightB c = true) {p : Nat × Str} (h : partE c.c p.1 p.2.length = 0) : (p.1 : Int) ≤ 9223372036854775807 ∧ p.2 ≠ [] := by
  have h9 := of_decide_eq_true hc
  unfold partE at h
  split at h
  · cases h
  · split at h
    · cases h
    · exact ⟨by omega, fun e => by have := congrArg List.length e; rw [List.length_nil] at this; omega⟩
theorem rest_parts {c : Cf} (hc : rightB c = true) : ∀ (P : List (Nat × Str)) (f : Nat) (s : St) (t : Str), s.last = false → (∀ p ∈ P, partE c.c p.1 p.2.length = 0) → s.P.length + P.length ≤ 256 → (partsK P ++ t).length ≤ f → ∃ f', t.length ≤ f' ∧ restK c f s (partsK P ++ t) = restK c f' ⟨s.P ++ P, s.L, s.last⟩ t
  | [], f, s, t, _, _, _, hf => ⟨f, hf, by rw [List.append_nil]; rfl⟩
  | p :: P, f, s, t, hl, hp, hn, hf => by
    have e : partsK (p :: P) ++ t = (J [sAt, Lib.decDigits p.1, hexS p.2] ++ [10]) ++ (partsK P ++ t) := by
      unfold partsK
      rw [List.flatMap_cons, List.append_assoc]
    rw [e] at hf ⊢
    obtain ⟨f1, h1, e1⟩ := rest_step (c := c) (s := s) (ws := [sAt, Lib.decDigits p.1, hexS p.2]) (by simp) (fair_cons (by decide) (fair_cons (dec_fair _) (fair_cons (hex_fair _) fair_nil))) hf
    have hq := part_rng hc (hp p (by simp))
    have e2 : stepK c s [sAt, Lib.decDigits p.1, hexS p.2] = some ⟨s.P ++ [p], s.L, s.last⟩ := by
      unfold stepK
      simp only
      rw [if_pos trivial, if_neg (by rw [hl]; decide), show Lib.decDigits p.1 = Lib.itoa (p.1 : Int) from (Lib.itoa_nonneg _).symm, numK_itoa (by omega) hq.1, rawK_hex hq.2]
      show (if _ then some _ else none) = _
      rw [if_pos ⟨hp p (by simp), by simp at hn; omega⟩, Int.toNat_natCast]
    rw [e1, e2]
    obtain ⟨f2, h2, e3⟩ := rest_parts hc P f1 ⟨s.P ++ [p], s.L, s.last⟩ t hl (fun q hq => hp q (by simp [hq])) (by simp at hn ⊢; omega) h1
    refine ⟨f2, h2, ?_⟩
    show restK c f1 ⟨s.P ++ [p], s.L, s.last⟩ (partsK P ++ t) = _
    rw [e3]
    simp
theorem line_rng {c : Cf} (hc : rightB c = true) {l : Ln} (h : lineE c.a l = 0) : 0 ≤ l.n ∧ (l.w = 0 ∨ l.w = 1 ∨ l.w = 2 ∨ l.w = 3) ∧ (l.w ≠ 3 → l.on = false) := by
  have h9 := of_decide_eq_true hc
  unfold lineE at h
  split at h
  · cases h
  · split at h
    · cases h
    · rename_i h1 h2
      refine ⟨by omega, by omega, fun hw => ?_⟩
      cases ho : l.on
      · rfl
      · exact absurd (.inr (.inr ⟨ho, hw⟩)) h1
theorem lay_all {c : Cf} {P : List (Nat × Str)} {L0 : List Ln} {b : Bool} {l : Ln} {n : Nat} (h : lineE c.a l = 0) (hn : L0.length + n ≤ 60000) : layK c ⟨P, L0, b⟩ l n = some ⟨P, L0 ++ List.replicate n l, true⟩ := by
  unfold layK
  rw [if_pos ⟨h, by show (n : Int) ≤ 60000 - (L0.length : Int); omega⟩, Int.toNat_natCast]
/-- A line's words lay it. -/
theorem step_line {c : Cf} (hc : rightB c = true) {P : List (Nat × Str)} {L0 : List Ln} {b : Bool} {l : Ln} {n : Nat} (h : lineE c.a l = 0) (hr : l.n ≤ 9223372036854775807) (hn : L0.length + n ≤ 60000) (h1 : 1 ≤ n) (h2 : l.w ≠ 0 → n = 1) (h3 : l.w = 0 → L0.getLast? ≠ some l) : stepK c ⟨P, L0, b⟩ (lineWs l n) = some ⟨P, L0 ++ List.replicate n l, true⟩ := by
  obtain ⟨w, m, on⟩ := l
  obtain ⟨h0, hw, ho⟩ := line_rng hc h
  have hm : numK (Lib.itoa m) = some m := numK_itoa h0 hr
  have hl := lay_all (P := P) (b := b) h hn
  rcases hw with rfl | rfl | rfl | rfl
  · obtain rfl : on = false := ho (by simp)
    show stepK c _ [sPick, Lib.itoa m, Lib.itoa n] = _
    unfold stepK
    simp only
    rw [if_neg (by decide), if_pos trivial, hm, numK_itoa (by omega) (by omega)]
    refine Eq.trans (if_neg ?_) hl
    rintro (e | e)
    · omega
    · exact h3 rfl e
  · obtain rfl : on = false := ho (by simp)
    obtain rfl : n = 1 := h2 (by simp)
    show stepK c _ [sTick, Lib.itoa m] = _
    unfold stepK
    simp only
    rw [if_pos trivial, hm]
    exact hl
  · obtain rfl : on = false := ho (by simp)
    obtain rfl : n = 1 := h2 (by simp)
    show stepK c _ [sInput, Lib.itoa m] = _
    unfold stepK
    simp only
    rw [if_neg (by decide), if_pos trivial, hm]
    exact hl
  · obtain rfl : n = 1 := h2 (by simp)
    show stepK c _ [sWire, Lib.itoa m, if on then sOn else sOff] = _
    unfold stepK
    simp only
    rw [if_neg (by decide), if_neg (by decide), if_pos trivial, hm]
    cases on
    · show (if sOff = sOn then layK c ⟨P, L0, b⟩ ⟨3, m, true⟩ 1 else if sOff = sOff then layK c ⟨P, L0, b⟩ ⟨3, m, false⟩ 1 else none) = _
      rw [if_neg (by decide), if_pos rfl]; exact hl
    · show (if sOn = sOn then layK c ⟨P, L0, b⟩ ⟨3, m, true⟩ 1 else (if sOn = sOff then layK c ⟨P, L0, b⟩ ⟨3, m, false⟩ 1 else none)) = _
      rw [if_pos rfl]; exact hl
theorem line_fair {l : Ln} {n : Nat} (h0 : 0 ≤ l.n) : lineWs l n ≠ [] ∧ Fair (lineWs l n) := by
  have hi := itoa_fair h0
  have hn := itoa_fair (n := (n : Int)) (by omega)
  unfold lineWs
  repeat' split
  · exact ⟨by simp, fair_cons (by decide) (fair_cons hi (fair_cons hn fair_nil))⟩
  · exact ⟨by simp, fair_cons (by decide) (fair_cons hi fair_nil)⟩
  · exact ⟨by simp, fair_cons (by decide) (fair_cons hi fair_nil)⟩
  · exact ⟨by simp, fair_cons (by decide) (fair_cons hi (fair_cons (by decide) fair_nil))⟩
  · exact ⟨by simp, fair_cons (by decide) (fair_cons hi (fair_cons (by decide) fair_nil))⟩
theorem take_run {L : List Ln} {i n : Nat} {x : Ln} (h : ∀ j, j < n → L[i + j]? = some x) (hi : i + n ≤ L.length) : L.take i ++ List.replicate n x = L.take (i + n) := by
  induction n with
  | zero => simp
  | succ n ih =>
    rw [List.replicate_succ', ← List.append_assoc, ih (fun j hj => h j (by omega)) (by omega), show i + (n + 1) = (i + n) + 1 by omega, List.take_add_one, h n (by omega)]
    rfl
theorem rest_runs {c : Cf} (hc : rightB c = true) {L : List Ln} (hL : ∀ l ∈ L, lineE c.a l = 0 ∧ l.n ≤ 9223372036854775807) (hl : L.length ≤ 60000) : ∀ (k i f : Nat) (P : List (Nat × Str)) (b : Bool), L.length - i ≤ k → i ≤ L.length → (∀ y, 0 < i → L[i - 1]? = some y → y.w = 0 → L[i]? ≠ some y) → (runsT L i).length ≤ f → ∃ b', restK c f ⟨P, L.take i, b⟩ (runsT L i) = some ⟨P, L, b'⟩ := by
  intro k
  induction k with
  | zero =>
    intro i f P b hk hi hb hf
    obtain rfl : i = L.length := by omega
    refine ⟨b, ?_⟩
    rw [runsT_end (Nat.le_refl _), List.take_length]
    cases f <;> (unfold restK; rw [if_pos rfl])
  | succ k ih =>
    intro i f P b hk hi hb hf
    by_cases he : i = L.length
    · exact ih i f P b (by omega) hi hb hf
    have hlt : i < L.length := by omega
    obtain ⟨x, hx⟩ : ∃ x, L[i]? = some x := ⟨_, List.getElem?_eq_getElem hlt⟩
    have hr := runN_is hx
    obtain ⟨y, hy, r1, r2, r3, r4, r5⟩ := id hr
    obtain rfl : x = y := by rw [hx] at hy; exact Option.some.inj hy
    have hxm := hL x (List.mem_of_getElem? hx)
    have hrg := line_rng hc hxm.1
    obtain ⟨f0, ff⟩ := line_fair (n := runN L i) hrg.1
    rw [runsT_at hx hr] at hf ⊢
    obtain ⟨f', h1, e1⟩ := rest_step (c := c) (s := ⟨P, L.take i, b⟩) f0 ff hf
    have e2 : stepK c ⟨P, L.take i, b⟩ (lineWs x (runN L i)) = some ⟨P, L.take i ++ List.replicate (runN L i) x, true⟩ := by
      refine step_line hc hxm.1 hxm.2 (by rw [List.length_take]; omega) r1 r3 fun hw e => ?_
      rw [List.getLast?_eq_getElem?, List.length_take, Nat.min_eq_left hi] at e
      by_cases h0 : i = 0
      · subst h0; simp at e
      · rw [List.getElem?_take, if_pos (by omega)] at e
        exact hb x (by omega) e hw hx
    rw [take_run r4 r2] at e2
    obtain ⟨b', e3⟩ := ih (i + runN L i) f' P true (by omega) r2 (fun y _ hy hw hh => by
      have := r4 (runN L i - 1) (by omega)
      rw [show i + (runN L i - 1) = i + runN L i - 1 by omega, hy] at this
      obtain rfl := Option.some.inj this
      exact r5 hw hh) h1
    refine ⟨b', ?_⟩
    show restK c f _ ((J (lineWs x (runN L i)) ++ [10]) ++ runsT L (i + runN L i)) = _
    rw [e1, e2]
    exact e3
theorem bu_take {a : Int} {u : Bu} (ha : 1 ≤ a ∧ a ≤ 8) (h : budE a u = 0) : Bu.of (u.l.take a.toNat) = u := by
  have hb : ∀ i : Nat, i < 8 → budOk a u i := by
    unfold budE at h
    split at h
    · assumption
    · cases h
  obtain ⟨b0, b1, b2, b3, b4, b5, b6, b7⟩ := u
  have z : ∀ i : Nat, i < 8 → a ≤ i → (Bu.mk b0 b1 b2 b3 b4 b5 b6 b7).at i = 0 := fun i hi h => (hb i hi).2 h
  obtain ⟨k, rfl⟩ := Int.eq_ofNat_of_zero_le (show 0 ≤ a by omega)
  have hk : k = 1 ∨ k = 2 ∨ k = 3 ∨ k = 4 ∨ k = 5 ∨ k = 6 ∨ k = 7 ∨ k = 8 := by omega
  have z1 := z 1 (by omega)
  have z2 := z 2 (by omega)
  have z3 := z 3 (by omega)
  have z4 := z 4 (by omega)
  have z5 := z 5 (by omega)
  have z6 := z 6 (by omega)
  have z7 := z 7 (by omega)
  simp only [Bu.at, Bu.l, List.getD_cons_succ, List.getD_cons_zero] at z1 z2 z3 z4 z5 z6 z7
  rcases hk with rfl | rfl | rfl | rfl | rfl | rfl | rfl | rfl
  all_goals
    simp only [Bu.of, Bu.l, Int.toNat_natCast, List.take_succ_cons, List.take_zero, List.getD_cons_succ, List.getD_cons_zero, List.getD_nil, Bu.mk.injEq, true_and]
    first | done | trivial | (refine ⟨?_, ?_⟩ <;> omega) | omega
/-- What is written is read as it was. -/
theorem parse_back {c : Cf} {u : Bu} {P : List (Nat × Str)} {L : List Ln} (hc : rightB c = true) (hu : budE c.a u = 0) (hP : P.length ≤ 256) (hp : ∀ p ∈ P, partE c.c p.1 p.2.length = 0) (hL : L.length ≤ 60000) (hl : ∀ l ∈ L, lineE c.a l = 0 ∧ l.n ≤ 9223372036854775807) : ∃ b, parseK (textK c u ⟨P, L, b⟩) = some (c, u, ⟨P, L, b⟩) := by
  have h9 := of_decide_eq_true hc
  obtain ⟨f1, g1, e1⟩ := rest_parts hc P (partsK P ++ runsT L 0).length ⟨[], [], false⟩ (runsT L 0) rfl hp (by simpa using hP) (Nat.le_refl _)
  obtain ⟨b, e2⟩ := rest_runs hc hl hL L.length 0 f1 P false (by omega) (by omega) (fun y h => absurd h (by omega)) g1
  refine ⟨b, ?_⟩
  have ew : ∀ x : Int, 0 ≤ x → x ≤ 9223372036854775807 → numK (Lib.itoa x) = some x := fun x => numK_itoa
  have w1 : Fair [sMachine, Lib.itoa c.a, Lib.itoa c.b, Lib.itoa c.c, Lib.itoa c.d] := fair_cons (by decide) (fair_cons (itoa_fair (by omega)) (fair_cons (itoa_fair (by omega)) (fair_cons (itoa_fair (by omega)) (fair_cons (itoa_fair (by omega)) fair_nil))))
  have hbu : ∀ x ∈ u.l.take c.a.toNat, 0 ≤ x ∧ x ≤ 9223372036854775807 := by
    intro x hx
    obtain ⟨i, hi⟩ := List.mem_iff_getElem?.1 hx
    rw [List.getElem?_take] at hi
    split at hi
    · rename_i hlt
      have hb : ∀ i : Nat, i < 8 → budOk c.a u i := by
        unfold budE at hu
        split at hu
        · assumption
        · cases hu
      have h8 : i < 8 := by omega
      have := (hb i h8).1 (by omega)
      unfold Bu.at at this
      rw [List.getD_eq_getElem?_getD, hi] at this
      simp at this
      omega
    · cases hi
  have w2 : Fair (sBudget :: budW c u) := fair_cons (by decide) fun w hw => by
    obtain ⟨x, hx, rfl⟩ := List.mem_map.1 hw
    exact itoa_fair (hbu x hx).1
  obtain ⟨a1, a2, a3⟩ := next_J (by simp) w1 (head2 c u ++ textR ⟨P, L, b⟩)
  obtain ⟨b1, b2, b3⟩ := next_J (by simp) w2 (textR ⟨P, L, b⟩)
  have ec : cfK [sMachine, Lib.itoa c.a, Lib.itoa c.b, Lib.itoa c.c, Lib.itoa c.d] = some c := by
    unfold cfK
    simp only
    rw [if_pos trivial, ew _ (by omega) (by omega), ew _ (by omega) (by omega), ew _ (by omega) (by omega), ew _ (by omega) (by omega)]
    exact if_pos hc
  have eb : buK c (sBudget :: budW c u) = some u := by
    have hlen : (budW c u).length = c.a.toNat := by
      unfold budW
      rw [List.length_map, List.length_take]
      show min c.a.toNat 8 = _
      omega
    unfold buK
    simp only
    rw [if_pos ⟨trivial, by omega⟩]
    unfold budW
    rw [nums_itoa hbu]
    show (if budE c.a (Bu.of (u.l.take c.a.toNat)) = 0 then some (Bu.of (u.l.take c.a.toNat)) else none) = _
    rw [bu_take ⟨h9.1, h9.2.1⟩ hu, if_pos hu]
  have et : textK c u ⟨P, L, b⟩ = (J [sMachine, Lib.itoa c.a, Lib.itoa c.b, Lib.itoa c.c, Lib.itoa c.d] ++ [10]) ++ (head2 c u ++ textR ⟨P, L, b⟩) := by
    unfold textK head1
    rw [List.append_assoc]
  rw [et]
  unfold parseK
  rw [if_pos a1, a2, a3, ec]
  show (if _ then _ else _) = _
  unfold head2
  rw [if_pos b1, b2, b3, eb]
  show Option.map _ (restK c _ ⟨[], [], false⟩ (partsK P ++ runsT L 0)) = _
  rw [show textR ⟨P, L, b⟩ = partsK P ++ runsT L 0 from rfl, e1]
  have e3 : restK c f1 ⟨[] ++ P, [], false⟩ (runsT L 0) = some ⟨P, L, b⟩ := by
    rw [List.nil_append]
    exact e2
  rw [e3]
  rfl
end Go.Proofs.YtjipfibbkmmfbaaGreatDoor
