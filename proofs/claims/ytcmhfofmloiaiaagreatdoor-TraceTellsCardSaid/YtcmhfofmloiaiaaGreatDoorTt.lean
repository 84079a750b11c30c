/-
  What harts did: a rising list, put together number by number.
-/
import Derived.Test.YtcmhfofmloiaiaaGreatDoorTrcFa
import Derived.Test.YtcmhfofmloiaiaaGreatDoorMidM
import Derived.Test.YtcmhfofmloiaiaaGreatDoorMidZ
import Derived.Test.YtcmhfofmloiaiaaGreatDoorPdqJ
import Derived.Test.YtcmhfofmloiaiaaGreatDoorPdqK
import Derived.Test.YtcmhfofmloiaiaaGreatDoorRows
/-! What harts did: a rising list, put together number by number. -/
namespace Go.Proofs.YtcmhfofmloiaiaaGreatDoor
set_option linter.unusedSimpArgs false
set_option linter.unusedVariables false
open Go Go.Mid Go.RowKit
attribute [local irreducible] mid
section
set_option maxHeartbeats 8000000
set_option maxRecDepth 10000
variable {h : Hp} {K : Value → Hp → Prop}
theorem put_xU {k : Hp} (s : Value) (D : List Nat) (n : Nat) (hrise : Rising D) (hO : Owns k h 23 1 s D.length (D.map uv)) (hD : D.length ≤ 1000) (hs : s = .slice none 0 0 ∧ D = [] ∨ D ≠ []) (hk : ∀ s' h', Owns k h' 23 1 s' (ins n D).length ((ins n D).map uv) → K s' h') : X Tryz.prog 18 #[s, uv n] h K := by
  by_cases hD0 : s = .slice none 0 0 ∧ D = []
  · obtain ⟨rfl, rfl⟩ := hD0
    refine fnv (args := _) mixed [] [] [] Tryz.func18 rfl (by kernel_rfl) ?_
    conv => whnf
    refine loop_step ?_
    conv => whnf
    refine new_intro (o := rowO 23 []) (fun z h4 n_z le_z at_z ot_z => ?_)
    conv => whnf
    have hz : Owns k h4 23 1 (.slice (some ⟨z, 0, none⟩) 0 0) 0 [] := ⟨some z, ⟨rfl, .inr ⟨z, 0, [], rfl, rfl, Nat.le_refl _, rfl, at_z⟩⟩, Hp.le_trans hO.le le_z, fun c e => by cases e; exact Hp.none_le hO.le n_z⟩
    refine Owns.appN (z := .int .u64 0) (news := []) (bytes := 8) (by kernel_rfl) infU (by kernel_rfl) (by kernel_rfl) (by kernel_rfl) rfl (by decide) rfl rfl rfl hz rfl (fun j v hj => by simp at hj) (fun _ => rfl) rfl (by decide) fun s5 h5 hO5 => ?_
    conv => whnf
    refine new_intro (o := rowO 23 [uv n]) (fun y h6 n_y le_y at_y ot_y => ?_)
    conv => whnf
    refine Owns.app1 (z := .int .u64 0) (by kernel_rfl) infU (by kernel_rfl) (by kernel_rfl) (by kernel_rfl) rfl (bytes := 8) (by decide) rfl rfl rfl (hO5.up le_y) at_y rfl rfl (by decide) fun s7 h7 hO7 => ?_
    conv => whnf
    refine Owns.appN (z := .int .u64 0) (news := []) (bytes := 8) (by kernel_rfl) infU (by kernel_rfl) (by kernel_rfl) (by kernel_rfl) rfl (by decide) rfl rfl rfl hO7 rfl (fun j v hj => by simp at hj) (fun _ => rfl) rfl (by decide) fun s8 h8 hO8 => ?_
    conv => whnf
    exact hk _ _ hO8
  have hD1 : D ≠ [] := hs.resolve_left hD0
  have hDpos : 0 < D.length := List.length_pos_iff.2 hD1
  obtain ⟨bb, cap, rest, rfl, hcap, hbb, hkb⟩ : ∃ bb cap rest, s = .slice (some ⟨bb, 0, none⟩) D.length cap ∧ D.length ≤ cap ∧ h bb = some (rowO 23 (D.map uv ++ rest)) ∧ k bb = none := by
    obtain ⟨ob, ⟨_, ⟨_, rfl, e⟩ | ⟨b, cap, rest, e1, e2, h1, _, h3⟩⟩, _, ho⟩ := hO
    · exact absurd ⟨rfl, List.eq_nil_of_length_eq_zero e⟩ hD0
    · exact ⟨b, cap, rest, e2, h1, h3, ho b e1⟩
  have hle3 := hO.le
  have hcell : ∀ (j : Nat) (x : Nat), D[j]? = some x → h.cell? ⟨bb, j, none⟩ = some (uv x) := fun j x hx => cell_row hbb (by
    rw [List.getElem?_append_left (by rw [List.length_map]; exact (List.getElem?_eq_some_iff.1 hx).1), List.getElem?_map, hx]; rfl)
  have next : ∀ k : Nat, k ≤ D.length → (∀ j x, j < k → D[j]? = some x → x < n) → (∀ x, D[k]? = some x → n ≤ x) → ins n D = if D[k]? = some n then D else D.take k ++ n :: D.drop k := fun k hk hl hr => ins_at hrise hl hr hk
  refine fnv (args := _) mixed [] [] [] Tryz.func18 rfl (by kernel_rfl) ?_
  conv => whnf
  refine loop_at [5] [] (fun r vs cs h' => h = h' ∧ ∃ k : Nat, k ≤ D.length ∧ r = D.length - k ∧ vs = [.v (.int .i64 k)] ∧ ∀ j x, j < k → D[j]? = some x → x < n) D.length ⟨rfl, 0, by omega, by omega, rfl, fun j x hj => by omega⟩ ?_
  rintro r vs cs mm bx _ ⟨rfl, m, hk1, rfl, rfl, hlt⟩
  conv => whnf
  refine bsel_intro (fun q4 => ?_) (fun q4 => ?_) <;> try simp only [decide_eq_true_eq, decide_eq_false_iff_not, beq_iff_eq, beq_eq_false_iff_ne, ne_eq, Bool.not_eq_true', Bool.not_eq_false', bne_iff_ne, bne_eq_false_iff_eq, Bool.not_eq_true, Bool.not_eq_false, Bool.and_eq_true, Bool.or_eq_true, bs_size] at q4
  · have hkD : m < D.length := by omega
    obtain ⟨x, hx⟩ : ∃ x, D[m]? = some x := ⟨_, List.getElem?_eq_getElem hkD⟩
    have e2 : loadH Tryz.prog 23 h ((⟨bb, 0, none⟩ : Addr).add (((m : Int)).toNat * 1)) = some (uv x) := by
      rw [Int.toNat_natCast, addr_add, loadH_cell aggU]
      simpa using hcell m x hx
    conv => whnf
    first | refine need_intro (⟨by omega, by omega⟩) ?_ | refine must.mk (⟨by omega, by omega⟩) ?_
    conv => whnf
    refine ⟨_, e2, ?_⟩
    conv => whnf
    refine bsel_intro (fun q5 => ?_) (fun q5 => ?_) <;> try simp only [decide_eq_true_eq, decide_eq_false_iff_not, beq_iff_eq, beq_eq_false_iff_ne, ne_eq, Bool.not_eq_true', Bool.not_eq_false', bne_iff_ne, bne_eq_false_iff_eq, Bool.not_eq_true, Bool.not_eq_false, Bool.and_eq_true, Bool.or_eq_true, bs_size] at q5
    · have hxn : x < n := by omega
      conv => whnf
      first | refine ov_i64 (by omega) ?_ | refine ov_u64 (by omega) ?_ | refine ov_i64 (by decide) ?_ | refine ov_u64 (by decide) ?_ | refine ov_u8 (by omega) ?_ | refine ov_i32 (by omega) ?_ | refine ov_u32 (by omega) ?_
      conv => whnf
      refine ⟨D.length - (m + 1), by omega, rfl, m + 1, by omega, rfl, rfl, fun j y hj hy => ?_⟩
      by_cases ej : j = m
      · subst ej; rw [hx] at hy; cases hy; exact hxn
      · exact hlt j y (by omega) hy
    · have hge : ∀ y, D[m]? = some y → n ≤ y := fun y hy => by rw [hx] at hy; cases hy; omega
      conv => whnf
      refine bsel_true ?_ ?_
      · simp; omega
      conv => whnf
      first | refine need_intro (⟨by omega, by omega⟩) ?_ | refine must.mk (⟨by omega, by omega⟩) ?_
      conv => whnf
      refine ⟨_, e2, ?_⟩
      conv => whnf
      refine bsel_intro (fun q6 => ?_) (fun q6 => ?_) <;> try simp only [decide_eq_true_eq, decide_eq_false_iff_not, beq_iff_eq, beq_eq_false_iff_ne, ne_eq, Bool.not_eq_true', Bool.not_eq_false', bne_iff_ne, bne_eq_false_iff_eq, Bool.not_eq_true, Bool.not_eq_false, Bool.and_eq_true, Bool.or_eq_true, bs_size] at q6
      · have hxn : x = n := by omega
        have hins := next m hk1 hlt hge
        rw [hx, hxn, if_pos rfl] at hins
        rw [hins] at hk
        conv => whnf
        exact hk _ _ hO
      · have hne2 : ¬ (D[m]? = some n) := fun hh => by rw [hx] at hh; cases hh; exact q6 rfl
        have hins := next m hk1 hlt hge
        rw [if_neg hne2] at hins
        conv => whnf
        refine new_intro (o := rowO 23 []) (fun z h4 n_z le_z at_z ot_z => ?_)
        conv => whnf
        have hz : Owns h h4 23 1 (.slice (some ⟨z, 0, none⟩) 0 0) 0 [] := ⟨some z, ⟨rfl, .inr ⟨z, 0, [], rfl, rfl, Nat.le_refl _, rfl, at_z⟩⟩, le_z, fun c e => by cases e; exact n_z⟩
        have hlT : (D.take m).length = m := by rw [List.length_take]; omega
        first | refine need_intro (⟨by omega, by omega⟩) ?_ | refine must.mk (⟨by omega, by omega⟩) ?_
        conv => whnf
        refine bsel_false ?_ ?_
        · simp; omega
        conv => whnf
        refine Owns.appN (z := .int .u64 0) (news := (D.take m).map uv) (bytes := 8) (by kernel_rfl) infU (by kernel_rfl) (by kernel_rfl) (by kernel_rfl) rfl (by decide) rfl rfl rfl hz (by rw [List.length_map, hlT]; show m = (((m : Nat) : Int).toNat - 0) * 1; omega) (fun j v hj => ⟨_, rfl, ?_⟩) (fun e => by cases e) (uv_one _) (by show 0 + (((m : Nat) : Int).toNat - 0) ≤ _; omega) fun s5 h5 hO5 => ?_
        · have hjk : j < m := by
            have := (List.getElem?_eq_some_iff.1 hj).1
            rw [List.length_map, hlT] at this; exact this
          obtain ⟨x, hx⟩ : ∃ x, D[j]? = some x := ⟨_, List.getElem?_eq_getElem (by omega)⟩
          have hv : v = uv x := by
            rw [List.getElem?_map, List.getElem?_take_of_lt hjk, hx] at hj
            cases hj; rfl
          subst hv
          show h4.cell? (((⟨bb, 0, none⟩ : Addr).add (0 * 1)).add j) = _
          rw [addr_add, addr_add]
          refine cell_le le_z ?_
          simpa using hcell j x hx
        have hO5 : Owns h h5 23 1 s5 m ((D.take m).map uv) := by
          have hO5' := hO5
          rw [show 0 + (((m : Nat) : Int).toNat - 0) = m by omega] at hO5'
          exact hO5'
        conv => whnf
        refine new_intro (o := rowO 23 [uv n]) (fun y h6 n_y le_y at_y ot_y => ?_)
        conv => whnf
        refine Owns.app1 (z := .int .u64 0) (by kernel_rfl) infU (by kernel_rfl) (by kernel_rfl) (by kernel_rfl) rfl (bytes := 8) (by decide) rfl rfl rfl (hO5.up le_y) at_y rfl rfl (by omega) fun s7 h7 hO7 => ?_
        conv => whnf
        first | refine need_intro (⟨by omega, by omega⟩) ?_ | refine must.mk (⟨by omega, by omega⟩) ?_
        conv => whnf
        have e1 : (D.take m).map uv ++ [uv n] ++ (D.drop m).map uv = (D.take m ++ n :: D.drop m).map uv := by simp
        have e2 : (D.take m ++ n :: D.drop m).length = m + 1 + (D.length - m) := by simp; omega
        refine bsel_intro (fun qc => ?_) (fun qc => ?_)
        · have qc : cap = m := by have := of_decide_eq_true qc; omega
          have hkl : D.drop m = [] := List.drop_eq_nil_of_le (by omega)
          conv => whnf
          refine Owns.appN (z := .int .u64 0) (news := (D.drop m).map uv) (bytes := 8) (by kernel_rfl) infU (by kernel_rfl) (by kernel_rfl) (by kernel_rfl) rfl (by decide) rfl rfl rfl hO7 (by rw [List.length_map, List.length_drop]; show _ = (D.length - ((m : Nat) : Int).toNat) * 1; omega) (fun j v hj => by rw [hkl] at hj; simp at hj) (fun e => by cases e) (uv_one _) (by show _ + (D.length - ((m : Nat) : Int).toNat) ≤ _; omega) fun s8 h8 hO8 => ?_
          rw [show D.length - ((m : Nat) : Int).toNat = D.length - m by omega, e1, ← e2, ← hins] at hO8
          conv => whnf
          exact hk _ _ (hO8.weak hle3)
        · conv => whnf
          refine Owns.appN (z := .int .u64 0) (news := (D.drop m).map uv) (bytes := 8) (by kernel_rfl) infU (by kernel_rfl) (by kernel_rfl) (by kernel_rfl) rfl (by decide) rfl rfl rfl hO7 (by rw [List.length_map, List.length_drop]; show _ = (D.length - ((m : Nat) : Int).toNat) * 1; omega) (fun j v hj => ⟨_, rfl, ?_⟩) (fun e => by cases e) (uv_one _) (by show _ + (D.length - ((m : Nat) : Int).toNat) ≤ _; omega) fun s8 h8 hO8 => ?_
          · have hjk : m + j < D.length := by
              have := (List.getElem?_eq_some_iff.1 hj).1
              rw [List.length_map, List.length_drop] at this; omega
            obtain ⟨x, hx⟩ : ∃ x, D[m + j]? = some x := ⟨_, List.getElem?_eq_getElem hjk⟩
            have hv : v = uv x := by
              rw [List.getElem?_map, List.getElem?_drop, hx] at hj
              cases hj; rfl
            subst hv
            show h7.cell? (((⟨bb, 0, none⟩ : Addr).add (((m : Int)).toNat * 1)).add j) = _
            rw [addr_add, addr_add, Int.toNat_natCast, Nat.mul_one, Nat.zero_add]
            exact cell_le hO7.le (hcell (m + j) x hx)
          rw [show D.length - ((m : Nat) : Int).toNat = D.length - m by omega, e1, ← e2, ← hins] at hO8
          conv => whnf
          exact hk _ _ (hO8.weak hle3)
  · have hge : ∀ y, D[m]? = some y → n ≤ y := fun y hy => by
      have := (List.getElem?_eq_some_iff.1 hy).1
      omega
    have hne2 : ¬ (D[m]? = some n) := fun hh => by
      have := (List.getElem?_eq_some_iff.1 hh).1
      omega
    conv => whnf
    refine bsel_false ?_ ?_
    · simp; omega
    conv => whnf
    have hins := next m hk1 hlt hge
    rw [if_neg hne2] at hins
    conv => whnf
    refine new_intro (o := rowO 23 []) (fun z h4 n_z le_z at_z ot_z => ?_)
    conv => whnf
    have hz : Owns h h4 23 1 (.slice (some ⟨z, 0, none⟩) 0 0) 0 [] := ⟨some z, ⟨rfl, .inr ⟨z, 0, [], rfl, rfl, Nat.le_refl _, rfl, at_z⟩⟩, le_z, fun c e => by cases e; exact n_z⟩
    have hlT : (D.take m).length = m := by rw [List.length_take]; omega
    first | refine need_intro (⟨by omega, by omega⟩) ?_ | refine must.mk (⟨by omega, by omega⟩) ?_
    conv => whnf
    refine bsel_false ?_ ?_
    · simp; omega
    conv => whnf
    refine Owns.appN (z := .int .u64 0) (news := (D.take m).map uv) (bytes := 8) (by kernel_rfl) infU (by kernel_rfl) (by kernel_rfl) (by kernel_rfl) rfl (by decide) rfl rfl rfl hz (by rw [List.length_map, hlT]; show m = (((m : Nat) : Int).toNat - 0) * 1; omega) (fun j v hj => ⟨_, rfl, ?_⟩) (fun e => by cases e) (uv_one _) (by show 0 + (((m : Nat) : Int).toNat - 0) ≤ _; omega) fun s5 h5 hO5 => ?_
    · have hjk : j < m := by
        have := (List.getElem?_eq_some_iff.1 hj).1
        rw [List.length_map, hlT] at this; exact this
      obtain ⟨x, hx⟩ : ∃ x, D[j]? = some x := ⟨_, List.getElem?_eq_getElem (by omega)⟩
      have hv : v = uv x := by
        rw [List.getElem?_map, List.getElem?_take_of_lt hjk, hx] at hj
        cases hj; rfl
      subst hv
      show h4.cell? (((⟨bb, 0, none⟩ : Addr).add (0 * 1)).add j) = _
      rw [addr_add, addr_add]
      refine cell_le le_z ?_
      simpa using hcell j x hx
    have hO5 : Owns h h5 23 1 s5 m ((D.take m).map uv) := by
      have hO5' := hO5
      rw [show 0 + (((m : Nat) : Int).toNat - 0) = m by omega] at hO5'
      exact hO5'
    conv => whnf
    refine new_intro (o := rowO 23 [uv n]) (fun y h6 n_y le_y at_y ot_y => ?_)
    conv => whnf
    refine Owns.app1 (z := .int .u64 0) (by kernel_rfl) infU (by kernel_rfl) (by kernel_rfl) (by kernel_rfl) rfl (bytes := 8) (by decide) rfl rfl rfl (hO5.up le_y) at_y rfl rfl (by omega) fun s7 h7 hO7 => ?_
    conv => whnf
    first | refine need_intro (⟨by omega, by omega⟩) ?_ | refine must.mk (⟨by omega, by omega⟩) ?_
    conv => whnf
    have e1 : (D.take m).map uv ++ [uv n] ++ (D.drop m).map uv = (D.take m ++ n :: D.drop m).map uv := by simp
    have e2 : (D.take m ++ n :: D.drop m).length = m + 1 + (D.length - m) := by simp; omega
    refine bsel_intro (fun qc => ?_) (fun qc => ?_)
    · have qc : cap = m := by have := of_decide_eq_true qc; omega
      have hkl : D.drop m = [] := List.drop_eq_nil_of_le (by omega)
      conv => whnf
      refine Owns.appN (z := .int .u64 0) (news := (D.drop m).map uv) (bytes := 8) (by kernel_rfl) infU (by kernel_rfl) (by kernel_rfl) (by kernel_rfl) rfl (by decide) rfl rfl rfl hO7 (by rw [List.length_map, List.length_drop]; show _ = (D.length - ((m : Nat) : Int).toNat) * 1; omega) (fun j v hj => by rw [hkl] at hj; simp at hj) (fun e => by cases e) (uv_one _) (by show _ + (D.length - ((m : Nat) : Int).toNat) ≤ _; omega) fun s8 h8 hO8 => ?_
      rw [show D.length - ((m : Nat) : Int).toNat = D.length - m by omega, e1, ← e2, ← hins] at hO8
      conv => whnf
      exact hk _ _ (hO8.weak hle3)
    · conv => whnf
      refine Owns.appN (z := .int .u64 0) (news := (D.drop m).map uv) (bytes := 8) (by kernel_rfl) infU (by kernel_rfl) (by kernel_rfl) (by kernel_rfl) rfl (by decide) rfl rfl rfl hO7 (by rw [List.length_map, List.length_drop]; show _ = (D.length - ((m : Nat) : Int).toNat) * 1; omega) (fun j v hj => ⟨_, rfl, ?_⟩) (fun e => by cases e) (uv_one _) (by show _ + (D.length - ((m : Nat) : Int).toNat) ≤ _; omega) fun s8 h8 hO8 => ?_
      · have hjk : m + j < D.length := by
          have := (List.getElem?_eq_some_iff.1 hj).1
          rw [List.length_map, List.length_drop] at this; omega
        obtain ⟨x, hx⟩ : ∃ x, D[m + j]? = some x := ⟨_, List.getElem?_eq_getElem hjk⟩
        have hv : v = uv x := by
          rw [List.getElem?_map, List.getElem?_drop, hx] at hj
          cases hj; rfl
        subst hv
        show h7.cell? (((⟨bb, 0, none⟩ : Addr).add (((m : Int)).toNat * 1)).add j) = _
        rw [addr_add, addr_add, Int.toNat_natCast, Nat.mul_one, Nat.zero_add]
        exact cell_le hO7.le (hcell (m + j) x hx)
      rw [show D.length - ((m : Nat) : Int).toNat = D.length - m by omega, e1, ← e2, ← hins] at hO8
      conv => whnf
      exact hk _ _ (hO8.weak hle3)
end
end Go.Proofs.YtcmhfofmloiaiaaGreatDoor
/-! What harts did: the document's. -/
namespace Go.Proofs.YtcmhfofmloiaiaaGreatDoor
set_option linter.unusedSimpArgs false
set_option linter.unusedVariables false
open Go Go.Mid Go.RowKit
attribute [local irreducible] mid
/-- What one hart did. -/
structure Sd where
  gs : List Int
  waits : Int
  longest : Int
  lines : List Nat
abbrev zv (x : Int) : Value := .int .i64 x
def scs (gs : List Int) (w l n : Int) : List Value := gs.map zv ++ [zv w, zv l, zv n]
abbrev S0 : Sd := ⟨[0, 0, 0, 0, 0, 0], 0, 0, []⟩
def tmB (e : Ev) : Bool := decide (1 ≤ groupN e.ask.kind ∧ groupN e.ask.kind ≤ 3) && timedB e
def stepS (S : Sd) (e : Ev) : Sd :=
  ⟨S.gs.set (groupN e.ask.kind).toNat (S.gs.getD (groupN e.ask.kind).toNat 0 + 1), if tmB e then S.waits + (e.at_ - e.from_) else S.waits, if tmB e then max S.longest (e.to - e.from_ + 1) else S.longest, (linesA e.ask).foldl (fun a n => ins n a) S.lines⟩
def stat (L : List Ev) (i : Int) : Sd := (L.filter (fun e => decide (e.hart = i))).foldl stepS S0
theorem stat_snoc (L : List Ev) (e : Ev) (i : Int) : stat (L ++ [e]) i = if e.hart = i then stepS (stat L i) e else stat L i := by
  unfold stat
  rw [List.filter_append, List.foldl_append]
  by_cases h : e.hart = i <;> simp [h]
theorem take_snoc {α : Type} {L : List α} {i : Nat} {e : α} (h : L[i]? = some e) : L.take (i + 1) = L.take i ++ [e] := by
  rw [List.take_add_one, h]; rfl
structure Sd.ok (S : Sd) (m : Nat) : Prop where
  len : S.gs.length = 6
  gs0 : ∀ x ∈ S.gs, 0 ≤ x ∧ x ≤ m
  w0 : 0 ≤ S.waits
  w1 : S.waits ≤ m * 1000000000
  l0 : 0 ≤ S.longest
  l1 : S.longest ≤ 1000000001
  ll : S.lines.length ≤ m * 8
  rise : Rising S.lines
theorem groupN_b (k : Int) : 0 ≤ groupN k ∧ groupN k ≤ 5 := by
  unfold groupN
  repeat' split
  all_goals omega
theorem timedB_iff (e : Ev) : timedB e = true ↔ 0 ≤ e.from_ ∧ e.from_ ≤ e.at_ ∧ e.at_ ≤ e.to ∧ e.to ≤ 1000000000 := by unfold timedB; simp
theorem six {gs : List Int} (h : gs.length = 6) : ∃ a b c d e f, gs = [a, b, c, d, e, f] := by
  match gs, h with
  | [a, b, c, d, e, f], _ => exact ⟨a, b, c, d, e, f, rfl⟩
theorem foldl_ins_len (l : List Nat) : ∀ a : List Nat, (l.foldl (fun a n => ins n a) a).length ≤ a.length + l.length := by
  induction l with
  | nil => intro a; simp
  | cons n l ih =>
    intro a
    have h1 := ih (ins n a)
    have h2 : (ins n a).length ≤ a.length + 1 := by
      clear h1 ih
      induction a with
      | nil => simp [ins]
      | cons m a ih =>
        unfold ins
        split
        · simp only [List.length_cons]; omega
        split
        · simp only [List.length_cons]; omega
        · simp only [List.length_cons]; omega
    simp only [List.foldl_cons, List.length_cons]
    omega
theorem Sd.ok0 (m : Nat) : S0.ok m := ⟨rfl, fun x hx => by simp at hx; omega, by decide, by show (0 : Int) ≤ _; omega, by decide, by decide, by simp, List.Pairwise.nil⟩
theorem Sd.ok.up {S : Sd} {m n : Nat} (o : S.ok m) (h : m ≤ n) : S.ok n := ⟨o.len, fun x hx => ⟨(o.gs0 x hx).1, by have := (o.gs0 x hx).2; omega⟩, o.w0, by have := o.w1; omega, o.l0, o.l1, by have := o.ll; omega, o.rise⟩
theorem getD_get {gs : List Int} {g : Nat} (h : g < gs.length) : gs[g]? = some (gs.getD g 0) := by
  rw [List.getD_eq_getElem?_getD, List.getElem?_eq_getElem h]; rfl
theorem Sd.ok.step {S : Sd} {m : Nat} (o : S.ok m) (e : Ev) (he : e.ok) : (stepS S e).ok (m + 1) := by
  have hg := groupN_b e.ask.kind
  have ht : tmB e = true → 0 ≤ e.from_ ∧ e.from_ ≤ e.at_ ∧ e.at_ ≤ e.to ∧ e.to ≤ 1000000000 := fun h => by
    unfold tmB at h
    rw [Bool.and_eq_true] at h
    exact (timedB_iff e).1 h.2
  have h1 := o.w0
  have h2 := o.w1
  have h3 := o.l0
  have h4 := o.l1
  refine ⟨by simp [stepS, o.len], fun x hx => ?_, ?_, ?_, ?_, ?_, ?_, (foldl_ins _ _ o.rise).1⟩
  · rcases List.mem_or_eq_of_mem_set hx with hx | hx
    · have := o.gs0 x hx; omega
    · have := o.gs0 _ (List.mem_of_getElem? (getD_get (gs := S.gs) (g := (groupN e.ask.kind).toNat) (by rw [o.len]; omega)))
      omega
  · show 0 ≤ (if tmB e then S.waits + (e.at_ - e.from_) else S.waits)
    split
    · rename_i h; have := ht h; omega
    · exact h1
  · show (if tmB e then S.waits + (e.at_ - e.from_) else S.waits) ≤ _
    split
    · rename_i h; have := ht h; omega
    · omega
  · show 0 ≤ (if tmB e then max S.longest (e.to - e.from_ + 1) else S.longest)
    split
    · rename_i h; have := ht h; omega
    · exact h3
  · show (if tmB e then max S.longest (e.to - e.from_ + 1) else S.longest) ≤ _
    split
    · rename_i h; have := ht h; omega
    · exact h4
  · have h5 := foldl_ins_len (linesA e.ask) S.lines
    have h6 := linesA_len e.ask he.ask
    have h7 := o.ll
    show ((linesA e.ask).foldl (fun a n => ins n a) S.lines).length ≤ _
    omega
theorem foldl_ok : ∀ (L : List Ev) (S : Sd) (m : Nat), S.ok m → (∀ e ∈ L, e.ok) → (L.foldl stepS S).ok (m + L.length)
  | [], S, m, o, _ => o
  | e :: L, S, m, o, h => by
    have := foldl_ok L (stepS S e) (m + 1) (o.step e (h e (by simp))) (fun x hx => h x (by simp [hx]))
    rw [List.foldl_cons, List.length_cons]
    exact this.up (by omega)
theorem stat_ok {L : List Ev} (h : ∀ e ∈ L, e.ok) (i : Int) : (stat L i).ok L.length :=
  (foldl_ok _ S0 0 (Sd.ok0 0) (fun e he => h e (List.mem_filter.1 he).1)).up (by have := List.length_filter_le (fun e : Ev => decide (e.hart = i)) L; omega)
section
variable {gs : List Int} {w l n : Int}
theorem scs_len (hg : gs.length = 6) : (scs gs w l n).length = 9 := by simp [scs, hg]
theorem scs_one : (scs gs w l n).all Value.oneCell' = true := by simp [scs, Value.oneCell']
theorem scs_get {j : Nat} {x : Int} (hx : gs[j]? = some x) : (scs gs w l n)[j]? = some (zv x) := by
  unfold scs
  rw [List.getElem?_append_left (by rw [List.length_map]; exact (List.getElem?_eq_some_iff.1 hx).1), List.getElem?_map, hx]; rfl
theorem scs_w (hg : gs.length = 6) : (scs gs w l n)[6]? = some (zv w) := by
  unfold scs
  rw [List.getElem?_append_right (by simp [hg])]; simp [hg]
theorem scs_l (hg : gs.length = 6) : (scs gs w l n)[7]? = some (zv l) := by
  unfold scs
  rw [List.getElem?_append_right (by simp [hg])]; simp [hg]
theorem scs_n (hg : gs.length = 6) : (scs gs w l n)[8]? = some (zv n) := by
  unfold scs
  rw [List.getElem?_append_right (by simp [hg])]; simp [hg]
theorem scs_set (hg : gs.length = 6) {j : Nat} (hj : j < 6) (x : Int) : (scs gs w l n).set j (zv x) = scs (gs.set j x) w l n := by
  unfold scs
  rw [List.set_append_left _ _ (by simp [hg]; exact hj), List.map_set]
theorem scs_setw (hg : gs.length = 6) (x : Int) : (scs gs w l n).set 6 (zv x) = scs gs x l n := by
  unfold scs
  rw [List.set_append_right _ _ (by simp [hg])]; simp [hg]
theorem scs_setl (hg : gs.length = 6) (x : Int) : (scs gs w l n).set 7 (zv x) = scs gs w x n := by
  unfold scs
  rw [List.set_append_right _ _ (by simp [hg])]; simp [hg]
theorem scs_setn (hg : gs.length = 6) (x : Int) : (scs gs w l n).set 8 (zv x) = scs gs w l x := by
  unfold scs
  rw [List.set_append_right _ _ (by simp [hg])]; simp [hg]
end
section
set_option maxHeartbeats 8000000
set_option maxRecDepth 10000
variable {h : Hp} {K : Value → Hp → Prop}
theorem rdE_at2 {s : Value} {L : List Ev} (r : RdE h s L) : ∃ base cap, s = .slice base L.length cap ∧ ∀ (i : Nat) (x : Ev), L[i]? = some x → ∃ a, base = some a ∧ loadH Tryz.prog 53 h (a.add (((i : Int)).toNat * 65)) = some (.agg x.cs.toArray) := by
  obtain ⟨base, cap, e, f⟩ := rdE r
  exact ⟨base, cap, e, fun i x hx => by rw [Int.toNat_natCast]; exact f i x hx⟩
theorem aggI6 : isAggT Tryz.prog 3 = some false := by kernel_rfl
theorem sizI6 : sizeT Tryz.prog 3 = some 1 := by kernel_rfl
theorem aggSd : isAggT Tryz.prog 29 = some true := by kernel_rfl
theorem sizSd : sizeT Tryz.prog 29 = some 9 := by kernel_rfl
theorem rstat_x (s : Value) (L : List Ev) (i0 : Int) (hr : RdE h s L) (hok : ∀ e ∈ L, e.ok) (hL : L.length ≤ 60) (hk : K (.agg (scs (stat L i0).gs (stat L i0).waits (stat L i0).longest (stat L i0).lines.length).toArray) h) : X Tryz.prog 6 #[s, .int .i64 i0] h K := by
  refine X.forget ?_
  obtain ⟨base, cap, rfl, f⟩ := rdE_at2 hr
  refine fnv (args := _) mixed [(4, 4)] [] [] Tryz.func6 rfl (by kernel_rfl) ?_
  conv => whnf
  refine new_intro (o := rowO 29 (scs [0, 0, 0, 0, 0, 0] 0 0 0)) (fun b5 h1 n_b5 le_b5 at_b5 ot_b5 => ?_)
  conv => whnf
  refine wr_intro (by exact storeA0 (z := .agg (scs [0, 0, 0, 0, 0, 0] 0 0 0).toArray) sizSd at_b5 rfl rfl rfl) (fun h2 at_h2 ot_h2 => ?_)
  try (conv => whnf)
  have le2 := Hp.le_st n_b5 le_b5 ot_h2
  have hO2 : Owns (h.set b5 (rowO 29 (scs [0, 0, 0, 0, 0, 0] 0 0 0))) h2 23 1 (.slice none 0 0) 0 [] := Owns.nil (Hp.set_le le2 at_h2)
  have zc : ∀ k : Nat, (⟨b5, 0, none⟩ : Addr).add k = ⟨b5, k, none⟩ := fun k => by rw [addr_add, Nat.zero_add]
  conv => whnf
  refine loop_at [7, 6] [4] (fun r vs cs h' => cs = [some (scs [0, 0, 0, 0, 0, 0] 0 0 0)] ∧ ∃ (i : Nat) (sl : Value), i ≤ L.length ∧ r = L.length - i ∧ vs = [.v (.int .i64 i), .v sl] ∧ (sl = .slice none 0 0 ∧ (stat (L.take i) i0).lines = [] ∨ (stat (L.take i) i0).lines ≠ []) ∧ Owns (h.set b5 (rowO 29 (scs (stat (L.take i) i0).gs (stat (L.take i) i0).waits (stat (L.take i) i0).longest 0))) h' 23 1 sl (stat (L.take i) i0).lines.length ((stat (L.take i) i0).lines.map uv)) L.length ⟨rfl, 0, .slice none 0 0, by omega, by omega, rfl, .inl ⟨rfl, rfl⟩, hO2⟩ ?_
  clear hO2
  rintro r vs cs mm bx h3 ⟨rfl, i, sl, hi, rfl, rfl, hst, hO3⟩
  have le3 : h.le h3 := Hp.le_trans (Hp.le_set' n_b5) hO3.le
  conv => whnf
  refine bsel_intro (fun q1 => ?_) (fun q1 => ?_) <;> try simp only [decide_eq_true_eq, decide_eq_false_iff_not, beq_iff_eq, beq_eq_false_iff_ne, ne_eq, Bool.not_eq_true', Bool.not_eq_false', bne_iff_ne, bne_eq_false_iff_eq, Bool.not_eq_true, Bool.not_eq_false, Bool.and_eq_true, Bool.or_eq_true, bs_size] at q1
  · have hiL : i < L.length := by omega
    obtain ⟨e, he⟩ : ∃ e, L[i]? = some e := ⟨_, List.getElem?_eq_getElem hiL⟩
    have heo := hok e (List.mem_of_getElem? he)
    obtain ⟨a, rfl, l1⟩ := f i e he
    have hts := take_snoc he
    have hsn := stat_snoc (L.take i) e i0
    rw [← hts] at hsn
    have ho := (stat_ok (L := L.take i) (fun x hx => hok x (List.mem_of_mem_take hx)) i0).up (n := 60) (by rw [List.length_take]; omega)
    generalize hS : stat (L.take i) i0 = S at *
    obtain ⟨o1, o2, o3, o4, o5, o6, o7, o8⟩ := ho
    have l13 := loadH_le le3 l1
    conv => whnf
    first | refine need_intro (⟨by omega, by omega⟩) ?_ | refine must.mk (⟨by omega, by omega⟩) ?_
    conv => whnf
    refine ⟨_, l13, ?_⟩
    conv => whnf
    refine new_intro (o := _) (fun bE h4 n_bE le_bE at_bE ot_bE => ?_)
    conv => whnf
    refine wr_intro (by exact storeA0 (z := .agg e.cs.toArray) sizEv at_bE rfl (ev_len e) (ev_one e)) (fun h5 at_h5 ot_h5 => ?_)
    try (conv => whnf)
    have le5 := Hp.le_st n_bE le_bE ot_h5
    have hob_ : ∃ kk : Hp, h.le kk ∧ kk b5 = some (rowO 29 (scs S.gs S.waits S.longest 0)) ∧ kk bE = some (rowO 53 e.cs) ∧ Owns kk h5 23 1 sl S.lines.length (S.lines.map uv) := by
      have hn := hO3.new n_bE le5 at_h5
      have h5b := hO3.le _ _ (Hp.set_same _ _ _)
      refine ⟨_, Hp.le_keep (Hp.le_set' n_b5) (Hp.none_le le3 n_bE), ?_, Hp.set_same _ _ _, hn⟩
      rw [Hp.set_other _ _ (Hp.ne n_bE h5b), Hp.set_same]
    obtain ⟨kk, lk, kS, kE, hO5⟩ := hob_
    have hne : bE ≠ b5 := fun hh => by
      rw [hh, kS] at kE
      exact absurd (rowO_el (Option.some.inj kE)) (by decide)
    have e5 := hO5.le _ _ kE
    conv => whnf
    refine ⟨_, loadC (i := 0) aggI6 e5 rfl, ?_⟩
    conv => whnf
    refine bsel_intro (fun q2 => ?_) (fun q2 => ?_) <;> try simp only [decide_eq_true_eq, decide_eq_false_iff_not, beq_iff_eq, beq_eq_false_iff_ne, ne_eq, Bool.not_eq_true', Bool.not_eq_false', bne_iff_ne, bne_eq_false_iff_eq, Bool.not_eq_true, Bool.not_eq_false, Bool.and_eq_true, Bool.or_eq_true, bs_size] at q2
    · rw [if_neg (show ¬ e.hart = i0 from q2)] at hsn
      conv => whnf
      first | refine ov_i64 (by omega) ?_ | refine ov_u64 (by omega) ?_ | refine ov_i64 (by decide) ?_ | refine ov_u64 (by decide) ?_ | refine ov_u8 (by omega) ?_ | refine ov_i32 (by omega) ?_ | refine ov_u32 (by omega) ?_
      conv => whnf
      refine ⟨L.length - (i + 1), by omega, rfl, i + 1, sl, by omega, rfl, rfl, ?_, ?_⟩
      · rw [hsn]; exact hst
      · rw [hsn]; exact hO5.weak (Hp.set_le lk kS)
    rw [if_pos (show e.hart = i0 by simpa using q2)] at hsn
    have hgb := groupN_b e.ask.kind
    conv => whnf
    refine ⟨_, loadCA (k := 1) rfl aggKi e5 rfl, ?_⟩
    conv => whnf
    refine rgroup_x e.ask.kind ?_
    conv => whnf
    have hgn : (groupN e.ask.kind).toNat < 6 := by omega
    have hgx := getD_get (gs := S.gs) (g := (groupN e.ask.kind).toNat) (by rw [o1]; exact hgn)
    have hgv := o2 _ (List.mem_of_getElem? hgx)
    have hstep : stepS S e = ⟨S.gs.set (groupN e.ask.kind).toNat (S.gs.getD (groupN e.ask.kind).toNat 0 + 1), if tmB e then S.waits + (e.at_ - e.from_) else S.waits, if tmB e then max S.longest (e.to - e.from_ + 1) else S.longest, (linesA e.ask).foldl (fun a n => ins n a) S.lines⟩ := rfl
    have htm : tmB e = (decide (1 ≤ groupN e.ask.kind ∧ groupN e.ask.kind ≤ 3) && timedB e) := rfl
    generalize S.gs.getD (groupN e.ask.kind).toNat 0 = gv at *
    generalize hgg : groupN e.ask.kind = g at *
    have s5 := hO5.le _ _ kS
    have az : ((⟨b5, 0, none⟩ : Addr).add 0).add (g.toNat * 1) = ⟨b5, g.toNat, none⟩ := by rw [addr_add, addr_add]; simp
    conv => whnf
    first | refine need_intro (⟨by omega, by omega⟩) ?_ | refine must.mk (⟨by omega, by omega⟩) ?_
    conv => whnf
    refine ⟨_, loadCA az aggI6 s5 (scs_get hgx), ?_⟩
    conv => whnf
    first | refine ov_i64 (by omega) ?_ | refine ov_u64 (by omega) ?_ | refine ov_i64 (by decide) ?_ | refine ov_u64 (by decide) ?_ | refine ov_u8 (by omega) ?_ | refine ov_i32 (by omega) ?_ | refine ov_u32 (by omega) ?_
    conv => whnf
    first | refine need_intro (⟨by omega, by omega⟩) ?_ | refine must.mk (⟨by omega, by omega⟩) ?_
    conv => whnf
    refine wr_intro (by exact storeCA az sizI6 s5 (by rw [scs_len o1]; omega) (scs_set o1 hgn (gv + 1)) rfl rfl) (fun h6 at_h6 ot_h6 => ?_)
    try (conv => whnf)
    have hob_ : ∃ kk : Hp, h.le kk ∧ kk b5 = some (rowO 29 (scs (S.gs.set g.toNat (gv + 1)) S.waits S.longest 0)) ∧ kk bE = some (rowO 53 e.cs) ∧ Owns kk h6 23 1 sl S.lines.length (S.lines.map uv) :=
      ⟨_, Hp.le_keep lk n_b5, Hp.set_same _ _ _, by rw [Hp.set_other _ _ hne]; exact kE, hO5.put kS at_h6 ot_h6⟩
    clear lk kS kE hO5 e5 s5
    obtain ⟨kk, lk, kS, kE, hO6⟩ := hob_
    have e6 := hO6.le _ _ kE
    have o1' : (S.gs.set g.toNat (gv + 1)).length = 6 := by rw [List.length_set, o1]
    generalize S.gs.set g.toNat (gv + 1) = gs' at *
    conv => whnf
    refine ⟨_, loadP (k := 1) (x := e.ask.cs) aggAk sizAk e6 rfl rfl, ?_⟩
    conv => whnf
    refine rlines_x e.ask heo.ask fun sx h7 hOx => ?_
    have hLl := linesA_len e.ask heo.ask
    have hob_ := hO6.also aggU hOx
    obtain ⟨kk7, l7, hO7, rx⟩ := hob_
    have lk7 := Hp.le_trans lk l7
    have kS7 := l7 _ _ kS
    have kE7 := l7 _ _ kE
    clear lk kS kE hO6 e6 hOx l7
    obtain ⟨bx, cx, rfl, fx⟩ := rdU rx
    conv => whnf
    refine loop_at [11, 6] [4] (fun r vs cs h' => cs = [some (scs [0, 0, 0, 0, 0, 0] 0 0 0)] ∧ ∃ (j : Nat) (sl : Value), j ≤ (linesA e.ask).length ∧ r = (linesA e.ask).length - j ∧ vs = [.v (.int .i64 j), .v sl] ∧ (sl = .slice none 0 0 ∧ ((linesA e.ask).take j).foldl (fun a n => ins n a) S.lines = [] ∨ ((linesA e.ask).take j).foldl (fun a n => ins n a) S.lines ≠ []) ∧ Owns kk7 h' 23 1 sl (((linesA e.ask).take j).foldl (fun a n => ins n a) S.lines).length ((((linesA e.ask).take j).foldl (fun a n => ins n a) S.lines).map uv)) (linesA e.ask).length ⟨rfl, 0, sl, by omega, by omega, rfl, hst, hO7⟩ ?_
    clear hO7 hst
    rintro r vs cs mm bx2 h8 ⟨rfl, j, sl, hj, rfl, rfl, hst8, hO8⟩
    conv => whnf
    refine bsel_intro (fun q3 => ?_) (fun q3 => ?_) <;> try simp only [decide_eq_true_eq, decide_eq_false_iff_not, beq_iff_eq, beq_eq_false_iff_ne, ne_eq, Bool.not_eq_true', Bool.not_eq_false', bne_iff_ne, bne_eq_false_iff_eq, Bool.not_eq_true, Bool.not_eq_false, Bool.and_eq_true, Bool.or_eq_true, bs_size] at q3
    · have hjL : j < (linesA e.ask).length := by omega
      obtain ⟨n, hn⟩ : ∃ n, (linesA e.ask)[j]? = some n := ⟨_, List.getElem?_eq_getElem hjL⟩
      obtain ⟨a2, rfl, l2⟩ := fx j n hn
      have hts2 := take_snoc hn
      have hfl : ((linesA e.ask).take (j + 1)).foldl (fun a n => ins n a) S.lines = ins n (((linesA e.ask).take j).foldl (fun a n => ins n a) S.lines) := by rw [hts2, List.foldl_append]; rfl
      have hrise := (foldl_ins ((linesA e.ask).take j) S.lines o8).1
      have hlen := foldl_ins_len ((linesA e.ask).take j) S.lines
      have hlt : ((linesA e.ask).take j).length ≤ 8 := Nat.le_trans (by rw [List.length_take]; omega) hLl
      generalize ((linesA e.ask).take j).foldl (fun a n => ins n a) S.lines = D at *
      have l28 := loadH_le hO8.le l2
      conv => whnf
      first | refine need_intro (⟨by omega, by omega⟩) ?_ | refine must.mk (⟨by omega, by omega⟩) ?_
      conv => whnf
      refine ⟨_, l28, ?_⟩
      conv => whnf
      refine put_xU sl D n hrise hO8 (by omega) hst8 fun s9 h9 hO9 => ?_
      conv => whnf
      first | refine ov_i64 (by omega) ?_ | refine ov_u64 (by omega) ?_ | refine ov_i64 (by decide) ?_ | refine ov_u64 (by decide) ?_ | refine ov_u8 (by omega) ?_ | refine ov_i32 (by omega) ?_ | refine ov_u32 (by omega) ?_
      conv => whnf
      refine ⟨(linesA e.ask).length - (j + 1), by omega, rfl, j + 1, s9, by omega, rfl, rfl, ?_, ?_⟩
      · rw [hfl]
        exact .inr fun hh => by
          have : n ∈ ins n D := mem_ins.2 (.inl rfl)
          rw [hh] at this; cases this
      · rw [hfl]; exact hO9
    have hjn : j = (linesA e.ask).length := by omega
    subst hjn
    rw [List.take_length] at hO8 hst8
    generalize (linesA e.ask).foldl (fun a n => ins n a) S.lines = D at *
    have e8 := hO8.le _ _ kE7
    have hdone : ∀ (h' : Hp), Owns (h.set b5 (rowO 29 (scs (stepS S e).gs (stepS S e).waits (stepS S e).longest 0))) h' 23 1 sl (stepS S e).lines.length ((stepS S e).lines.map uv) → (sl = .slice none 0 0 ∧ (stat (L.take (i + 1)) i0).lines = [] ∨ (stat (L.take (i + 1)) i0).lines ≠ []) ∧ Owns (h.set b5 (rowO 29 (scs (stat (L.take (i + 1)) i0).gs (stat (L.take (i + 1)) i0).waits (stat (L.take (i + 1)) i0).longest 0))) h' 23 1 sl (stat (L.take (i + 1)) i0).lines.length ((stat (L.take (i + 1)) i0).lines.map uv) := fun h' hh => by
      rw [hsn]
      refine ⟨?_, hh⟩
      rw [hstep]; exact hst8
    conv => whnf
    refine bsel_intro (fun q4 => ?_) (fun q4 => ?_) <;> try simp only [decide_eq_true_eq, decide_eq_false_iff_not, beq_iff_eq, beq_eq_false_iff_ne, ne_eq, Bool.not_eq_true', Bool.not_eq_false', bne_iff_ne, bne_eq_false_iff_eq, Bool.not_eq_true, Bool.not_eq_false, Bool.and_eq_true, Bool.or_eq_true, bs_size] at q4
    · conv => whnf
      refine bsel_intro (fun q5 => ?_) (fun q5 => ?_) <;> try simp only [decide_eq_true_eq, decide_eq_false_iff_not, beq_iff_eq, beq_eq_false_iff_ne, ne_eq, Bool.not_eq_true', Bool.not_eq_false', bne_iff_ne, bne_eq_false_iff_eq, Bool.not_eq_true, Bool.not_eq_false, Bool.and_eq_true, Bool.or_eq_true, bs_size] at q5
      · conv => whnf
        refine ⟨_, loadA0 aggEv sizEv e8 (ev_len e), ?_⟩
        conv => whnf
        refine rtimed_x e ?_
        conv => whnf
        refine bsel_intro (fun q6 => ?_) (fun q6 => ?_)
        · have ht := (timedB_iff e).1 q6
          have htt : tmB e = true := by rw [htm, q6, Bool.and_true]; simp; omega
          rw [htt] at hstep
          simp only [if_true] at hstep
          have s8 := hO8.le _ _ kS7
          conv => whnf
          refine ⟨_, loadCA (k := 6) rfl aggI6 s8 (scs_w o1'), ?_⟩
          conv => whnf
          refine ⟨_, loadC (i := 63) aggI6 e8 rfl, ?_⟩
          conv => whnf
          first | refine ov_i64 (by omega) ?_ | refine ov_u64 (by omega) ?_ | refine ov_i64 (by decide) ?_ | refine ov_u64 (by decide) ?_ | refine ov_u8 (by omega) ?_ | refine ov_i32 (by omega) ?_ | refine ov_u32 (by omega) ?_
          conv => whnf
          refine ⟨_, loadC (i := 62) aggI6 e8 rfl, ?_⟩
          conv => whnf
          first | refine ov_i64 (by omega) ?_ | refine ov_u64 (by omega) ?_ | refine ov_i64 (by decide) ?_ | refine ov_u64 (by decide) ?_ | refine ov_u8 (by omega) ?_ | refine ov_i32 (by omega) ?_ | refine ov_u32 (by omega) ?_
          conv => whnf
          refine wr_intro (by exact storeCA (k := 6) rfl sizI6 s8 (by rw [scs_len o1']; omega) (scs_setw o1' _) rfl rfl) (fun h9 at_h9 ot_h9 => ?_)
          try (conv => whnf)
          have hO9 := hO8.put kS7 at_h9 ot_h9
          have kE9 : (kk7.set b5 (rowO 29 (scs gs' (S.waits + e.at_ - e.from_) S.longest 0))) bE = some (rowO 53 e.cs) := by rw [Hp.set_other _ _ hne]; exact kE7
          have e9 := hO9.le _ _ kE9
          have s9 := hO9.le _ _ (Hp.set_same _ _ _)
          conv => whnf
          refine ⟨_, loadC (i := 64) aggI6 e9 rfl, ?_⟩
          conv => whnf
          refine ⟨_, loadC (i := 62) aggI6 e9 rfl, ?_⟩
          conv => whnf
          first | refine ov_i64 (by omega) ?_ | refine ov_u64 (by omega) ?_ | refine ov_i64 (by decide) ?_ | refine ov_u64 (by decide) ?_ | refine ov_u8 (by omega) ?_ | refine ov_i32 (by omega) ?_ | refine ov_u32 (by omega) ?_
          conv => whnf
          first | refine ov_i64 (by omega) ?_ | refine ov_u64 (by omega) ?_ | refine ov_i64 (by decide) ?_ | refine ov_u64 (by decide) ?_ | refine ov_u8 (by omega) ?_ | refine ov_i32 (by omega) ?_ | refine ov_u32 (by omega) ?_
          conv => whnf
          refine ⟨_, loadCA (k := 7) rfl aggI6 s9 (scs_l o1'), ?_⟩
          conv => whnf
          refine bsel_intro (fun q7 => ?_) (fun q7 => ?_) <;> try simp only [decide_eq_true_eq, decide_eq_false_iff_not, beq_iff_eq, beq_eq_false_iff_ne, ne_eq, Bool.not_eq_true', Bool.not_eq_false', bne_iff_ne, bne_eq_false_iff_eq, Bool.not_eq_true, Bool.not_eq_false, Bool.and_eq_true, Bool.or_eq_true, bs_size] at q7
          · rw [show max S.longest (e.to - e.from_ + 1) = e.to - e.from_ + 1 by omega, show S.waits + (e.at_ - e.from_) = S.waits + e.at_ - e.from_ by omega] at hstep
            rw [hstep] at hdone
            conv => whnf
            refine ⟨_, loadC (i := 64) aggI6 e9 rfl, ?_⟩
            conv => whnf
            refine ⟨_, loadC (i := 62) aggI6 e9 rfl, ?_⟩
            conv => whnf
            first | refine ov_i64 (by omega) ?_ | refine ov_u64 (by omega) ?_ | refine ov_i64 (by decide) ?_ | refine ov_u64 (by decide) ?_ | refine ov_u8 (by omega) ?_ | refine ov_i32 (by omega) ?_ | refine ov_u32 (by omega) ?_
            conv => whnf
            first | refine ov_i64 (by omega) ?_ | refine ov_u64 (by omega) ?_ | refine ov_i64 (by decide) ?_ | refine ov_u64 (by decide) ?_ | refine ov_u8 (by omega) ?_ | refine ov_i32 (by omega) ?_ | refine ov_u32 (by omega) ?_
            conv => whnf
            refine wr_intro (by exact storeCA (k := 7) rfl sizI6 s9 (by rw [scs_len o1']; omega) (scs_setl o1' _) rfl rfl) (fun h10 at_h10 ot_h10 => ?_)
            try (conv => whnf)
            have hO10 := hO9.put (Hp.set_same _ _ _) at_h10 ot_h10
            conv => whnf
            first | refine ov_i64 (by omega) ?_ | refine ov_u64 (by omega) ?_ | refine ov_i64 (by decide) ?_ | refine ov_u64 (by decide) ?_ | refine ov_u8 (by omega) ?_ | refine ov_i32 (by omega) ?_ | refine ov_u32 (by omega) ?_
            conv => whnf
            refine ⟨L.length - (i + 1), by omega, rfl, i + 1, sl, by omega, rfl, rfl, hdone _ (hO10.weak (Hp.set_le (Hp.le_keep (Hp.le_keep lk7 n_b5) n_b5) (Hp.set_same _ _ _)))⟩
          · rw [show max S.longest (e.to - e.from_ + 1) = S.longest by omega, show S.waits + (e.at_ - e.from_) = S.waits + e.at_ - e.from_ by omega] at hstep
            rw [hstep] at hdone
            conv => whnf
            first | refine ov_i64 (by omega) ?_ | refine ov_u64 (by omega) ?_ | refine ov_i64 (by decide) ?_ | refine ov_u64 (by decide) ?_ | refine ov_u8 (by omega) ?_ | refine ov_i32 (by omega) ?_ | refine ov_u32 (by omega) ?_
            conv => whnf
            refine ⟨L.length - (i + 1), by omega, rfl, i + 1, sl, by omega, rfl, rfl, hdone _ (hO9.weak (Hp.set_le (Hp.le_keep lk7 n_b5) (Hp.set_same _ _ _)))⟩
        · have htf : tmB e = false := by rw [htm, q6, Bool.and_false]
          rw [htf] at hstep
          simp only [Bool.false_eq_true, if_false] at hstep
          rw [hstep] at hdone
          conv => whnf
          first | refine ov_i64 (by omega) ?_ | refine ov_u64 (by omega) ?_ | refine ov_i64 (by decide) ?_ | refine ov_u64 (by decide) ?_ | refine ov_u8 (by omega) ?_ | refine ov_i32 (by omega) ?_ | refine ov_u32 (by omega) ?_
          conv => whnf
          refine ⟨L.length - (i + 1), by omega, rfl, i + 1, sl, by omega, rfl, rfl, hdone _ (hO8.weak (Hp.set_le lk7 kS7))⟩
      · have htf : tmB e = false := by rw [htm, decide_eq_false (by omega)]; rfl
        rw [htf] at hstep
        simp only [Bool.false_eq_true, if_false] at hstep
        rw [hstep] at hdone
        conv => whnf
        first | refine ov_i64 (by omega) ?_ | refine ov_u64 (by omega) ?_ | refine ov_i64 (by decide) ?_ | refine ov_u64 (by decide) ?_ | refine ov_u8 (by omega) ?_ | refine ov_i32 (by omega) ?_ | refine ov_u32 (by omega) ?_
        conv => whnf
        refine ⟨L.length - (i + 1), by omega, rfl, i + 1, sl, by omega, rfl, rfl, hdone _ (hO8.weak (Hp.set_le lk7 kS7))⟩
    · have htf : tmB e = false := by rw [htm, decide_eq_false (by omega)]; rfl
      rw [htf] at hstep
      simp only [Bool.false_eq_true, if_false] at hstep
      rw [hstep] at hdone
      conv => whnf
      first | refine ov_i64 (by omega) ?_ | refine ov_u64 (by omega) ?_ | refine ov_i64 (by decide) ?_ | refine ov_u64 (by decide) ?_ | refine ov_u8 (by omega) ?_ | refine ov_i32 (by omega) ?_ | refine ov_u32 (by omega) ?_
      conv => whnf
      refine ⟨L.length - (i + 1), by omega, rfl, i + 1, sl, by omega, rfl, rfl, hdone _ (hO8.weak (Hp.set_le lk7 kS7))⟩
  have hin : i = L.length := by omega
  subst hin
  rw [List.take_length] at hO3
  have ho := stat_ok hok i0
  obtain ⟨o1, o2, o3, o4, o5, o6, o7, o8⟩ := ho
  generalize stat L i0 = S at *
  have s3 := hO3.le _ _ (Hp.set_same _ _ _)
  obtain ⟨sa, sc, rfl⟩ := hO3.shape
  conv => whnf
  refine wr_intro (by exact storeCA (k := 8) rfl sizI6 s3 (by rw [scs_len o1]; omega) (scs_setn o1 _) rfl rfl) (fun h4 at_h4 ot_h4 => ?_)
  try (conv => whnf)
  have le4 : h.le h4 := Hp.le_st n_b5 le3 ot_h4
  conv => whnf
  obtain ⟨a0, a1, a2, a3, a4, a5, hgs⟩ := six o1
  rw [hgs] at at_h4 hk
  have ld4 := loadA0 aggSd sizSd at_h4 rfl
  refine ⟨_, ld4, ?_⟩
  conv => whnf
  exact ⟨h, le4, hk⟩
end
end Go.Proofs.YtcmhfofmloiaiaaGreatDoor
/-! What harts did: the program's. -/
namespace Go.Proofs.YtcmhfofmloiaiaaGreatDoor
set_option linter.unusedSimpArgs false
set_option linter.unusedVariables false
open Go Go.Mid Go.RowKit
attribute [local irreducible] mid
/-- A state's cells. -/
def Sd.cells (S : Sd) : List Value := if S.gs.length = 6 then scs S.gs S.waits S.longest S.lines.length else List.replicate 9 (zv 0)
theorem Sd.cells_len (S : Sd) : S.cells.length = 9 := by
  unfold Sd.cells
  split
  · rename_i h; exact scs_len h
  · simp
theorem Sd.cells_ok {S : Sd} (h : S.gs.length = 6) : S.cells = scs S.gs S.waits S.longest S.lines.length := by unfold Sd.cells; rw [if_pos h]
theorem row_get {Ls : List Sd} {j r : Nat} {S : Sd} (hj : Ls[j]? = some S) (hr : r < 9) : (Ls.flatMap Sd.cells)[j * 9 + r]? = S.cells[r]? := by
  have h1 := (flat_at Sd.cells_len Ls j S [] hj).1
  rw [List.append_nil] at h1
  rw [← h1, List.getElem?_take_of_lt hr, List.getElem?_drop]
theorem row_len (Ls : List Sd) : (Ls.flatMap Sd.cells).length = Ls.length * 9 := flat_length Sd.cells_len Ls
theorem row_set {Ls : List Sd} {j r : Nat} {S S' : Sd} {v : Value} (hj : Ls[j]? = some S) (hr : r < 9) (hS : S.cells.set r v = S'.cells) : (Ls.flatMap Sd.cells).set (j * 9 + r) v = (Ls.set j S').flatMap Sd.cells := by
  have hlt : j < Ls.length := (List.getElem?_eq_some_iff.1 hj).1
  obtain ⟨A, y, B, e1, e2, e3, e4⟩ := flat_split Sd.cells_len Ls j hlt S'
  obtain ⟨A2, y2, B2, f1, f2, f3, f4⟩ := flat_split Sd.cells_len Ls j hlt S
  have hself : Ls.set j S = Ls := by
    apply List.ext_getElem?
    intro i
    rw [List.getElem?_set]
    by_cases h1 : j = i
    · subst h1; rw [if_pos rfl, if_pos hlt, hj]
    · rw [if_neg h1]
  have hy : y = S.cells := by
    rw [hself, f1] at f4
    have hA : A = A2 ∧ y ++ B = y2 ++ B2 := List.append_inj (e1.symm.trans f1) (by rw [e2, f2])
    have hy2 := List.append_inj hA.2 (by rw [e3, f3])
    have h5 := List.append_inj f4 rfl
    have h6 := List.append_inj h5.2 (by rw [f3, Sd.cells_len])
    rw [hy2.1, h6.1]
  rw [e1, e4, hy, List.set_append_right _ _ (by omega), List.set_append_left _ _ (by have := Sd.cells_len S; omega)]
  rw [show j * 9 + r - A.length = r by omega, hS]
/-- What has been seen: the lines of each hart, and how often. -/
def Seen (f : Int × Nat → Option Value) (S : Nat → List Nat) (n : Nat) (M : Int) : Prop := ∀ (i x : Nat), i < n → (f ((i : Int), x) = none ∧ x ∉ S i) ∨ ∃ c : Int, f ((i : Int), x) = some (zv c) ∧ 1 ≤ c ∧ c ≤ M ∧ x ∈ S i
theorem Seen.up {f : Int × Nat → Option Value} {S S' : Nat → List Nat} {n : Nat} {M M' : Int} (s : Seen f S n M) (hM : M ≤ M') (hS : ∀ i, i < n → S' i = S i) : Seen f S' n M' := fun i x hi => by
  rw [hS i hi]
  rcases s i x hi with h | ⟨c, h1, h2, h3, h4⟩
  · exact .inl h
  · exact .inr ⟨c, h1, h2, by omega, h4⟩
theorem Seen.add {f : Int × Nat → Option Value} {S S' : Nat → List Nat} {n j x : Nat} {M c : Int} (s : Seen f S n M) (hc : 1 ≤ c ∧ c ≤ M + 1) (hS : ∀ i, i < n → ∀ y, y ∈ S' i ↔ (i = j ∧ y = x) ∨ y ∈ S i) : Seen (putF f ((j : Int), x) (some (zv c))) S' n (M + 1) := fun i y hi => by
  unfold putF
  by_cases h : ((i : Int), y) = ((j : Int), x)
  · rw [if_pos h]
    simp only [Prod.mk.injEq] at h
    exact .inr ⟨c, rfl, hc.1, hc.2, (hS i hi y).2 (.inl ⟨by omega, h.2⟩)⟩
  · rw [if_neg h]
    have hn : ¬ (i = j ∧ y = x) := fun hh => h (by rw [hh.1, hh.2])
    rcases s i y hi with ⟨h1, h2⟩ | ⟨c, h1, h2, h3, h4⟩
    · exact .inl ⟨h1, fun hh => ((hS i hi y).1 hh).elim hn h2⟩
    · exact .inr ⟨c, h1, h2, by omega, (hS i hi y).2 (.inr h4)⟩
theorem ins_len_new {n : Nat} : ∀ {l : List Nat}, n ∉ l → (ins n l).length = l.length + 1
  | [], _ => rfl
  | m :: l, h => by
    simp only [List.mem_cons, not_or] at h
    unfold ins
    split
    · simp only [List.length_cons]; rw [ins_len_new h.2]
    split
    · rename_i h1 h2; exact absurd h2.symm h.1
    · simp
theorem ins_mem {n : Nat} : ∀ {l : List Nat}, Rising l → n ∈ l → ins n l = l
  | [], _, h => by cases h
  | m :: l, hr, h => by
    have hr' := List.pairwise_cons.1 hr
    unfold ins
    split
    · rename_i h1
      rcases List.mem_cons.1 h with h2 | h2
      · omega
      · rw [ins_mem hr'.2 h2]
    split
    · rfl
    · rename_i h1 h2
      rcases List.mem_cons.1 h with h3 | h3
      · exact absurd h3.symm h2
      · have := hr'.1 n h3; omega
def tv (p : Int × Nat) : Value := .agg #[zv p.1, uv p.2]
section
set_option maxHeartbeats 8000000
set_option maxRecDepth 10000
variable {h : Hp} {K : Value → Hp → Prop}
theorem tvT : KeyT Tryz.prog 64 tv where
  under := Option.isSome_iff_exists.1 (by kernel_rfl)
  key := fun a => by kernel_rfl
  equal := fun a b => by
    obtain ⟨a1, a2⟩ := a
    obtain ⟨b1, b2⟩ := b
    have e : eqV Tryz.prog 10000 64 (tv (a1, a2)) (tv (b1, b2)) = some ((a1 == b1) && (((a2 : Int) == (b2 : Int)) && true)) := by kernel_rfl
    rw [e]
    congr 1
    rw [Bool.eq_iff_iff]
    simp
    omega
  same := fun a => by simp [tv, Instr.sameBits]
theorem mapT : Tryz.prog.underlying 58 = some (.map 64 3) := by kernel_rfl
theorem intZ : zeroT Tryz.prog 3 = some (zv 0) := by kernel_rfl
/-- A heap without two of its blocks. -/
def hide (h : Hp) (a b : Nat) : Hp := fun c => if c = a ∨ c = b then none else h c
theorem hide_le (h : Hp) (a b : Nat) : (hide h a b).le h := fun c o e => by
  unfold hide at e
  split at e
  · cases e
  · exact e
theorem hide_of {h : Hp} {a b c : Nat} (h1 : c ≠ a) (h2 : c ≠ b) : hide h a b c = h c := by
  unfold hide
  rw [if_neg (fun hh => hh.elim h1 h2)]
theorem le_hide {h h' : Hp} {a b : Nat} (hle : h.le h') (ha : h a = none) (hb : h b = none) : h.le (hide h' a b) := fun c o e => by
  rw [hide_of (Hp.ne ha e) (Hp.ne hb e)]; exact hle c o e
theorem hide_put {h h1 h2 : Hp} {a b x : Nat} (hle : (hide h a b).le h1) (hx : x = a ∨ x = b) (hot : ∀ c, c ≠ x → h2 c = h1 c) : (hide h a b).le h2 := fun c o e => by
  have hc : c ≠ x := fun hh => by
    unfold hide at e
    rw [if_pos (by rw [hh]; exact hx)] at e; cases e
  rw [hot c hc]; exact hle c o e
theorem rd_hide {P : Program} {t : TypeId} (ht : isAggT P t = some false) {h h' : Hp} {el2 m a b : Nat} {sx : Value} {cx : List Value} {oa ob : Obj} (x : Owns h h' el2 1 sx m cx) (ha : h a = some oa) (hb : h b = some ob) : Rd P t 1 (hide h' a b) sx cx := by
  obtain ⟨ob, ⟨h1, ⟨_, rfl, h0⟩ | ⟨c, cap, rest, e1, rfl, hcap, hrest, hc⟩⟩, _, hno⟩ := x
  · have : cx = [] := List.eq_nil_of_length_eq_zero (by omega)
    subst this
    exact Rd.nil
  · have hn := hno c e1
    refine ⟨_, cap, by rw [h1, Nat.mul_one], fun i v hv => ⟨_, rfl, ?_⟩⟩
    refine loadC1 (el := el2) (l := cx ++ rest) ht ?_ (by rw [List.getElem?_append_left (List.getElem?_eq_some_iff.1 hv).1]; exact hv)
    rw [hide_of (Ne.symm (Hp.ne hn ha)) (Ne.symm (Hp.ne hn hb))]; exact hc
/-- What lies in memory: the harts' cells, and what was seen. -/
def StatsAt (T : TypeId) (n bo bm : Nat) (h : Hp) (Ls : List Sd) (S : Nat → List Nat) (M : Int) : Prop := ∃ (g : Int × Nat → Option Value) (om : Obj) (nm : Nat), h bo = some (rowO T (Ls.flatMap Sd.cells)) ∧ h bm = some om ∧ MapB tv g nm om ∧ Seen g S n M
theorem zrow (n : Nat) (hn : n ≤ 8) : (zeroRow #[zv 0, zv 0, zv 0, zv 0, zv 0, zv 0, zv 0, zv 0, zv 0] (n * 9)).toList = (List.replicate n S0).flatMap Sd.cells := by
  match n, hn with
  | 0, _ => rfl
  | 1, _ => rfl
  | 2, _ => rfl
  | 3, _ => rfl
  | 4, _ => rfl
  | 5, _ => rfl
  | 6, _ => rfl
  | 7, _ => rfl
  | 8, _ => rfl
theorem stats_x (s : Value) (L : List Ev) (harts : Int) (hr : RdE h s L) (hok : ∀ e ∈ L, e.ok) (hL : L.length ≤ 60) (hh1 : -9223372036854775808 ≤ harts) (hh2 : harts ≤ 9223372036854775807)
    (hk0 : harts < 1 → K (.slice none 0 0) h)
    (hk : ∀ (n b : Nat) (Ls : List Sd) (h' : Hp), 1 ≤ harts → (n : Int) = min harts 8 → h.le h' → h' b = some (rowO 30 (Ls.flatMap Sd.cells)) → Ls.length = n → (∀ i, i < n → Ls[i]? = some (stat L i)) → K (.slice (some ⟨b, 0, none⟩) n n) h') : X Tryz.prog 5 #[s, .int .i64 harts] h K := by
  obtain ⟨base, cap, rfl, f⟩ := rdE_at2 hr
  refine fnp (args := _) mixed [(13, 13)] [] [79] [(999999, [69])] Tryz.func5 rfl (by kernel_rfl) ?_
  conv => whnf
  obtain ⟨hm, hhm⟩ : ∃ x, (if (8 : Int) < harts then (8 : Int) else harts) = x := ⟨_, rfl⟩
  rw [hhm]
  have hmin : hm = min harts 8 := by rw [← hhm]; split <;> omega
  clear hhm
  refine bsel_intro (fun q0 => ?_) (fun q0 => ?_) <;> try simp only [decide_eq_true_eq, decide_eq_false_iff_not, beq_iff_eq, beq_eq_false_iff_ne, ne_eq, Bool.not_eq_true', Bool.not_eq_false', bne_iff_ne, bne_eq_false_iff_eq, Bool.not_eq_true, Bool.not_eq_false, Bool.and_eq_true, Bool.or_eq_true, bs_size] at q0
  · conv => whnf
    exact hk0 (by omega)
  obtain ⟨n, rfl⟩ : ∃ n : Nat, hm = n := ⟨hm.toNat, by omega⟩
  have hn8 : n ≤ 8 := by omega
  have hn1 : 1 ≤ n := by omega
  conv => whnf
  refine aRunK_if rfl ?_ ?_
  · exact ⟨by omega, by omega, by omega, by show (72 : Int) * _ ≤ _; omega, by show 0 < 9; omega⟩
  refine new_intro (o := _) (fun bo h1 n_bo le_bo at_bo ot_bo => ?_)
  have at_bo : h1 bo = some (rowO 30 ((List.replicate n S0).flatMap Sd.cells)) := by
    rw [← zrow n hn8]
    exact at_bo
  conv => whnf
  refine new_intro (o := .map #[] 0) (fun bm h2 n_bm le_bm at_bm ot_bm => ?_)
  conv => whnf
  have b2 := le_bm _ _ at_bo
  have le2 := Hp.le_trans le_bo le_bm
  have dbm : bo ≠ bm := Hp.ne n_bm at_bo
  have n_bm0 : h bm = none := Hp.none_le le_bo n_bm
  have hst0 : StatsAt 30 n bo bm h2 (List.replicate n S0) (fun i => (stat (L.take 0) i).lines) ((0 : Nat) * 8) :=
    ⟨fun _ => none, _, 0, b2, at_bm, MapB.nil, fun i x _ => .inl ⟨rfl, by simp [stat]⟩⟩
  refine loop_at [23] [] (fun r vs cs h' => ∃ (m : Nat) (Ls : List Sd), m ≤ L.length ∧ r = L.length - m ∧ vs = [.v (.int .i64 m)] ∧ Ls.length = n ∧ (∀ i, i < n → Ls[i]? = some (stat (L.take m) i)) ∧ StatsAt 30 n bo bm h' Ls (fun i => (stat (L.take m) i).lines) ((m : Nat) * 8) ∧ h.le h') L.length ⟨0, List.replicate n S0, by omega, by omega, rfl, by simp, fun i hi => by simp [hi]; rfl, hst0, le2⟩ ?_
  clear hst0 b2 at_bm le_bm ot_bm at_bo
  rintro r vs cs mm bx h3 ⟨m, Ls, hm, rfl, rfl, hLs, hLi, ⟨gm, om, nm, hbo, hbm, hM, hSeen⟩, le3⟩
  conv => whnf
  refine bsel_intro (fun q1 => ?_) (fun q1 => ?_) <;> try simp only [decide_eq_true_eq, decide_eq_false_iff_not, beq_iff_eq, beq_eq_false_iff_ne, ne_eq, Bool.not_eq_true', Bool.not_eq_false', bne_iff_ne, bne_eq_false_iff_eq, Bool.not_eq_true, Bool.not_eq_false, Bool.and_eq_true, Bool.or_eq_true, bs_size] at q1
  · have hmL : m < L.length := by omega
    obtain ⟨e, he⟩ : ∃ e, L[m]? = some e := ⟨_, List.getElem?_eq_getElem hmL⟩
    have heo := hok e (List.mem_of_getElem? he)
    obtain ⟨a, rfl, l1⟩ := f m e he
    have hts := take_snoc he
    have hsn := fun i => stat_snoc (L.take m) e i
    rw [← hts] at hsn
    have l13 := loadH_le le3 l1
    conv => whnf
    first | refine need_intro (⟨by omega, by omega⟩) ?_ | refine must.mk (⟨by omega, by omega⟩) ?_
    conv => whnf
    refine ⟨_, l13, ?_⟩
    conv => whnf
    refine new_intro (o := _) (fun bE h4 n_bE le_bE at_bE ot_bE => ?_)
    conv => whnf
    refine wr_intro (by exact storeA0 (z := .agg e.cs.toArray) sizEv at_bE rfl (ev_len e) (ev_one e)) (fun h5 at_h5 ot_h5 => ?_)
    try (conv => whnf)
    have le35 := Hp.le_st n_bE le_bE ot_h5
    have le5 := Hp.le_trans le3 le35
    have e5 : h5 bE = some (rowO 53 e.cs) := at_h5
    have o5 := le35 _ _ hbo
    have m5 := le35 _ _ hbm
    have dEo : bE ≠ bo := Ne.symm (Hp.ne n_bE hbo)
    have dEm : bE ≠ bm := Ne.symm (Hp.ne n_bE hbm)
    have n_bE0 : h bE = none := Hp.none_le le3 n_bE
    clear at_bE ot_bE le_bE ot_h5 at_h5 hbo hbm
    conv => whnf
    refine ⟨_, loadC (i := 0) aggI6 e5 rfl, ?_⟩
    conv => whnf
    refine bsel_intro (fun q2 => ?_) (fun q2 => ?_) <;> try simp only [decide_eq_true_eq, decide_eq_false_iff_not, beq_iff_eq, beq_eq_false_iff_ne, ne_eq, Bool.not_eq_true', Bool.not_eq_false', bne_iff_ne, bne_eq_false_iff_eq, Bool.not_eq_true, Bool.not_eq_false, Bool.and_eq_true, Bool.or_eq_true, bs_size] at q2
    · have hun : ∀ i : Nat, i < n → stat (L.take (m + 1)) i = stat (L.take m) i := fun i hi => by rw [hsn, if_neg (by omega)]
      conv => whnf
      first | refine ov_i64 (by omega) ?_ | refine ov_u64 (by omega) ?_ | refine ov_i64 (by decide) ?_ | refine ov_u64 (by decide) ?_ | refine ov_u8 (by omega) ?_ | refine ov_i32 (by omega) ?_ | refine ov_u32 (by omega) ?_
      conv => whnf
      exact ⟨L.length - (m + 1), by omega, m + 1, Ls, by omega, rfl, rfl, hLs, fun i hi => by rw [hun i hi]; exact hLi i hi, ⟨gm, om, nm, o5, m5, hM, hSeen.up (by omega) (fun i hi => by rw [hun i hi])⟩, le5⟩
    conv => whnf
    refine ⟨_, loadC (i := 0) aggI6 e5 rfl, ?_⟩
    conv => whnf
    refine bsel_intro (fun q3 => ?_) (fun q3 => ?_) <;> try simp only [decide_eq_true_eq, decide_eq_false_iff_not, beq_iff_eq, beq_eq_false_iff_ne, ne_eq, Bool.not_eq_true', Bool.not_eq_false', bne_iff_ne, bne_eq_false_iff_eq, Bool.not_eq_true, Bool.not_eq_false, Bool.and_eq_true, Bool.or_eq_true, bs_size] at q3
    · have hun : ∀ i : Nat, i < n → stat (L.take (m + 1)) i = stat (L.take m) i := fun i hi => by rw [hsn, if_neg (by omega)]
      conv => whnf
      first | refine ov_i64 (by omega) ?_ | refine ov_u64 (by omega) ?_ | refine ov_i64 (by decide) ?_ | refine ov_u64 (by decide) ?_ | refine ov_u8 (by omega) ?_ | refine ov_i32 (by omega) ?_ | refine ov_u32 (by omega) ?_
      conv => whnf
      exact ⟨L.length - (m + 1), by omega, m + 1, Ls, by omega, rfl, rfl, hLs, fun i hi => by rw [hun i hi]; exact hLi i hi, ⟨gm, om, nm, o5, m5, hM, hSeen.up (by omega) (fun i hi => by rw [hun i hi])⟩, le5⟩
    obtain ⟨j, hj⟩ : ∃ j : Nat, e.hart = j := ⟨e.hart.toNat, by omega⟩
    have hjn : j < n := by omega
    have hSj := hLi j hjn
    have ho := (stat_ok (L := L.take m) (fun x hx => hok x (List.mem_of_mem_take hx)) j).up (n := 60) (by rw [List.length_take]; omega)
    have hsj := hsn j
    rw [if_pos hj] at hsj
    generalize hS : stat (L.take m) j = S at *
    obtain ⟨o1, o2, o3, o4, o5', o6, o7, o8⟩ := ho
    have hstep : stepS S e = ⟨S.gs.set (groupN e.ask.kind).toNat (S.gs.getD (groupN e.ask.kind).toNat 0 + 1), if tmB e then S.waits + (e.at_ - e.from_) else S.waits, if tmB e then max S.longest (e.to - e.from_ + 1) else S.longest, (linesA e.ask).foldl (fun a n => ins n a) S.lines⟩ := rfl
    have htm : tmB e = (decide (1 ≤ groupN e.ask.kind ∧ groupN e.ask.kind ≤ 3) && timedB e) := rfl
    have hgb := groupN_b e.ask.kind
    have hgn : (groupN e.ask.kind).toNat < 6 := by omega
    have hgx := getD_get (gs := S.gs) (g := (groupN e.ask.kind).toNat) (by rw [o1]; exact hgn)
    have hgv := o2 _ (List.mem_of_getElem? hgx)
    generalize S.gs.getD (groupN e.ask.kind).toNat 0 = gv at *
    conv => whnf
    refine ⟨_, loadC (i := 0) aggI6 e5 rfl, ?_⟩
    conv => whnf
    first | refine need_intro (⟨by omega, by omega⟩) ?_ | refine must.mk (⟨by omega, by omega⟩) ?_
    conv => whnf
    refine ⟨_, loadCA (k := 1) rfl aggKi e5 rfl, ?_⟩
    conv => whnf
    refine group_x e.ask.kind ?_
    generalize hgg : groupN e.ask.kind = g at *
    have az : ((((⟨bo, 0, none⟩ : Addr).add (e.hart.toNat * 9)).add 0).add (g.toNat * 1)) = ⟨bo, j * 9 + g.toNat, none⟩ := by rw [hj]; simp [addr_add]
    have azk : ∀ k, (((⟨bo, 0, none⟩ : Addr).add (e.hart.toNat * 9)).add k) = ⟨bo, j * 9 + k, none⟩ := fun k => by rw [hj]; simp [addr_add]
    have azj : ∀ k, (((⟨bo, 0, none⟩ : Addr).add (((j : Nat) : Int).toNat * 9)).add k) = ⟨bo, j * 9 + k, none⟩ := fun k => by simp [addr_add]
    have hrl : j * 9 + 9 ≤ (Ls.flatMap Sd.cells).length := by rw [row_len]; omega
    have o1' : (S.gs.set g.toNat (gv + 1)).length = 6 := by rw [List.length_set, o1]
    have hset1 := row_set (v := zv (gv + 1)) hSj (show g.toNat < 9 by omega) (show S.cells.set g.toNat (zv (gv + 1)) = (Sd.mk (S.gs.set g.toNat (gv + 1)) S.waits S.longest S.lines).cells by rw [Sd.cells_ok o1, Sd.cells_ok o1', scs_set o1 hgn])
    have hget1 : (Ls.flatMap Sd.cells)[j * 9 + g.toNat]? = some (zv gv) := by rw [row_get hSj (by omega), Sd.cells_ok o1]; exact scs_get hgx
    generalize S.gs.set g.toNat (gv + 1) = gs' at *
    conv => whnf
    first | refine need_intro (⟨by omega, by omega⟩) ?_ | refine must.mk (⟨by omega, by omega⟩) ?_
    conv => whnf
    refine ⟨_, loadCA az aggI6 o5 hget1, ?_⟩
    conv => whnf
    first | refine ov_i64 (by omega) ?_ | refine ov_u64 (by omega) ?_ | refine ov_i64 (by decide) ?_ | refine ov_u64 (by decide) ?_ | refine ov_u8 (by omega) ?_ | refine ov_i32 (by omega) ?_ | refine ov_u32 (by omega) ?_
    conv => whnf
    first | refine need_intro (⟨by omega, by omega⟩) ?_ | refine must.mk (⟨by omega, by omega⟩) ?_
    conv => whnf
    refine wr_intro (by exact storeCA az sizI6 o5 (by omega) hset1 rfl rfl) (fun h6 at_h6 ot_h6 => ?_)
    try (conv => whnf)
    refine ⟨trivial, ?_⟩
    conv => whnf
    have o6b : h6 bo = some (rowO 30 ((Ls.set j ⟨gs', S.waits, S.longest, S.lines⟩).flatMap Sd.cells)) := at_h6
    have m6 := (ot_h6 bm (Ne.symm dbm)).trans m5
    have e6 := (ot_h6 bE dEo).trans e5
    have le6 : h.le h6 := Hp.le_st n_bo le5 ot_h6
    refine ⟨_, loadP (k := 1) (x := e.ask.cs) aggAk sizAk e6 rfl rfl, ?_⟩
    conv => whnf
    refine lines_xA e.ask heo.ask fun sx h7 hOx => ?_
    have hLl := linesA_len e.ask heo.ask
    have rx : RdU (hide h7 bo bm) sx (linesA e.ask) := rd_hide aggU hOx o6b m6
    have lk : h.le (hide h7 bo bm) := le_hide (Hp.le_trans le6 hOx.le) n_bo n_bm0
    have kE : (hide h7 bo bm) bE = some (rowO 53 e.cs) := (hide_of dEo dEm).trans (hOx.le _ _ e6)
    have kx7 := hide_le h7 bo bm
    have o7b := hOx.le _ _ o6b
    have m7 := hOx.le _ _ m6
    generalize hkx : hide h7 bo bm = kx at *
    have kput : ∀ (h1 h2 : Hp) (x : Nat), kx.le h1 → (x = bo ∨ x = bm) → (∀ c, c ≠ x → h2 c = h1 c) → kx.le h2 := fun h1 h2 x hl hx hot => by
      rw [← hkx] at hl ⊢; exact hide_put hl hx hot
    obtain ⟨bx, cx, rfl, fx⟩ := rdU rx
    have hS1j : (Ls.set j ⟨gs', S.waits, S.longest, S.lines⟩)[j]? = some ⟨gs', S.waits, S.longest, S.lines⟩ := by rw [List.getElem?_set]; simp; omega
    have hoth : ∀ (x : Sd) (i : Nat), i ≠ j → (Ls.set j x)[i]? = Ls[i]? := fun x i hi => by rw [List.getElem?_set_ne (Ne.symm hi)]
    have hSe0 : Seen gm (fun i => if i = j then S.lines else (stat (L.take m) i).lines) n ((m : Int) * 8 + (0 : Nat)) := hSeen.up (by omega) (fun i hi => by
      by_cases hij : i = j
      · rw [if_pos hij, hij, hS]
      · rw [if_neg hij])
    conv => whnf
    refine loop_at [58] [] (fun r vs cs h' => ∃ (k : Nat) (Ls2 : List Sd), k ≤ (linesA e.ask).length ∧ r = (linesA e.ask).length - k ∧ vs = [.v (.int .i64 k)] ∧ Ls2.length = n ∧ Ls2[j]? = some ⟨gs', S.waits, S.longest, ((linesA e.ask).take k).foldl (fun a n => ins n a) S.lines⟩ ∧ (∀ i, i ≠ j → Ls2[i]? = Ls[i]?) ∧ StatsAt 30 n bo bm h' Ls2 (fun i => if i = j then ((linesA e.ask).take k).foldl (fun a n => ins n a) S.lines else (stat (L.take m) i).lines) ((m : Int) * 8 + (k : Nat)) ∧ kx.le h') (linesA e.ask).length ⟨0, _, by omega, by omega, rfl, by rw [List.length_set]; exact hLs, hS1j, hoth _, ⟨gm, om, nm, o7b, m7, hM, hSe0⟩, kx7⟩ ?_
    clear hS1j hSe0 o7b m7 kx7 hset1 hget1 o6b m6 o5 m5 hM hSeen
    rintro r vs cs mm2 bx2 h8 ⟨k, Ls2, hk1, rfl, rfl, hLs2, hS2, hot2, ⟨g8, om8, nm8, o8b, m8, hM8, hSe8⟩, kx8⟩
    conv => whnf
    refine bsel_intro (fun q4 => ?_) (fun q4 => ?_) <;> try simp only [decide_eq_true_eq, decide_eq_false_iff_not, beq_iff_eq, beq_eq_false_iff_ne, ne_eq, Bool.not_eq_true', Bool.not_eq_false', bne_iff_ne, bne_eq_false_iff_eq, Bool.not_eq_true, Bool.not_eq_false, Bool.and_eq_true, Bool.or_eq_true, bs_size] at q4
    · have hkL : k < (linesA e.ask).length := by omega
      obtain ⟨x, hx⟩ : ∃ x, (linesA e.ask)[k]? = some x := ⟨_, List.getElem?_eq_getElem hkL⟩
      obtain ⟨a2, rfl, l2⟩ := fx k x hx
      have hts2 := take_snoc hx
      have hfl : ((linesA e.ask).take (k + 1)).foldl (fun a n => ins n a) S.lines = ins x (((linesA e.ask).take k).foldl (fun a n => ins n a) S.lines) := by rw [hts2, List.foldl_append]; rfl
      have hrise := (foldl_ins ((linesA e.ask).take k) S.lines o8).1
      have hDlen := foldl_ins_len ((linesA e.ask).take k) S.lines
      have hDlt : ((linesA e.ask).take k).length ≤ 8 := Nat.le_trans (by rw [List.length_take]; omega) hLl
      generalize ((linesA e.ask).take k).foldl (fun a n => ins n a) S.lines = D at *
      have e8 := kx8 _ _ kE
      have hob_ : ∃ c0 : Int, lookR false (g8 ((j : Int), x)) (zv 0) = zv c0 ∧ (g8 ((j : Int), x)).getD (zv 0) = zv c0 ∧ (c0 = 0 ∧ x ∉ D ∨ 1 ≤ c0 ∧ c0 ≤ (m : Int) * 8 + (k : Nat) ∧ x ∈ D) := by
        have := hSe8 j x hjn
        simp only [if_true] at this
        rcases this with ⟨h1, h2⟩ | ⟨c, h1, h2, h3, h4⟩
        · exact ⟨0, by rw [h1]; rfl, by rw [h1]; rfl, .inl ⟨rfl, h2⟩⟩
        · exact ⟨c, by rw [h1]; rfl, by rw [h1]; rfl, .inr ⟨h2, h3, h4⟩⟩
      obtain ⟨c0, hc1, hc2, hc3⟩ := hob_
      have look8 := MapB.look mapT intZ tvT m8 hM8 ((j : Int), x) false
      rw [hc1] at look8
      conv => whnf
      first | refine need_intro (⟨by omega, by omega⟩) ?_ | refine must.mk (⟨by omega, by omega⟩) ?_
      conv => whnf
      refine ⟨_, loadH_le kx8 l2, ?_⟩
      conv => whnf
      refine ⟨_, loadC (i := 0) aggI6 e8 rfl, ?_⟩
      conv => whnf
      rw [hj]
      conv => whnf
      refine ⟨_, look8, ?_⟩
      conv => whnf
      refine if_at [] [13] (fun vs cs h' => cs = [some [zv j, uv x]] ∧ kx.le h' ∧ h' bm = some om8 ∧ ∃ Ls3 : List Sd, Ls3.length = n ∧ Ls3[j]? = some ⟨gs', S.waits, S.longest, ins x D⟩ ∧ (∀ i, i ≠ j → Ls3[i]? = Ls[i]?) ∧ h' bo = some (rowO 30 (Ls3.flatMap Sd.cells))) (fun eq => ?_) (fun eq => ?_) (fun vs cs m3 bx3 h9 hI => ?_)
      · have hn0 : c0 = 0 := by simpa using eq
        have hxD : x ∉ D := hc3.elim (fun hh => hh.2) (fun hh => by omega)
        have hg8 : (Ls2.flatMap Sd.cells)[j * 9 + 8]? = some (zv D.length) := by rw [row_get hS2 (by omega), Sd.cells_ok o1']; exact scs_n o1'
        have hs8 := row_set (v := zv ((D.length : Int) + 1)) hS2 (show 8 < 9 by omega) (show (Sd.mk gs' S.waits S.longest D).cells.set 8 (zv ((D.length : Int) + 1)) = (Sd.mk gs' S.waits S.longest (ins x D)).cells by
          rw [Sd.cells_ok o1', Sd.cells_ok o1']
          show (scs gs' S.waits S.longest D.length).set 8 _ = scs gs' S.waits S.longest (ins x D).length
          rw [scs_setn o1', ins_len_new hxD]; rfl)
        have hrl2 : j * 9 + 9 ≤ (Ls2.flatMap Sd.cells).length := by rw [row_len]; omega
        conv => whnf
        refine ⟨_, loadCA (azj 8) aggI6 o8b hg8, ?_⟩
        conv => whnf
        first | refine ov_i64 (by omega) ?_ | refine ov_u64 (by omega) ?_ | refine ov_i64 (by decide) ?_ | refine ov_u64 (by decide) ?_ | refine ov_u8 (by omega) ?_ | refine ov_i32 (by omega) ?_ | refine ov_u32 (by omega) ?_
        conv => whnf
        refine wr_intro (by exact storeCA (azj 8) sizI6 o8b (by omega) hs8 rfl rfl) (fun h9 at_h9 ot_h9 => ?_)
        try (conv => whnf)
        exact ⟨rfl, kput _ _ bo kx8 (.inl rfl) ot_h9, (ot_h9 bm (Ne.symm dbm)).trans m8, _, by rw [List.length_set]; exact hLs2, by rw [List.getElem?_set]; simp; omega, fun i hi => by rw [List.getElem?_set_ne (Ne.symm hi)]; exact hot2 i hi, at_h9⟩
      · have hn0 : c0 ≠ 0 := by simpa using eq
        have hxD : x ∈ D := hc3.elim (fun hh => absurd hh.1 hn0) (fun hh => hh.2.2)
        conv => whnf
        exact ⟨rfl, kx8, m8, Ls2, hLs2, by rw [ins_mem hrise hxD]; exact hS2, hot2, o8b⟩
      obtain ⟨rfl, kx9, m9, Ls3, hLs3, hS3, hot3, o9b⟩ := hI
      have hcb : 0 ≤ c0 ∧ c0 ≤ (m : Int) * 8 + (k : Nat) := hc3.elim (fun hh => by omega) (fun hh => by omega)
      have look9 := MapB.look mapT intZ tvT m9 hM8 ((j : Int), x) false
      rw [hc1] at look9
      have hob_ := MapB.ent mapT intZ tvT m9 hM8 ((j : Int), x)
      obtain ⟨st, om10, hent, hM10, hput⟩ := hob_
      rw [hc2] at hent hM10
      refine ⟨fun h' => lookH Tryz.prog 58 h' (.map (some bm)) (tv ((j : Int), x)) false = some (zv c0), look9, ?_⟩
      conv => whnf
      refine ⟨_, fun _ hh => hh, ?_⟩
      conv => whnf
      first | refine ov_i64 (by omega) ?_ | refine ov_u64 (by omega) ?_ | refine ov_i64 (by decide) ?_ | refine ov_u64 (by decide) ?_ | refine ov_u8 (by omega) ?_ | refine ov_i32 (by omega) ?_ | refine ov_u32 (by omega) ?_
      conv => whnf
      refine io_intro (by exact hent) (fun h10 at_h10 ot_h10 => ?_)
      try (conv => whnf)
      refine ⟨?_, ?_⟩
      · have := MapB.look mapT intZ tvT at_h10 hM10 ((j : Int), x) false
        show lookH Tryz.prog 58 h10 (.map (some bm)) (tv ((j : Int), x)) false = some (zv c0)
        rw [this]
        unfold putF
        rw [if_pos rfl]
        rfl
      conv => whnf
      have hob_ := hput (zv (c0 + 1)) h10 at_h10
      obtain ⟨om11, hst11, hM11⟩ := hob_
      refine wr_intro (by exact hst11) (fun h11 at_h11 ot_h11 => ?_)
      try (conv => whnf)
      conv => whnf
      first | refine ov_i64 (by omega) ?_ | refine ov_u64 (by omega) ?_ | refine ov_i64 (by decide) ?_ | refine ov_u64 (by decide) ?_ | refine ov_u8 (by omega) ?_ | refine ov_i32 (by omega) ?_ | refine ov_u32 (by omega) ?_
      conv => whnf
      have hSe11 : Seen (putF g8 ((j : Int), x) (some (zv (c0 + 1)))) (fun i => if i = j then ins x D else (stat (L.take m) i).lines) n ((m : Int) * 8 + ((k + 1 : Nat) : Int)) := by
        have := hSe8.add (j := j) (x := x) (c := c0 + 1) (S' := fun i => if i = j then ins x D else (stat (L.take m) i).lines) (by omega) (fun i hi y => by
          by_cases hij : i = j
          · simp only [hij, if_true, true_and]; exact mem_ins
          · simp only [hij, if_false, false_and, false_or])
        rw [show (m : Int) * 8 + ((k + 1 : Nat) : Int) = (m : Int) * 8 + (k : Int) + 1 by omega]
        exact this
      have kx11 := kput _ _ bm (kput _ _ bm kx9 (.inr rfl) ot_h10) (.inr rfl) ot_h11
      have o11 : h11 bo = some (rowO 30 (Ls3.flatMap Sd.cells)) := (ot_h11 bo dbm).trans ((ot_h10 bo dbm).trans o9b)
      exact ⟨(linesA e.ask).length - (k + 1), by omega, k + 1, Ls3, by omega, rfl, rfl, hLs3, by rw [hfl]; exact hS3, hot3, ⟨_, om11, _, o11, at_h11, hM11, by rw [hfl]; exact hSe11⟩, kx11⟩
    have hkn : k = (linesA e.ask).length := by omega
    subst hkn
    rw [List.take_length] at hS2 hSe8
    generalize (linesA e.ask).foldl (fun a n => ins n a) S.lines = D at *
    have e8 := kx8 _ _ kE
    have hdone : ∀ (h' : Hp) (Ls4 : List Sd), Ls4.length = n → Ls4[j]? = some (stepS S e) → (∀ i, i ≠ j → Ls4[i]? = Ls[i]?) → h' bo = some (rowO 30 (Ls4.flatMap Sd.cells)) → h' bm = some om8 → kx.le h' → Ls4.length = n ∧ (∀ i, i < n → Ls4[i]? = some (stat (L.take (m + 1)) i)) ∧ StatsAt 30 n bo bm h' Ls4 (fun i => (stat (L.take (m + 1)) i).lines) (((m + 1 : Nat) : Int) * 8) ∧ h.le h' := fun h' Ls4 a1 a2 a3 a4 a5 a6 => by
      refine ⟨a1, fun i hi => ?_, ⟨g8, om8, nm8, a4, a5, hM8, ?_⟩, Hp.le_trans lk a6⟩
      · by_cases hij : i = j
        · rw [hij, a2, hsj]
        · rw [a3 i hij, hLi i hi, hsn, if_neg (by omega)]
      · refine hSe8.up (by omega) fun i hi => ?_
        by_cases hij : i = j
        · rw [if_pos hij, hij, hsj, hstep]
        · rw [if_neg hij, hsn, if_neg (by omega)]
    conv => whnf
    refine bsel_intro (fun q5 => ?_) (fun q5 => ?_) <;> try simp only [decide_eq_true_eq, decide_eq_false_iff_not, beq_iff_eq, beq_eq_false_iff_ne, ne_eq, Bool.not_eq_true', Bool.not_eq_false', bne_iff_ne, bne_eq_false_iff_eq, Bool.not_eq_true, Bool.not_eq_false, Bool.and_eq_true, Bool.or_eq_true, bs_size] at q5
    · conv => whnf
      refine bsel_intro (fun q6 => ?_) (fun q6 => ?_) <;> try simp only [decide_eq_true_eq, decide_eq_false_iff_not, beq_iff_eq, beq_eq_false_iff_ne, ne_eq, Bool.not_eq_true', Bool.not_eq_false', bne_iff_ne, bne_eq_false_iff_eq, Bool.not_eq_true, Bool.not_eq_false, Bool.and_eq_true, Bool.or_eq_true, bs_size] at q6
      · conv => whnf
        refine ⟨_, loadA0 aggEv sizEv e8 (ev_len e), ?_⟩
        conv => whnf
        refine timed_x e ?_
        conv => whnf
        refine bsel_intro (fun q7 => ?_) (fun q7 => ?_)
        · have ht := (timedB_iff e).1 q7
          have htt : tmB e = true := by rw [htm, q7, Bool.and_true]; simp; omega
          rw [htt] at hstep
          simp only [if_true] at hstep
          have hrl2 : j * 9 + 9 ≤ (Ls2.flatMap Sd.cells).length := by rw [row_len]; omega
          have hg6 : (Ls2.flatMap Sd.cells)[j * 9 + 6]? = some (zv S.waits) := by rw [row_get hS2 (by omega), Sd.cells_ok o1']; exact scs_w o1'
          have hs6 := row_set (v := zv (S.waits + (e.at_ - e.from_))) hS2 (show 6 < 9 by omega) (show (Sd.mk gs' S.waits S.longest D).cells.set 6 (zv (S.waits + (e.at_ - e.from_))) = (Sd.mk gs' (S.waits + (e.at_ - e.from_)) S.longest D).cells by
            rw [Sd.cells_ok o1', Sd.cells_ok o1']
            exact scs_setw o1' _)
          conv => whnf
          refine ⟨_, loadCA (azk 6) aggI6 o8b hg6, ?_⟩
          conv => whnf
          refine ⟨_, loadC (i := 63) aggI6 e8 rfl, ?_⟩
          conv => whnf
          refine ⟨_, loadC (i := 62) aggI6 e8 rfl, ?_⟩
          conv => whnf
          first | refine ov_i64 (by omega) ?_ | refine ov_u64 (by omega) ?_ | refine ov_i64 (by decide) ?_ | refine ov_u64 (by decide) ?_ | refine ov_u8 (by omega) ?_ | refine ov_i32 (by omega) ?_ | refine ov_u32 (by omega) ?_
          conv => whnf
          first | refine ov_i64 (by omega) ?_ | refine ov_u64 (by omega) ?_ | refine ov_i64 (by decide) ?_ | refine ov_u64 (by decide) ?_ | refine ov_u8 (by omega) ?_ | refine ov_i32 (by omega) ?_ | refine ov_u32 (by omega) ?_
          conv => whnf
          refine wr_intro (by exact storeCA (azk 6) sizI6 o8b (by omega) hs6 rfl rfl) (fun h9 at_h9 ot_h9 => ?_)
          try (conv => whnf)
          refine ⟨trivial, ?_⟩
          conv => whnf
          have e9 := (ot_h9 bE dEo).trans e8
          have hS9 : (Ls2.set j (Sd.mk gs' (S.waits + (e.at_ - e.from_)) S.longest D))[j]? = some (Sd.mk gs' (S.waits + (e.at_ - e.from_)) S.longest D) := by rw [List.getElem?_set]; simp; omega
          have hg7 : ((Ls2.set j (Sd.mk gs' (S.waits + (e.at_ - e.from_)) S.longest D)).flatMap Sd.cells)[j * 9 + 7]? = some (zv S.longest) := by rw [row_get hS9 (by omega), Sd.cells_ok o1']; exact scs_l o1'
          have hs7 := row_set (v := zv (max S.longest (e.to - e.from_ + 1))) hS9 (show 7 < 9 by omega) (show (Sd.mk gs' (S.waits + (e.at_ - e.from_)) S.longest D).cells.set 7 (zv (max S.longest (e.to - e.from_ + 1))) = (Sd.mk gs' (S.waits + (e.at_ - e.from_)) (max S.longest (e.to - e.from_ + 1)) D).cells by
            rw [Sd.cells_ok o1', Sd.cells_ok o1']
            exact scs_setl o1' _)
          have hrl3 : j * 9 + 9 ≤ ((Ls2.set j (Sd.mk gs' (S.waits + (e.at_ - e.from_)) S.longest D)).flatMap Sd.cells).length := by rw [row_len, List.length_set]; omega
          refine ⟨_, loadCA (azk 7) aggI6 at_h9 hg7, ?_⟩
          conv => whnf
          refine ⟨_, loadC (i := 64) aggI6 e9 rfl, ?_⟩
          conv => whnf
          refine ⟨_, loadC (i := 62) aggI6 e9 rfl, ?_⟩
          conv => whnf
          first | refine ov_i64 (by omega) ?_ | refine ov_u64 (by omega) ?_ | refine ov_i64 (by decide) ?_ | refine ov_u64 (by decide) ?_ | refine ov_u8 (by omega) ?_ | refine ov_i32 (by omega) ?_ | refine ov_u32 (by omega) ?_
          conv => whnf
          first | refine ov_i64 (by omega) ?_ | refine ov_u64 (by omega) ?_ | refine ov_i64 (by decide) ?_ | refine ov_u64 (by decide) ?_ | refine ov_u8 (by omega) ?_ | refine ov_i32 (by omega) ?_ | refine ov_u32 (by omega) ?_
          conv => whnf
          have hmx : zv (if S.longest < e.to - e.from_ + 1 then e.to - e.from_ + 1 else S.longest) = zv (max S.longest (e.to - e.from_ + 1)) := by
            congr 1
            split <;> omega
          rw [← hmx] at hs7
          refine wr_intro (by exact storeCA (azk 7) sizI6 at_h9 (by omega) hs7 rfl rfl) (fun h10 at_h10 ot_h10 => ?_)
          try (conv => whnf)
          have hq := hdone h10 _ (by rw [List.length_set, List.length_set]; exact hLs2) (by rw [hstep]; rw [List.getElem?_set]; simp; omega) (fun i hi => by rw [List.getElem?_set_ne (Ne.symm hi), List.getElem?_set_ne (Ne.symm hi)]; exact hot2 i hi) at_h10 ((ot_h10 bm (Ne.symm dbm)).trans ((ot_h9 bm (Ne.symm dbm)).trans m8)) (kput _ _ bo (kput _ _ bo kx8 (.inl rfl) ot_h9) (.inl rfl) ot_h10)
          refine ⟨trivial, ?_⟩
          conv => whnf
          first | refine ov_i64 (by omega) ?_ | refine ov_u64 (by omega) ?_ | refine ov_i64 (by decide) ?_ | refine ov_u64 (by decide) ?_ | refine ov_u8 (by omega) ?_ | refine ov_i32 (by omega) ?_ | refine ov_u32 (by omega) ?_
          conv => whnf
          exact ⟨L.length - (m + 1), by omega, m + 1, _, by omega, rfl, rfl, hq⟩
        · have htf : tmB e = false := by rw [htm, q7, Bool.and_false]
          rw [htf] at hstep
          simp only [Bool.false_eq_true, if_false] at hstep
          have hq := hdone h8 Ls2 hLs2 (by rw [hstep]; exact hS2) hot2 o8b m8 kx8
          conv => whnf
          first | refine ov_i64 (by omega) ?_ | refine ov_u64 (by omega) ?_ | refine ov_i64 (by decide) ?_ | refine ov_u64 (by decide) ?_ | refine ov_u8 (by omega) ?_ | refine ov_i32 (by omega) ?_ | refine ov_u32 (by omega) ?_
          conv => whnf
          exact ⟨L.length - (m + 1), by omega, m + 1, Ls2, by omega, rfl, rfl, hq⟩
      · have htf : tmB e = false := by rw [htm, decide_eq_false (by omega)]; rfl
        rw [htf] at hstep
        simp only [Bool.false_eq_true, if_false] at hstep
        have hq := hdone h8 Ls2 hLs2 (by rw [hstep]; exact hS2) hot2 o8b m8 kx8
        conv => whnf
        first | refine ov_i64 (by omega) ?_ | refine ov_u64 (by omega) ?_ | refine ov_i64 (by decide) ?_ | refine ov_u64 (by decide) ?_ | refine ov_u8 (by omega) ?_ | refine ov_i32 (by omega) ?_ | refine ov_u32 (by omega) ?_
        conv => whnf
        exact ⟨L.length - (m + 1), by omega, m + 1, Ls2, by omega, rfl, rfl, hq⟩
    · have htf : tmB e = false := by rw [htm, decide_eq_false (by omega)]; rfl
      rw [htf] at hstep
      simp only [Bool.false_eq_true, if_false] at hstep
      have hq := hdone h8 Ls2 hLs2 (by rw [hstep]; exact hS2) hot2 o8b m8 kx8
      conv => whnf
      first | refine ov_i64 (by omega) ?_ | refine ov_u64 (by omega) ?_ | refine ov_i64 (by decide) ?_ | refine ov_u64 (by decide) ?_ | refine ov_u8 (by omega) ?_ | refine ov_i32 (by omega) ?_ | refine ov_u32 (by omega) ?_
      conv => whnf
      exact ⟨L.length - (m + 1), by omega, m + 1, Ls2, by omega, rfl, rfl, hq⟩
  have hmn : m = L.length := by omega
  subst hmn
  rw [List.take_length] at hLi
  conv => whnf
  exact hk n bo Ls h3 (by omega) hmin le3 hbo hLs hLi
end
end Go.Proofs.YtcmhfofmloiaiaaGreatDoor
/-! Lines that are asked for most: heats, and how they are ordered. -/
namespace Go.Proofs.YtcmhfofmloiaiaaGreatDoor
set_option linter.unusedSimpArgs false
set_option linter.unusedVariables false
open Go Go.Mid Go.RowKit
open Go.Sort (SWO)
attribute [local irreducible] mid
/-- A line, and how often it was read, and laid into. -/
structure Ht where
  n : Nat
  r : Nat
  w : Nat
  hr : r ≤ 1000
  hw : w ≤ 1000
instance : Inhabited Ht := ⟨⟨0, 0, 0, by decide, by decide⟩⟩
theorem Ht.eq {a b : Ht} (h1 : a.n = b.n) (h2 : a.r = b.r) (h3 : a.w = b.w) : a = b := by
  cases a; cases b; simp only at h1 h2 h3; subst h1 h2 h3; rfl
def Ht.cs (x : Ht) : List Value := [uv x.n, zv x.r, zv x.w]
def ltH (a b : Ht) : Bool := decide (b.r + b.w < a.r + a.w ∨ (a.r + a.w = b.r + b.w ∧ a.n < b.n))
theorem ltH_swo : SWO ltH where
  irrefl := fun x => by simp [ltH]
  trans := fun x y z h1 h2 => by
    unfold ltH at *
    simp only [decide_eq_true_eq] at *
    omega
  ntrans := fun x y z h1 h2 => by
    unfold ltH at *
    simp only [decide_eq_false_iff_not] at *
    omega
/-- Whether a line is touched, again and again: all touches of a log. -/
def touches (L : List Ev) : List (Nat × Bool) := L.flatMap fun e => (linesA e.ask).map fun n => (n, writesB e.ask e.ans)
def cnt (T : List (Nat × Bool)) (n : Nat) (b : Bool) : Nat := T.countP fun p => decide (p = (n, b))
theorem cnt_snoc (T : List (Nat × Bool)) (p : Nat × Bool) (n : Nat) (b : Bool) : cnt (T ++ [p]) n b = cnt T n b + if p = (n, b) then 1 else 0 := by
  unfold cnt
  rw [List.countP_append, List.countP_singleton]
  simp
theorem cnt_le (T : List (Nat × Bool)) (n : Nat) (b : Bool) : cnt T n b ≤ T.length := List.countP_le_length
theorem cnt_zero {T : List (Nat × Bool)} {n : Nat} (h : n ∉ T.map (·.1)) (b : Bool) : cnt T n b = 0 := by
  unfold cnt
  rw [List.countP_eq_zero]
  intro p hp
  simp only [decide_eq_true_eq]
  intro e
  exact h (List.mem_map.2 ⟨p, hp, by rw [e]⟩)
theorem touches_len {L : List Ev} (h : ∀ e ∈ L, e.ok) : (touches L).length ≤ L.length * 8 := by
  unfold touches
  induction L with
  | nil => simp
  | cons e L ih =>
    have h1 := ih (fun x hx => h x (by simp [hx]))
    have h2 := linesA_len e.ask (h e (by simp)).ask
    rw [List.flatMap_cons, List.length_append, List.length_map, List.length_cons]
    omega
theorem touches_snoc (L : List Ev) (e : Ev) : touches (L ++ [e]) = touches L ++ (linesA e.ask).map fun n => (n, writesB e.ask e.ans) := by
  unfold touches
  rw [List.flatMap_append]
  simp
/-- The heats of a log, the hottest first. -/
structure IsHot (T : List (Nat × Bool)) (H : List Ht) : Prop where
  sorted : H.Pairwise fun x z => ltH z x = false
  nodup : (H.map (·.n)).Nodup
  count : ∀ x ∈ H, x.r = cnt T x.n false ∧ x.w = cnt T x.n true
  all : ∀ n, n ∈ H.map (·.n) ↔ n ∈ T.map (·.1)
theorem nodup_of_map {α β : Type} {g : α → β} : ∀ {l : List α}, (l.map g).Nodup → l.Nodup
  | [], _ => List.nodup_nil
  | x :: l, h => by
    rw [List.map_cons, List.nodup_cons] at h
    exact List.nodup_cons.2 ⟨fun hx => h.1 (List.mem_map.2 ⟨x, hx, rfl⟩), nodup_of_map h.2⟩
theorem IsHot.unique {T : List (Nat × Bool)} {A B : List Ht} (a : IsHot T A) (b : IsHot T B) : A = B := by
  have hmem : ∀ x, x ∈ A ↔ x ∈ B := by
    have key : ∀ {A B : List Ht}, IsHot T A → IsHot T B → ∀ x, x ∈ A → x ∈ B := fun {A B} a b x hx => by
      have h1 := (b.all x.n).2 ((a.all x.n).1 (List.mem_map.2 ⟨x, hx, rfl⟩))
      obtain ⟨y, hy, hyn⟩ := List.mem_map.1 h1
      have h2 := a.count x hx
      have h3 := b.count y hy
      have : x = y := Ht.eq hyn.symm (by rw [h2.1, h3.1, hyn]) (by rw [h2.2, h3.2, hyn])
      rw [this]; exact hy
    exact fun x => ⟨key a b x, key b a x⟩
  have hp := (List.perm_ext_iff_of_nodup (nodup_of_map a.nodup) (nodup_of_map b.nodup)).2 hmem
  refine List.Perm.eq_of_pairwise (fun x y hx hy h1 h2 => ?_) a.sorted b.sorted hp
  unfold ltH at h1 h2
  simp only [decide_eq_false_iff_not] at h1 h2
  have hn : x.n = y.n := by omega
  have h3 := a.count x hx
  have h4 := b.count y hy
  exact Ht.eq hn (by rw [h3.1, h4.1, hn]) (by rw [h3.2, h4.2, hn])
section
set_option maxHeartbeats 8000000
set_option maxRecDepth 10000
variable {h : Hp} {K : Value → Hp → Prop}
theorem hotCmp_x (a b : Ht) (hk : ∀ c : Int, decide (c < 0) = ltH a b → K (.int .i64 c) h) : X Tryz.prog 22 #[.agg a.cs.toArray, .agg b.cs.toArray] h K := by
  refine X.forget ?_
  have h1 := a.hr
  have h2 := a.hw
  have h3 := b.hr
  have h4 := b.hw
  have hlt : ∀ c : Int, c = (if cmpI ((b.r : Int) + (b.w : Int)) ((a.r : Int) + (a.w : Int)) ≠ 0 then cmpI ((b.r : Int) + (b.w : Int)) ((a.r : Int) + (a.w : Int)) else cmpI (a.n : Int) (b.n : Int)) → decide (c < 0) = ltH a b := fun c hc => by
    subst hc
    unfold ltH cmpI
    rw [Bool.eq_iff_iff]
    simp only [decide_eq_true_eq]
    (repeat' split) <;> omega
  refine fnv (args := _) mixed [(2, 2), (10, 2), (12, 2), (16, 2), (3, 3), (5, 3), (7, 3), (18, 3)] [23, 24, 25] [] Tryz.func22 rfl (by kernel_rfl) ?_
  conv => whnf
  first | refine ov_i64 (by omega) ?_ | refine ov_u64 (by omega) ?_ | refine ov_i64 (by decide) ?_ | refine ov_u64 (by decide) ?_ | refine ov_u8 (by omega) ?_ | refine ov_i32 (by omega) ?_ | refine ov_u32 (by omega) ?_
  conv => whnf
  first | refine ov_i64 (by omega) ?_ | refine ov_u64 (by omega) ?_ | refine ov_i64 (by decide) ?_ | refine ov_u64 (by decide) ?_ | refine ov_u8 (by omega) ?_ | refine ov_i32 (by omega) ?_ | refine ov_u32 (by omega) ?_
  conv => whnf
  refine ⟨_, cmpInt_x ((b.r : Int) + (b.w : Int)) ((a.r : Int) + (a.w : Int)) ⟨rfl, rfl⟩, ?_⟩
  conv => whnf
  refine ⟨_, cmpU_x (a.n : Int) (b.n : Int) ⟨rfl, rfl⟩, ?_⟩
  generalize cmpI ((b.r : Int) + (b.w : Int)) ((a.r : Int) + (a.w : Int)) = c1 at *
  generalize cmpI (a.n : Int) (b.n : Int) = c2 at *
  conv => whnf
  refine new_intro (o := rowO 3 [.int .i64 c1, .int .i64 c2]) (fun y h5 n_y le_y at_y ot_y => ?_)
  conv => whnf
  refine ⟨_, cmpOr_x c1 c2 at_y ⟨rfl, rfl⟩, ?_⟩
  conv => whnf
  exact ⟨h, le_y, hk _ (hlt _ rfl)⟩
theorem hotS : Srt1 (α := Ht) Ht.cs ltH (.func (.func 22) #[] #[]) where
  len := fun _ => rfl
  one := fun x => by simp [Ht.cs, Value.oneCell']
  cmp := fun x z h K hk => yv_x (by kernel_rfl) (hotCmp_x x z hk)
end
end Go.Proofs.YtcmhfofmloiaiaaGreatDoor
/-! Lines that are asked for most: the program's. -/
namespace Go.Proofs.YtcmhfofmloiaiaaGreatDoor
set_option linter.unusedSimpArgs false
set_option linter.unusedVariables false
open Go Go.Mid Go.RowKit
open Go.Sort (SWO)
attribute [local irreducible] mid
section
set_option maxHeartbeats 8000000
set_option maxRecDepth 10000
variable {h : Hp} {K : Value → Hp → Prop}
theorem uvT : KeyT Tryz.prog 23 uv where
  under := Option.isSome_iff_exists.1 (by kernel_rfl)
  key := fun a => by kernel_rfl
  equal := fun a b => by
    have e : eqV Tryz.prog 10000 23 (uv a) (uv b) = some ((a : Int) == (b : Int)) := by kernel_rfl
    rw [e]
    congr 1
    rw [Bool.eq_iff_iff]
    simp
    omega
  same := fun a => by simp [Instr.sameBits]
theorem mapHt : Tryz.prog.underlying 68 = some (.map 23 38) := by kernel_rfl
theorem heZ : zeroT Tryz.prog 38 = some (.agg #[uv 0, zv 0, zv 0]) := by kernel_rfl
theorem infHe : Tryz.prog.info? 38 = some Tryz.prog.types[38] := by kernel_rfl
abbrev hv (T : List (Nat × Bool)) (n : Nat) : Value := .agg #[uv n, zv (cnt T n false : Nat), zv (cnt T n true : Nat)]
/-- What the map tells: each touched line's heat. -/
def heatF (T : List (Nat × Bool)) (n : Nat) : Option Value := if n ∈ T.map (·.1) then some (hv T n) else none
theorem heatF_snoc (T : List (Nat × Bool)) (n : Nat) (b : Bool) : putF (heatF T) n (some (hv (T ++ [(n, b)]) n)) = heatF (T ++ [(n, b)]) := by
  funext x
  unfold putF heatF
  by_cases hx : x = n
  · subst hx
    simp
  · rw [if_neg hx]
    have hc : ∀ c, cnt (T ++ [(n, b)]) x c = cnt T x c := fun c => by
      rw [cnt_snoc, if_neg (fun e => hx (by rw [Prod.mk.injEq] at e; exact e.1.symm))]
      rfl
    have hm : x ∈ (T ++ [(n, b)]).map (·.1) ↔ x ∈ T.map (·.1) := by
      rw [List.map_append, List.mem_append]
      simp [hx]
    by_cases h1 : x ∈ T.map (·.1)
    · rw [if_pos h1, if_pos (hm.2 h1), hv, hv, hc, hc]
    · rw [if_neg h1, if_neg (fun hh => h1 (hm.1 hh))]
abbrev H_take (L : List Ht) (m : Int) : List Ht := L.take m.toNat
theorem hot_x (s : Value) (L : List Ev) (most : Int) (hr : RdE h s L) (hok : ∀ e ∈ L, e.ok) (hL : L.length ≤ 60) (hm1 : most ≤ 9223372036854775807)
    (hk0 : most < 1 → K (.slice none 0 0) h)
    (hk : ∀ (H : List Ht) (s' : Value) (h' : Hp), 1 ≤ most → IsHot (touches L) H → h.le h' → Rd Tryz.prog 38 3 h' s' ((H.take most.toNat).map fun x => Value.agg x.cs.toArray) → K s' h') : X Tryz.prog 7 #[s, .int .i64 most] h K := by
  obtain ⟨base, cap, rfl, f⟩ := rdE_at2 hr
  refine fnv (args := _) mixed [(10, 10), (35, 10), (38, 10), (41, 10), (42, 10), (45, 10), (13, 13)] [] [] Tryz.func7 rfl (by kernel_rfl) ?_
  conv => whnf
  refine bsel_intro (fun q0 => ?_) (fun q0 => ?_) <;> try simp only [decide_eq_true_eq, decide_eq_false_iff_not, beq_iff_eq, beq_eq_false_iff_ne, ne_eq, Bool.not_eq_true', Bool.not_eq_false', bne_iff_ne, bne_eq_false_iff_eq, Bool.not_eq_true, Bool.not_eq_false, Bool.and_eq_true, Bool.or_eq_true, bs_size] at q0
  · conv => whnf
    exact hk0 (by omega)
  conv => whnf
  refine new_intro (o := .map #[] 0) (fun bm h1 n_bm le_bm at_bm ot_bm => ?_)
  conv => whnf
  refine loop_at [19] [] (fun r vs cs h' => ∃ (m nm : Nat) (om : Obj), m ≤ L.length ∧ r = L.length - m ∧ vs = [.v (.int .i64 m)] ∧ h' bm = some om ∧ MapB uv (heatF (touches (L.take m))) nm om ∧ h.le h') L.length ⟨0, 0, _, by omega, by omega, rfl, at_bm, MapB.nil, le_bm⟩ ?_
  clear at_bm ot_bm le_bm
  rintro r vs cs mm bx h3 ⟨m, nm, om, hm, rfl, rfl, hbm, hM, le3⟩
  conv => whnf
  refine bsel_intro (fun q1 => ?_) (fun q1 => ?_) <;> try simp only [decide_eq_true_eq, decide_eq_false_iff_not, beq_iff_eq, beq_eq_false_iff_ne, ne_eq, Bool.not_eq_true', Bool.not_eq_false', bne_iff_ne, bne_eq_false_iff_eq, Bool.not_eq_true, Bool.not_eq_false, Bool.and_eq_true, Bool.or_eq_true, bs_size] at q1
  · have hmL : m < L.length := by omega
    obtain ⟨e, he⟩ : ∃ e, L[m]? = some e := ⟨_, List.getElem?_eq_getElem hmL⟩
    have heo := hok e (List.mem_of_getElem? he)
    obtain ⟨a, rfl, l1⟩ := f m e he
    have hts := take_snoc he
    have htl := touches_len (L := L.take m) (fun x hx => hok x (List.mem_of_mem_take hx))
    rw [List.length_take] at htl
    have hsn := touches_snoc (L.take m) e
    rw [← hts] at hsn
    have l13 := loadH_le le3 l1
    generalize touches (L.take m) = T at *
    conv => whnf
    first | refine need_intro (⟨by omega, by omega⟩) ?_ | refine must.mk (⟨by omega, by omega⟩) ?_
    conv => whnf
    refine ⟨_, l13, ?_⟩
    conv => whnf
    refine new_intro (o := _) (fun bE h4 n_bE le_bE at_bE ot_bE => ?_)
    conv => whnf
    refine wr_intro (by exact storeA0 (z := .agg e.cs.toArray) sizEv at_bE rfl (ev_len e) (ev_one e)) (fun h5 at_h5 ot_h5 => ?_)
    try (conv => whnf)
    have le35 := Hp.le_st n_bE le_bE ot_h5
    have le5 := Hp.le_trans le3 le35
    have e5 : h5 bE = some (rowO 53 e.cs) := at_h5
    have m5 := le35 _ _ hbm
    have dEm : bE ≠ bm := Ne.symm (Hp.ne n_bE hbm)
    clear at_bE ot_bE le_bE ot_h5 at_h5 hbm
    conv => whnf
    refine ⟨_, loadP (k := 1) (x := e.ask.cs) aggAk sizAk e5 rfl rfl, ?_⟩
    conv => whnf
    refine lines_xA e.ask heo.ask fun sx h7 hOx => ?_
    have hLl := linesA_len e.ask heo.ask
    have rx : RdU (hide h7 bm bm) sx (linesA e.ask) := rd_hide aggU hOx m5 m5
    have lk : h.le (hide h7 bm bm) := le_hide (Hp.le_trans le5 hOx.le) n_bm n_bm
    have kE : (hide h7 bm bm) bE = some (rowO 53 e.cs) := (hide_of dEm dEm).trans (hOx.le _ _ e5)
    have kx7 := hide_le h7 bm bm
    have m7 := hOx.le _ _ m5
    generalize hkx : hide h7 bm bm = kx at *
    have kput : ∀ (h1 h2 : Hp), kx.le h1 → (∀ c, c ≠ bm → h2 c = h1 c) → kx.le h2 := fun h1 h2 hl hot => by
      rw [← hkx] at hl ⊢; exact hide_put hl (.inl rfl) hot
    obtain ⟨bx2, cx, rfl, fx⟩ := rdU rx
    conv => whnf
    refine loop_at [27] [] (fun r vs cs h' => ∃ (k nm : Nat) (om : Obj), k ≤ (linesA e.ask).length ∧ r = (linesA e.ask).length - k ∧ vs = [.v (.int .i64 k)] ∧ h' bm = some om ∧ MapB uv (heatF (T ++ ((linesA e.ask).take k).map fun n => (n, writesB e.ask e.ans))) nm om ∧ kx.le h') (linesA e.ask).length ⟨0, nm, om, by omega, by omega, rfl, m7, by simpa using hM, kx7⟩ ?_
    clear m7 kx7 m5 hM
    rintro r vs cs mm2 bx3 h8 ⟨k, nm8, om8, hk1, rfl, rfl, m8, hM8, kx8⟩
    conv => whnf
    refine bsel_intro (fun q4 => ?_) (fun q4 => ?_) <;> try simp only [decide_eq_true_eq, decide_eq_false_iff_not, beq_iff_eq, beq_eq_false_iff_ne, ne_eq, Bool.not_eq_true', Bool.not_eq_false', bne_iff_ne, bne_eq_false_iff_eq, Bool.not_eq_true, Bool.not_eq_false, Bool.and_eq_true, Bool.or_eq_true, bs_size] at q4
    · have hkL : k < (linesA e.ask).length := by omega
      obtain ⟨x, hx⟩ : ∃ x, (linesA e.ask)[k]? = some x := ⟨_, List.getElem?_eq_getElem hkL⟩
      obtain ⟨a2, rfl, l2⟩ := fx k x hx
      have hts2 := take_snoc hx
      have hT2 : T ++ ((linesA e.ask).take (k + 1)).map (fun n => (n, writesB e.ask e.ans)) = (T ++ ((linesA e.ask).take k).map fun n => (n, writesB e.ask e.ans)) ++ [(x, writesB e.ask e.ans)] := by rw [hts2]; simp
      have hTl : (T ++ ((linesA e.ask).take k).map fun n => (n, writesB e.ask e.ans)).length ≤ 500 := by
        rw [List.length_append, List.length_map, List.length_take]; omega
      generalize (T ++ ((linesA e.ask).take k).map fun n => (n, writesB e.ask e.ans)) = T2 at *
      have e8 := kx8 _ _ kE
      have hob_ : ∃ n0 : Nat, lookR false (heatF T2 x) (.agg #[uv 0, zv 0, zv 0]) = .agg #[uv n0, zv (cnt T2 x false : Nat), zv (cnt T2 x true : Nat)] := by
        unfold heatF
        by_cases hxT : x ∈ T2.map (·.1)
        · rw [if_pos hxT]; exact ⟨x, rfl⟩
        · rw [if_neg hxT, cnt_zero hxT, cnt_zero hxT]; exact ⟨0, rfl⟩
      obtain ⟨n0, hn0⟩ := hob_
      have look8 := MapB.look mapHt heZ uvT m8 hM8 x false
      rw [hn0] at look8
      have hc1 := cnt_le T2 x false
      have hc2 := cnt_le T2 x true
      have hs1 := cnt_snoc T2 (x, writesB e.ask e.ans) x false
      have hs2 := cnt_snoc T2 (x, writesB e.ask e.ans) x true
      have hsnoc := heatF_snoc T2 x (writesB e.ask e.ans)
      generalize hwr : writesB e.ask e.ans = wbq at *
      conv => whnf
      first | refine need_intro (⟨by omega, by omega⟩) ?_ | refine must.mk (⟨by omega, by omega⟩) ?_
      conv => whnf
      refine ⟨_, loadH_le kx8 l2, ?_⟩
      conv => whnf
      refine ⟨_, look8, ?_⟩
      conv => whnf
      refine ⟨_, loadA0 aggEv sizEv e8 (ev_len e), ?_⟩
      conv => whnf
      refine ewrites_x e ?_
      rw [hwr]
      cases wbq with
      | true =>
        have hob_ := MapB.upd mapHt uvT m8 hM8 x (hv (T2 ++ [(x, true)]) x)
        obtain ⟨om9, hupd, hM9⟩ := hob_
        rw [hsnoc] at hM9
        unfold hv at hupd
        rw [hs1, hs2] at hupd
        simp only [Prod.mk.injEq, true_and, if_true, if_false, Bool.false_eq_true, Bool.true_eq_false, Nat.add_zero, Int.natCast_add, Int.natCast_one] at hupd
        conv => whnf
        first | refine ov_i64 (by omega) ?_ | refine ov_u64 (by omega) ?_ | refine ov_i64 (by decide) ?_ | refine ov_u64 (by decide) ?_ | refine ov_u8 (by omega) ?_ | refine ov_i32 (by omega) ?_ | refine ov_u32 (by omega) ?_
        conv => whnf
        refine wr_intro (by exact hupd) (fun h9 at_h9 ot_h9 => ?_)
        try (conv => whnf)
        conv => whnf
        first | refine ov_i64 (by omega) ?_ | refine ov_u64 (by omega) ?_ | refine ov_i64 (by decide) ?_ | refine ov_u64 (by decide) ?_ | refine ov_u8 (by omega) ?_ | refine ov_i32 (by omega) ?_ | refine ov_u32 (by omega) ?_
        conv => whnf
        exact ⟨(linesA e.ask).length - (k + 1), by omega, k + 1, _, om9, by omega, rfl, rfl, at_h9, by rw [hT2]; exact hM9, kput _ _ kx8 ot_h9⟩
      | false =>
        have hob_ := MapB.upd mapHt uvT m8 hM8 x (hv (T2 ++ [(x, false)]) x)
        obtain ⟨om9, hupd, hM9⟩ := hob_
        rw [hsnoc] at hM9
        unfold hv at hupd
        rw [hs1, hs2] at hupd
        simp only [Prod.mk.injEq, true_and, if_true, if_false, Bool.false_eq_true, Bool.true_eq_false, Nat.add_zero, Int.natCast_add, Int.natCast_one] at hupd
        conv => whnf
        first | refine ov_i64 (by omega) ?_ | refine ov_u64 (by omega) ?_ | refine ov_i64 (by decide) ?_ | refine ov_u64 (by decide) ?_ | refine ov_u8 (by omega) ?_ | refine ov_i32 (by omega) ?_ | refine ov_u32 (by omega) ?_
        conv => whnf
        refine wr_intro (by exact hupd) (fun h9 at_h9 ot_h9 => ?_)
        try (conv => whnf)
        conv => whnf
        first | refine ov_i64 (by omega) ?_ | refine ov_u64 (by omega) ?_ | refine ov_i64 (by decide) ?_ | refine ov_u64 (by decide) ?_ | refine ov_u8 (by omega) ?_ | refine ov_i32 (by omega) ?_ | refine ov_u32 (by omega) ?_
        conv => whnf
        exact ⟨(linesA e.ask).length - (k + 1), by omega, k + 1, _, om9, by omega, rfl, rfl, at_h9, by rw [hT2]; exact hM9, kput _ _ kx8 ot_h9⟩
    have hkn : k = (linesA e.ask).length := by omega
    subst hkn
    rw [List.take_length, ← hsn] at hM8
    conv => whnf
    first | refine ov_i64 (by omega) ?_ | refine ov_u64 (by omega) ?_ | refine ov_i64 (by decide) ?_ | refine ov_u64 (by decide) ?_ | refine ov_u8 (by omega) ?_ | refine ov_i32 (by omega) ?_ | refine ov_u32 (by omega) ?_
    conv => whnf
    exact ⟨L.length - (m + 1), by omega, m + 1, nm8, om8, by omega, rfl, rfl, m8, hM8, Hp.le_trans lk kx8⟩
  have hmn : m = L.length := by omega
  subst hmn
  rw [List.take_length] at hM
  have htl := touches_len hok
  generalize touches L = T at *
  conv => whnf
  refine range_map rfl mapHt rfl hbm hM fun it h4 n_it le_it ot_it hI => ?_
  have n_it0 : h it = none := Hp.none_le le3 n_it
  have dim : bm ≠ it := Hp.ne n_it hbm
  have hob_ := hI.known
  obtain ⟨oi, om4, kit, kbm⟩ := hob_
  have le4 := Hp.le_trans le3 le_it
  have hO4 : Owns h4 h4 38 3 (.slice none 0 0) 0 [] := Owns.nil (Hp.le_refl _)
  conv => whnf
  refine loop_at [11] [] (fun r vs cs h' => ∃ (Hs : List Ht) (sl : Value) (k : Hp) (oi om : Obj), r = nm - Hs.length ∧ vs = [.v sl] ∧ h.le k ∧ k it = some oi ∧ k bm = some om ∧ Owns k h' 38 3 sl Hs.length (Hs.flatMap Ht.cs) ∧ Itr uv (heatF T) nm h' it bm (Hs.map (·.n)) ∧ ∀ x ∈ Hs, heatF T x.n = some (.agg x.cs.toArray)) nm ⟨[], .slice none 0 0, h4, oi, om4, rfl, rfl, le4, kit, kbm, hO4, hI, fun x hx => by cases hx⟩ ?_
  clear hO4 hI kit kbm hM ot_it
  rintro r vs cs mm bx h5 ⟨Hs, sl, k, oi, om5, rfl, rfl, lk, kit, kbm, hO, hI, hHs⟩
  have hsub : Hs.length ≤ T.length := by
    have h1 := hI.told
    have := h1.1.length_le_of_subset (l₂ := T.map (·.1)) (fun a ha => by
      have h2 := h1.2 a ha
      unfold heatF at h2
      by_cases h3 : a ∈ T.map (·.1)
      · exact h3
      · rw [if_neg h3] at h2; exact absurd rfl h2)
    simpa using this
  conv => whnf
  refine next_map rfl rfl hI (fun a v h6 hfa hna hlt ot6 hI6 => ?_) (fun hall => ?_)
  · rw [List.length_map] at hlt
    have hv1 : v = hv T a := by
      unfold heatF at hfa
      split at hfa
      · exact (Option.some.inj hfa).symm
      · cases hfa
    subst hv1
    have hc1 := cnt_le T a false
    have hc2 := cnt_le T a true
    have hob_ := hI6.known
    obtain ⟨oi6, om6, kit6, kbm6⟩ := hob_
    have hO6 := hO.put kit kit6 ot6
    have kb6 : (k.set it oi6) bm = some om5 := by rw [Hp.set_other _ _ dim]; exact kbm
    have lk6 : h.le (k.set it oi6) := Hp.le_keep lk n_it0
    have ki6 : (k.set it oi6) it = some oi6 := Hp.set_same _ _ _
    generalize k.set it oi6 = k6 at *
    have hI6' : Itr uv (heatF T) nm h6 it bm (Hs.map (·.n) ++ [a]) := hI6
    conv => whnf
    refine entry_map rfl rfl hI6' (fun v2 hv2 => ?_)
    obtain rfl : v2 = hv T a := by rw [hfa] at hv2; exact (Option.some.inj hv2).symm
    obtain ⟨x, hx1, hx2⟩ : ∃ x : Ht, x.n = a ∧ x.cs = [uv a, zv (cnt T a false : Nat), zv (cnt T a true : Nat)] := ⟨⟨a, cnt T a false, cnt T a true, by omega, by omega⟩, rfl, rfl⟩
    have hfx : heatF T x.n = some (.agg x.cs.toArray) := by rw [hx1, hfa, hx2]
    conv => whnf
    refine new_intro (o := rowO 38 [uv a, zv (cnt T a false : Nat), zv (cnt T a true : Nat)]) (fun y h7 n_y le_y at_y ot_y => ?_)
    conv => whnf
    rw [← hx2] at at_y
    refine Owns.app1 (z := .agg #[uv 0, zv 0, zv 0]) (by kernel_rfl) infHe (by kernel_rfl) (by kernel_rfl) (by kernel_rfl) rfl (bytes := 24) (by decide) rfl rfl rfl (hO6.up le_y) at_y rfl (by simp [Ht.cs, Value.oneCell']) (by omega) fun s8 h8 hO8 => ?_
    obtain ⟨sa, sc, rfl⟩ := hO8.shape
    conv => whnf
    refine ⟨nm - (Hs.length + 1), by omega, Hs ++ [x], _, k6, oi6, om5, by simp, rfl, lk6, ki6, kb6, ?_, ?_, ?_⟩
    · rw [show (Hs ++ [x]).length = Hs.length + 1 by simp, show (Hs ++ [x]).flatMap Ht.cs = Hs.flatMap Ht.cs ++ x.cs by simp]
      exact hO8
    · rw [List.map_append]
      refine Itr.agree (h := h6) (by rw [List.map_cons, List.map_nil, hx1]; exact hI6) ?_ ?_
      · rw [hO8.le _ _ ki6, hO6.le _ _ ki6]
      · rw [hO8.le _ _ kb6, hO6.le _ _ kb6]
    · intro z hz
      rcases List.mem_append.1 hz with hz | hz
      · exact hHs z hz
      · simp only [List.mem_singleton] at hz; subst hz; exact hfx
  have htold := hI.told
  conv => whnf
  refine sortE_x hotS ltH_swo (L := Hs) hO (by omega) fun L' h6 hp hs hO6 => ?_
  have hhot : IsHot T L' := by
    refine ⟨hs, (hp.map (·.n)).nodup_iff.2 htold.1, fun x hx => ?_, fun n => ?_⟩
    · have h1 := hHs x (hp.mem_iff.1 hx)
      unfold heatF at h1
      split at h1
      · simp only [Option.some.injEq, Value.agg.injEq, Ht.cs, List.toArray_inj, Array.mk.injEq, List.cons.injEq, Value.int.injEq, true_and, and_true] at h1
        omega
      · cases h1
    · rw [(hp.map (·.n)).mem_iff]
      constructor
      · intro hn
        have := htold.2 n hn
        unfold heatF at this
        by_cases h3 : n ∈ T.map (·.1)
        · exact h3
        · rw [if_neg h3] at this; exact absurd rfl this
      · intro hn
        refine hall n ?_
        unfold heatF
        rw [if_pos hn]
        simp
  have lk6 := Hp.le_trans lk hO6.le
  have hLlen : L'.length ≤ 480 := by have := hp.length_eq; omega
  obtain ⟨ob, ⟨hcl, ⟨_, rfl, h0⟩ | ⟨b, cap2, rest, e1, rfl, hcap, hrest, hb⟩⟩, hkl, hno⟩ := hO6
  · have hL0 : L' = [] := List.eq_nil_of_length_eq_zero h0
    have hq : (if ((0 : Nat) : Int) < most then ((0 : Nat) : Int) else most) = ((0 : Nat) : Int) := by split <;> omega
    conv => whnf
    rw [hq]
    conv => whnf
    refine hk L' _ h6 (by omega) hhot lk6 ?_
    subst hL0
    rw [List.take_nil]
    exact Rd.nil
  · obtain ⟨q, hq1⟩ : ∃ q : Nat, q = min L'.length most.toNat := ⟨_, rfl⟩
    have hq : (if (L'.length : Int) < most then (L'.length : Int) else most) = (q : Int) := by split <;> omega
    have hq2 : 0 ≤ (q : Int) ∧ (q : Int) ≤ cap2 := by omega
    conv => whnf
    rw [hq]
    first | refine need_intro (hq2) ?_ | refine must.mk (hq2) ?_
    conv => whnf
    have hlen : (((H_take L' most).map fun x => Value.agg x.cs.toArray)).length = q := by
      rw [List.length_map, H_take, List.length_take, hq1]; omega
    have hq3 : ((q : Int)).toNat - 0 = q := by omega
    refine bsel_intro (fun qc => ?_) (fun qc => ?_)
    · have hc0 : cap2 = 0 := by have := of_decide_eq_true qc; omega
      have hL0 : L' = [] := List.eq_nil_of_length_eq_zero (by omega)
      conv => whnf
      refine hk L' _ h6 (by omega) hhot lk6 ⟨some ⟨b, 0, none⟩, cap2 - 0, ?_, fun i v hv => ?_⟩
      · show Value.slice (some ⟨b, 0, none⟩) (((q : Int)).toNat - 0) (cap2 - 0) = _
        rw [hq3, ← hlen]
      · rw [hL0, List.take_nil] at hv
        simp at hv
    · conv => whnf
      refine hk L' _ h6 (by omega) hhot lk6 ⟨some ((⟨b, 0, none⟩ : Addr).add (0 * 3)), cap2 - 0, ?_, fun i v hv => ⟨_, rfl, ?_⟩⟩
      · show Value.slice (some ((⟨b, 0, none⟩ : Addr).add (0 * 3))) (((q : Int)).toNat - 0) (cap2 - 0) = _
        rw [hq3, ← hlen]
      · rw [List.getElem?_map] at hv
        cases hx : (L'.take most.toNat)[i]? with
        | none => rw [hx] at hv; cases hv
        | some x =>
          rw [hx] at hv
          cases hv
          have hxi : L'[i]? = some x := by
            rw [List.getElem?_take] at hx
            split at hx
            · exact hx
            · cases hx
          have := loadH_agg (n := 3) (f := Ht.cs) aggE1 sizE1 (fun _ => rfl) hb hxi
          show loadH Tryz.prog 38 h6 (((⟨b, 0, none⟩ : Addr).add (0 * 3)).add (i * 3)) = _
          rw [addr_add, Nat.zero_mul]
          exact this
end
end Go.Proofs.YtcmhfofmloiaiaaGreatDoor
/-! Lines that are asked for most: the document's. -/
namespace Go.Proofs.YtcmhfofmloiaiaaGreatDoor
set_option linter.unusedSimpArgs false
set_option linter.unusedVariables false
open Go Go.Mid Go.RowKit
attribute [local irreducible] mid
/-- A heat is laid behind all that are as hot. -/
def hins (x : Ht) : List Ht → List Ht
  | [] => [x]
  | y :: l => if x.r + x.w ≤ y.r + y.w then y :: hins x l else x :: y :: l
theorem hins_at {x : Ht} : ∀ {l : List Ht} {k : Nat}, (∀ j y, j < k → l[j]? = some y → x.r + x.w ≤ y.r + y.w) → (∀ y, l[k]? = some y → y.r + y.w < x.r + x.w) → k ≤ l.length → hins x l = l.take k ++ x :: l.drop k
  | [], k, _, _, hk => by
    have : k = 0 := by simpa using hk
    subst this
    rfl
  | y :: l, 0, _, h2, _ => by
    have := h2 y rfl
    unfold hins
    rw [if_neg (by omega)]
    rfl
  | y :: l, k + 1, h1, h2, hk => by
    have := h1 0 y (by omega) rfl
    unfold hins
    rw [if_pos this, hins_at (k := k) (fun j z hj hz => h1 (j + 1) z (by omega) (by simpa using hz)) (fun z hz => h2 z (by simpa using hz)) (by simpa using hk)]
    rfl
theorem hins_perm (x : Ht) : ∀ l : List Ht, (hins x l).Perm (x :: l)
  | [] => List.Perm.refl _
  | y :: l => by
    unfold hins
    split
    · exact ((hins_perm x l).cons y).trans (List.Perm.swap x y l)
    · exact List.Perm.refl _
theorem hins_sorted {x : Ht} : ∀ {l : List Ht}, l.Pairwise (fun a z => ltH z a = false) → (∀ y ∈ l, y.n < x.n) → (hins x l).Pairwise (fun a z => ltH z a = false)
  | [], _, _ => by simp [hins]
  | y :: l, h, hn => by
    have h' := List.pairwise_cons.1 h
    unfold hins
    split
    · rename_i hs
      refine List.pairwise_cons.2 ⟨fun z hz => ?_, hins_sorted h'.2 fun z hz => hn z (by simp [hz])⟩
      rcases List.mem_cons.1 ((hins_perm x l).mem_iff.1 hz) with rfl | hz
      · have := hn y (by simp)
        unfold ltH
        simp only [decide_eq_false_iff_not]
        omega
      · exact h'.1 z hz
    · rename_i hs
      refine List.pairwise_cons.2 ⟨fun z hz => ?_, h⟩
      rcases List.mem_cons.1 hz with rfl | hz
      · unfold ltH
        simp only [decide_eq_false_iff_not]
        omega
      · have := h'.1 z hz
        unfold ltH at this ⊢
        simp only [decide_eq_false_iff_not] at this ⊢
        omega
/-- How often an event of a log touches a line. -/
def cntE (L : List Ev) (n : Nat) (b : Bool) : Nat := L.countP fun e => decide (n ∈ linesA e.ask ∧ writesB e.ask e.ans = b)
theorem linesA_rise (a : Ak) : Rising (linesA a) := by
  unfold linesA
  split
  · exact rising_dl _
  · exact List.Pairwise.nil
theorem countP_rise (l : List Nat) (n : Nat) (c b : Bool) (h : Rising l) : (l.map fun x => (x, c)).countP (fun p => decide (p = (n, b))) = if n ∈ l ∧ c = b then 1 else 0 := by
  induction l with
  | nil => simp
  | cons m l ih =>
    have h' := List.pairwise_cons.1 h
    rw [List.map_cons, List.countP_cons, ih h'.2]
    have hml : m ∉ l := fun hm => by have := h'.1 m hm; omega
    by_cases hmn : m = n
    · subst hmn
      by_cases hc : c = b
      · simp [hml, hc]
      · simp [hc]
    · simp only [Prod.mk.injEq, hmn, false_and, decide_false, Bool.false_eq_true, if_false, Nat.add_zero, List.mem_cons, Ne.symm hmn, false_or]
theorem cnt_touches (L : List Ev) (n : Nat) (b : Bool) : cnt (touches L) n b = cntE L n b := by
  induction L with
  | nil => rfl
  | cons e L ih =>
    unfold cnt touches cntE at *
    rw [List.flatMap_cons, List.countP_append, ih, countP_rise _ _ _ _ (linesA_rise _), List.countP_cons]
    simp only [decide_eq_true_eq]
    omega
theorem cntE_snoc (L : List Ev) (e : Ev) (n : Nat) (b : Bool) : cntE (L ++ [e]) n b = cntE L n b + if n ∈ linesA e.ask ∧ writesB e.ask e.ans = b then 1 else 0 := by
  unfold cntE
  rw [List.countP_append, List.countP_singleton]
  simp
theorem cntE_le (L : List Ev) (n : Nat) (b : Bool) : cntE L n b ≤ L.length := List.countP_le_length
/-- What stands behind the first lines. -/
structure HotTo (T : List (Nat × Bool)) (D : List Nat) (H : List Ht) : Prop where
  sorted : H.Pairwise fun x z => ltH z x = false
  names : (H.map (·.n)).Perm D
  count : ∀ x ∈ H, x.r = cnt T x.n false ∧ x.w = cnt T x.n true
theorem HotTo.step {T : List (Nat × Bool)} {D : List Nat} {H : List Ht} {x : Ht} (t : HotTo T D H) (hD : ∀ n ∈ D, n < x.n) (hc : x.r = cnt T x.n false ∧ x.w = cnt T x.n true) : HotTo T (D ++ [x.n]) (hins x H) where
  sorted := hins_sorted t.sorted fun y hy => hD y.n (t.names.mem_iff.1 (List.mem_map.2 ⟨y, hy, rfl⟩))
  names := by
    have h1 := (hins_perm x H).map (·.n)
    refine h1.trans ?_
    rw [List.map_cons]
    exact (t.names.cons x.n).trans (List.perm_append_singleton x.n D).symm
  count := fun y hy => by
    rcases List.mem_cons.1 ((hins_perm x H).mem_iff.1 hy) with rfl | hy
    · exact hc
    · exact t.count y hy
theorem HotTo.hot {T : List (Nat × Bool)} {H : List Ht} (t : HotTo T (dl (T.map (·.1))) H) : IsHot T H where
  sorted := t.sorted
  nodup := t.names.nodup_iff.2 ((rising_dl _).imp (fun {a b} h => Nat.ne_of_lt h))
  count := t.count
  all := fun n => by rw [t.names.mem_iff, mem_dl]
section
set_option maxHeartbeats 8000000
set_option maxRecDepth 10000
variable {h : Hp} {K : Value → Hp → Prop}
theorem ev_ask (e : Ev) : e.cs.toArray.extract 1 (1 + 19) = e.ask.cs.toArray := by
  apply Array.ext'
  simp only [Array.toList_extract, List.extract_eq_take_drop]
  show (e.ask.cs ++ (e.ans.cs ++ [Value.int .i64 e.from_, Value.int .i64 e.at_, Value.int .i64 e.to])).take 19 = e.ask.cs
  rw [List.take_left' (by simp [Ak.cs])]
theorem ev_ans (e : Ev) : e.cs.toArray.extract 20 (20 + 42) = e.ans.cs.toArray := by
  apply Array.ext'
  simp only [Array.toList_extract, List.extract_eq_take_drop]
  show ((([Value.int .i64 e.hart] : List Value) ++ (e.ask.cs ++ (e.ans.cs ++ [Value.int .i64 e.from_, Value.int .i64 e.at_, Value.int .i64 e.to]))).drop 20).take 42 = e.ans.cs
  rw [← List.append_assoc, List.drop_left' (by simp [Ak.cs]), List.take_left' (by simp [An.cs, An.ms])]
theorem ht_cell {Hs : List Ht} {m : Nat} {y : Ht} {rest : List Value} (hy : Hs[m]? = some y) (i : Nat) (hi : i < 3) : (Hs.flatMap Ht.cs ++ rest)[m * 3 + i]? = y.cs[i]? := by
  have h1 := (flat_at (f := Ht.cs) (n := 3) (fun _ => rfl) Hs m y rest hy).1
  rw [← h1, List.getElem?_take_of_lt hi, List.getElem?_drop]
theorem aggH : isAggT Tryz.prog 37 = some true := by kernel_rfl
theorem sizH : sizeT Tryz.prog 37 = some 3 := by kernel_rfl
theorem infH : Tryz.prog.info? 37 = some Tryz.prog.types[37] := by kernel_rfl
theorem rhot_x (s : Value) (L : List Ev) (hr : RdE h s L) (hok : ∀ e ∈ L, e.ok) (hL : L.length ≤ 60)
    (hk : ∀ (H : List Ht) (s' : Value) (h' : Hp), IsHot (touches L) H → Owns h h' 37 3 s' H.length (H.flatMap Ht.cs) → K s' h') : X Tryz.prog 8 #[s] h K := by
  obtain ⟨base, cap, rfl, f⟩ := rdE_at2 hr
  have htl := touches_len hok
  refine fnv (args := _) mixed [(9, 9), (76, 9), (79, 9), (80, 9), (83, 9), (100, 9), (102, 9)] [] [] Tryz.func8 rfl (by kernel_rfl) ?_
  conv => whnf
  refine loop_at [4, 3] [] (fun r vs cs h' => ∃ (m : Nat) (sl : Value), m ≤ L.length ∧ r = L.length - m ∧ vs = [.v (.int .i64 m), .v sl] ∧ (sl = .slice none 0 0 ∧ dl ((touches (L.take m)).map (·.1)) = [] ∨ dl ((touches (L.take m)).map (·.1)) ≠ []) ∧ Owns h h' 23 1 sl (dl ((touches (L.take m)).map (·.1))).length ((dl ((touches (L.take m)).map (·.1))).map uv)) L.length ⟨0, .slice none 0 0, by omega, by omega, rfl, .inl ⟨rfl, rfl⟩, Owns.nil (Hp.le_refl _)⟩ ?_
  rintro r vs cs mm bx h3 ⟨m, sl, hm, rfl, rfl, hst, hO3⟩
  have le3 := hO3.le
  conv => whnf
  refine bsel_intro (fun q1 => ?_) (fun q1 => ?_) <;> try simp only [decide_eq_true_eq, decide_eq_false_iff_not, beq_iff_eq, beq_eq_false_iff_ne, ne_eq, Bool.not_eq_true', Bool.not_eq_false', bne_iff_ne, bne_eq_false_iff_eq, Bool.not_eq_true, Bool.not_eq_false, Bool.and_eq_true, Bool.or_eq_true, bs_size] at q1
  · have hmL : m < L.length := by omega
    obtain ⟨e, he⟩ : ∃ e, L[m]? = some e := ⟨_, List.getElem?_eq_getElem hmL⟩
    have heo := hok e (List.mem_of_getElem? he)
    obtain ⟨a, rfl, l1⟩ := f m e he
    have hts := take_snoc he
    have htl2 := touches_len (L := L.take m) (fun x hx => hok x (List.mem_of_mem_take hx))
    rw [List.length_take] at htl2
    have hsn := touches_snoc (L.take m) e
    rw [← hts] at hsn
    have hfst : (touches (L.take (m + 1))).map (·.1) = (touches (L.take m)).map (·.1) ++ linesA e.ask := by rw [hsn, List.map_append, List.map_map]; simp [Function.comp_def]
    have hTl : ((touches (L.take m)).map (·.1)).length ≤ 480 := by rw [List.length_map]; omega
    generalize (touches (L.take m)).map (·.1) = P at *
    have l13 := loadH_le le3 l1
    have la : loadH Tryz.prog 48 h3 ((a.add (((m : Nat) : Int).toNat * 65)).add 1) = some (.agg e.ask.cs.toArray) := by
      have := loadH_sub (k := 1) aggEv sizEv aggAk sizAk l13 (by decide)
      rw [this, ev_ask]
    conv => whnf
    first | refine need_intro (⟨by omega, by omega⟩) ?_ | refine must.mk (⟨by omega, by omega⟩) ?_
    conv => whnf
    refine ⟨_, la, ?_⟩
    conv => whnf
    refine rlines_x e.ask heo.ask fun sx h7 hOx => ?_
    have hLl := linesA_len e.ask heo.ask
    have hob_ := hO3.also aggU hOx
    obtain ⟨kk7, l7, hO7, rx⟩ := hob_
    clear hOx hO3
    obtain ⟨bx2, cx, rfl, fx⟩ := rdU rx
    conv => whnf
    refine loop_at [6, 3] [] (fun r vs cs h' => ∃ (j : Nat) (sl : Value), j ≤ (linesA e.ask).length ∧ r = (linesA e.ask).length - j ∧ vs = [.v (.int .i64 j), .v sl] ∧ (sl = .slice none 0 0 ∧ dl (P ++ (linesA e.ask).take j) = [] ∨ dl (P ++ (linesA e.ask).take j) ≠ []) ∧ Owns kk7 h' 23 1 sl (dl (P ++ (linesA e.ask).take j)).length ((dl (P ++ (linesA e.ask).take j)).map uv)) (linesA e.ask).length ⟨0, sl, by omega, by omega, rfl, by simpa using hst, by simpa using hO7⟩ ?_
    clear hO7 hst
    rintro r vs cs mm bx3 h8 ⟨j, sl, hj, rfl, rfl, hst8, hO8⟩
    conv => whnf
    refine bsel_intro (fun q3 => ?_) (fun q3 => ?_) <;> try simp only [decide_eq_true_eq, decide_eq_false_iff_not, beq_iff_eq, beq_eq_false_iff_ne, ne_eq, Bool.not_eq_true', Bool.not_eq_false', bne_iff_ne, bne_eq_false_iff_eq, Bool.not_eq_true, Bool.not_eq_false, Bool.and_eq_true, Bool.or_eq_true, bs_size] at q3
    · have hjL : j < (linesA e.ask).length := by omega
      obtain ⟨n, hn⟩ : ∃ n, (linesA e.ask)[j]? = some n := ⟨_, List.getElem?_eq_getElem hjL⟩
      obtain ⟨a2, rfl, l2⟩ := fx j n hn
      have hts2 := take_snoc hn
      have hfl : dl (P ++ (linesA e.ask).take (j + 1)) = ins n (dl (P ++ (linesA e.ask).take j)) := by rw [hts2, ← List.append_assoc, dl_snoc]
      have hrise := rising_dl (P ++ (linesA e.ask).take j)
      have hlen := dl_len_le (P ++ (linesA e.ask).take j)
      rw [List.length_append, List.length_take] at hlen
      generalize dl (P ++ (linesA e.ask).take j) = D at *
      have l28 := loadH_le hO8.le l2
      conv => whnf
      first | refine need_intro (⟨by omega, by omega⟩) ?_ | refine must.mk (⟨by omega, by omega⟩) ?_
      conv => whnf
      refine ⟨_, l28, ?_⟩
      conv => whnf
      refine put_xU sl D n hrise hO8 (by omega) hst8 fun s9 h9 hO9 => ?_
      conv => whnf
      first | refine ov_i64 (by omega) ?_ | refine ov_u64 (by omega) ?_ | refine ov_i64 (by decide) ?_ | refine ov_u64 (by decide) ?_ | refine ov_u8 (by omega) ?_ | refine ov_i32 (by omega) ?_ | refine ov_u32 (by omega) ?_
      conv => whnf
      refine ⟨(linesA e.ask).length - (j + 1), by omega, j + 1, s9, by omega, rfl, rfl, ?_, ?_⟩
      · rw [hfl]
        exact .inr fun hh => by
          have : n ∈ ins n D := mem_ins.2 (.inl rfl)
          rw [hh] at this; cases this
      · rw [hfl]; exact hO9
    have hjn : j = (linesA e.ask).length := by omega
    subst hjn
    rw [List.take_length, ← hfst] at hO8 hst8
    conv => whnf
    first | refine ov_i64 (by omega) ?_ | refine ov_u64 (by omega) ?_ | refine ov_i64 (by decide) ?_ | refine ov_u64 (by decide) ?_ | refine ov_u8 (by omega) ?_ | refine ov_i32 (by omega) ?_ | refine ov_u32 (by omega) ?_
    conv => whnf
    exact ⟨L.length - (m + 1), by omega, m + 1, sl, by omega, rfl, rfl, hst8, hO8.weak l7⟩
  have hmn : m = L.length := by omega
  subst hmn
  rw [List.take_length] at hO3 hst
  have hrise := rising_dl ((touches L).map (·.1))
  have hDl := dl_len_le ((touches L).map (·.1))
  rw [List.length_map] at hDl
  have hbnd : ∀ n, cntE L n false ≤ 60 ∧ cntE L n true ≤ 60 := fun n => ⟨Nat.le_trans (cntE_le _ _ _) hL, Nat.le_trans (cntE_le _ _ _) hL⟩
  have hct : ∀ n b, cnt (touches L) n b = cntE L n b := fun n b => cnt_touches L n b
  have hfin : ∀ H, HotTo (touches L) (dl ((touches L).map (·.1))) H → IsHot (touches L) H := fun H t => t.hot
  generalize dl ((touches L).map (·.1)) = D at *
  obtain ⟨bl, cl, rfl, fl⟩ := rdU (hO3.rd aggU)
  have hn64 : Owns h3 h3 37 3 (.slice none 0 0) 0 [] := Owns.nil (Hp.le_refl _)
  clear hO3 hst
  conv => whnf
  refine loop_at [8, 7] [] (fun r vs cs h' => ∃ (k : Nat) (Hs : List Ht) (sl : Value), k ≤ D.length ∧ r = D.length - k ∧ vs = [.v (.int .i64 k), .v sl] ∧ (sl = .slice none 0 0 ∧ Hs = [] ∨ Hs ≠ []) ∧ HotTo (touches L) (D.take k) Hs ∧ Owns h3 h' 37 3 sl Hs.length (Hs.flatMap Ht.cs)) D.length ⟨0, [], .slice none 0 0, by omega, by omega, rfl, .inl ⟨rfl, rfl⟩, ⟨List.Pairwise.nil, List.Perm.refl _, fun x hx => by cases hx⟩, hn64⟩ ?_
  clear hn64
  rintro r vs cs mm bx h4 ⟨k, Hs, sl, hk1, rfl, rfl, hst, hH, hO4⟩
  have le4 := hO4.le
  conv => whnf
  refine bsel_intro (fun q5 => ?_) (fun q5 => ?_) <;> try simp only [decide_eq_true_eq, decide_eq_false_iff_not, beq_iff_eq, beq_eq_false_iff_ne, ne_eq, Bool.not_eq_true', Bool.not_eq_false', bne_iff_ne, bne_eq_false_iff_eq, Bool.not_eq_true, Bool.not_eq_false, Bool.and_eq_true, Bool.or_eq_true, bs_size] at q5
  · have hkD : k < D.length := by omega
    obtain ⟨n, hn⟩ : ∃ n, D[k]? = some n := ⟨_, List.getElem?_eq_getElem hkD⟩
    obtain ⟨a2, rfl, l2⟩ := fl k n hn
    have htD := take_snoc hn
    have hlt : ∀ y ∈ D.take k, y < n := fun y hy => by
      obtain ⟨j, hj, rfl⟩ := List.mem_iff_getElem.1 hy
      rw [List.length_take] at hj
      rw [List.getElem_take]
      have h5 := List.pairwise_iff_getElem.1 hrise j k (by omega) hkD (by omega)
      have h6 : D[k] = n := by have := List.getElem?_eq_getElem hkD; rw [hn] at this; exact (Option.some.inj this).symm
      rw [h6] at h5
      exact h5
    have hHl : Hs.length ≤ 480 := by
      have := hH.names.length_eq
      rw [List.length_map, List.length_take] at this
      omega
    have l24 := loadH_le le4 l2
    obtain ⟨x, hxn, hxr, hxw⟩ : ∃ x : Ht, x.n = n ∧ x.r = cntE L n false ∧ x.w = cntE L n true := ⟨⟨n, cntE L n false, cntE L n true, by have := hbnd n; omega, by have := hbnd n; omega⟩, rfl, rfl, rfl⟩
    have hstep : HotTo (touches L) (D.take (k + 1)) (hins x Hs) := by
      rw [htD, ← hxn]
      refine hH.step (fun y hy => by rw [hxn]; exact hlt y hy) ?_
      rw [hct, hct, hxn]; exact ⟨hxr, hxw⟩
    have hle03 := Hp.le_trans le3 le4
    conv => whnf
    first | refine need_intro (⟨by omega, by omega⟩) ?_ | refine must.mk (⟨by omega, by omega⟩) ?_
    conv => whnf
    refine ⟨_, l24, ?_⟩
    conv => whnf
    refine loop_at [10] [9] (fun r vs cs h' => h4 = h' ∧ ∃ i : Nat, i ≤ L.length ∧ r = L.length - i ∧ vs = [.v (.int .i64 i)] ∧ cs = [some [uv n, zv (cntE (L.take i) n false : Nat), zv (cntE (L.take i) n true : Nat)]]) L.length ⟨rfl, 0, by omega, by omega, rfl, rfl⟩ ?_
    rintro r vs cs mm bx4 _ ⟨rfl, i, hi, rfl, rfl, rfl⟩
    conv => whnf
    refine bsel_intro (fun q6 => ?_) (fun q6 => ?_) <;> try simp only [decide_eq_true_eq, decide_eq_false_iff_not, beq_iff_eq, beq_eq_false_iff_ne, ne_eq, Bool.not_eq_true', Bool.not_eq_false', bne_iff_ne, bne_eq_false_iff_eq, Bool.not_eq_true, Bool.not_eq_false, Bool.and_eq_true, Bool.or_eq_true, bs_size] at q6
    · have hiL : i < L.length := by omega
      obtain ⟨e, he⟩ : ∃ e, L[i]? = some e := ⟨_, List.getElem?_eq_getElem hiL⟩
      have heo := hok e (List.mem_of_getElem? he)
      obtain ⟨a, rfl, l1⟩ := f i e he
      have hts := take_snoc he
      have l13 := loadH_le hle03 l1
      have la : loadH Tryz.prog 48 h4 ((a.add (((i : Nat) : Int).toNat * 65)).add 1) = some (.agg e.ask.cs.toArray) := by
        have := loadH_sub (k := 1) aggEv sizEv aggAk sizAk l13 (by decide)
        rw [this, ev_ask]
      have lb : loadH Tryz.prog 51 h4 ((a.add (((i : Nat) : Int).toNat * 65)).add 20) = some (.agg e.ans.cs.toArray) := by
        have := loadH_sub (k := 20) aggEv sizEv aggAn sizAn l13 (by decide)
        rw [this, ev_ans]
      have hs1 := cntE_snoc (L.take i) e n false
      have hs2 := cntE_snoc (L.take i) e n true
      rw [← hts] at hs1 hs2
      have hb1 := Nat.le_trans (cntE_le (L.take i) n false) (by rw [List.length_take]; exact Nat.min_le_right _ _)
      have hb2 := Nat.le_trans (cntE_le (L.take i) n true) (by rw [List.length_take]; exact Nat.min_le_right _ _)
      generalize cntE (L.take i) n false = c1 at *
      generalize cntE (L.take i) n true = c2 at *
      conv => whnf
      first | refine need_intro (⟨by omega, by omega⟩) ?_ | refine must.mk (⟨by omega, by omega⟩) ?_
      conv => whnf
      refine ⟨_, la, ?_⟩
      conv => whnf
      first | refine need_intro (⟨by omega, by omega⟩) ?_ | refine must.mk (⟨by omega, by omega⟩) ?_
      conv => whnf
      refine ⟨_, l24, ?_⟩
      conv => whnf
      refine touches_x e.ask heo.ask n ?_
      refine ⟨trivial, ?_⟩
      conv => whnf
      refine bsel_intro (fun q7 => ?_) (fun q7 => ?_)
      · have q7 : n ∉ linesA e.ask := by simpa using q7
        rw [if_neg (fun hh => q7 hh.1), Nat.add_zero] at hs1 hs2
        conv => whnf
        first | refine ov_i64 (by omega) ?_ | refine ov_u64 (by omega) ?_ | refine ov_i64 (by decide) ?_ | refine ov_u64 (by decide) ?_ | refine ov_u8 (by omega) ?_ | refine ov_i32 (by omega) ?_ | refine ov_u32 (by omega) ?_
        conv => whnf
        exact ⟨L.length - (i + 1), by omega, rfl, i + 1, by omega, rfl, rfl, by rw [hs1, hs2]; rfl⟩
      · have q7 : n ∈ linesA e.ask := by simpa using q7
        conv => whnf
        first | refine need_intro (⟨by omega, by omega⟩) ?_ | refine must.mk (⟨by omega, by omega⟩) ?_
        conv => whnf
        refine ⟨_, la, ?_⟩
        conv => whnf
        first | refine need_intro (⟨by omega, by omega⟩) ?_ | refine must.mk (⟨by omega, by omega⟩) ?_
        conv => whnf
        refine ⟨_, lb, ?_⟩
        conv => whnf
        refine rwrites_x e.ask e.ans ?_
        generalize hwb : writesB e.ask e.ans = wb at *
        refine ⟨trivial, ?_⟩
        conv => whnf
        cases wb with
        | true =>
          rw [if_neg (fun hh => by cases hh.2), Nat.add_zero] at hs1
          rw [if_pos ⟨q7, rfl⟩] at hs2
          conv => whnf
          first | refine ov_i64 (by omega) ?_ | refine ov_u64 (by omega) ?_ | refine ov_i64 (by decide) ?_ | refine ov_u64 (by decide) ?_ | refine ov_u8 (by omega) ?_ | refine ov_i32 (by omega) ?_ | refine ov_u32 (by omega) ?_
          conv => whnf
          first | refine ov_i64 (by omega) ?_ | refine ov_u64 (by omega) ?_ | refine ov_i64 (by decide) ?_ | refine ov_u64 (by decide) ?_ | refine ov_u8 (by omega) ?_ | refine ov_i32 (by omega) ?_ | refine ov_u32 (by omega) ?_
          conv => whnf
          exact ⟨L.length - (i + 1), by omega, rfl, i + 1, by omega, rfl, rfl, by rw [hs1, hs2]; rfl⟩
        | false =>
          rw [if_neg (fun hh => by cases hh.2), Nat.add_zero] at hs2
          rw [if_pos ⟨q7, rfl⟩] at hs1
          conv => whnf
          first | refine ov_i64 (by omega) ?_ | refine ov_u64 (by omega) ?_ | refine ov_i64 (by decide) ?_ | refine ov_u64 (by decide) ?_ | refine ov_u8 (by omega) ?_ | refine ov_i32 (by omega) ?_ | refine ov_u32 (by omega) ?_
          conv => whnf
          first | refine ov_i64 (by omega) ?_ | refine ov_u64 (by omega) ?_ | refine ov_i64 (by decide) ?_ | refine ov_u64 (by decide) ?_ | refine ov_u8 (by omega) ?_ | refine ov_i32 (by omega) ?_ | refine ov_u32 (by omega) ?_
          conv => whnf
          exact ⟨L.length - (i + 1), by omega, rfl, i + 1, by omega, rfl, rfl, by rw [hs1, hs2]; rfl⟩
    have hin : i = L.length := by omega
    subst hin
    rw [List.take_length, ← hxr, ← hxw]
    have hxcs : x.cs = [uv n, zv (x.r : Nat), zv (x.w : Nat)] := by rw [← hxn]; rfl
    have hx1 := x.hr
    have hx2 := x.hw
    have hcell0 : ∀ (bb : Nat) (rest : List Value), h4 bb = some (rowO 37 (Hs.flatMap Ht.cs ++ rest)) → ∀ (j : Nat) (v : Value), (Hs.flatMap Ht.cs)[j]? = some v → h4.cell? ⟨bb, j, none⟩ = some v := fun bb rest hb j v hj => cell_row hb (by
      rw [List.getElem?_append_left (List.getElem?_eq_some_iff.1 hj).1]; exact hj)
    have hHs3 : (Hs.flatMap Ht.cs).length = Hs.length * 3 := flat_length (n := 3) (f := Ht.cs) (fun _ => rfl) Hs
    by_cases hH0 : sl = .slice none 0 0 ∧ Hs = []
    · obtain ⟨rfl, rfl⟩ := hH0
      conv => whnf
      refine loop_step ?_
      conv => whnf
      refine new_intro (o := rowO 37 []) (fun z h5 n_z le_z at_z ot_z => ?_)
      conv => whnf
      have hz : Owns h3 h5 37 3 (.slice (some ⟨z, 0, none⟩) 0 0) 0 [] := ⟨some z, ⟨rfl, .inr ⟨z, 0, [], rfl, rfl, Nat.le_refl _, rfl, at_z⟩⟩, Hp.le_trans hO4.le le_z, fun c e => by cases e; exact Hp.none_le hO4.le n_z⟩
      refine Owns.appN (z := .agg #[uv 0, zv 0, zv 0]) (news := []) (bytes := 24) (by kernel_rfl) infH (by kernel_rfl) (by kernel_rfl) (by kernel_rfl) rfl (by decide) rfl rfl rfl hz rfl (fun j v hj => by simp at hj) (fun _ => rfl) rfl (by decide) fun s5 h6 hO5 => ?_
      conv => whnf
      refine new_intro (o := rowO 37 [uv n, zv (x.r : Nat), zv (x.w : Nat)]) (fun y h7 n_y le_y at_y ot_y => ?_)
      conv => whnf
      refine Owns.app1 (z := .agg #[uv 0, zv 0, zv 0]) (by kernel_rfl) infH (by kernel_rfl) (by kernel_rfl) (by kernel_rfl) rfl (bytes := 24) (by decide) rfl rfl rfl (hO5.up le_y) at_y rfl rfl (by decide) fun s7 h8 hO7 => ?_
      conv => whnf
      refine Owns.appN (z := .agg #[uv 0, zv 0, zv 0]) (news := []) (bytes := 24) (by kernel_rfl) infH (by kernel_rfl) (by kernel_rfl) (by kernel_rfl) rfl (by decide) rfl rfl rfl hO7 rfl (fun j v hj => by simp at hj) (fun _ => rfl) rfl (by decide) fun s8 h9 hO8 => ?_
      have hv8 := hO8.shape
      obtain ⟨sa, sc, rfl⟩ := hv8
      conv => whnf
      first | refine ov_i64 (by omega) ?_ | refine ov_u64 (by omega) ?_ | refine ov_i64 (by decide) ?_ | refine ov_u64 (by decide) ?_ | refine ov_u8 (by omega) ?_ | refine ov_i32 (by omega) ?_ | refine ov_u32 (by omega) ?_
      conv => whnf
      refine ⟨D.length - (k + 1), by omega, k + 1, hins x [], _, by omega, rfl, rfl, .inr (by simp [hins]), hstep, ?_⟩
      show Owns h3 h9 _ 3 _ 1 ([x].flatMap Ht.cs)
      rw [show [x].flatMap Ht.cs = x.cs by simp, hxcs]
      exact hO8
    have hH1 : Hs ≠ [] := hst.resolve_left hH0
    have hHpos : 0 < Hs.length := List.length_pos_iff.2 hH1
    obtain ⟨bb, cap2, rest, rfl, hcap, hbb, hkb⟩ := hO4.row hHpos
    have hcell := hcell0 bb rest hbb
    have next : ∀ j : Nat, j ≤ Hs.length → (∀ i y, i < j → Hs[i]? = some y → x.r + x.w ≤ y.r + y.w) → (∀ y, Hs[j]? = some y → y.r + y.w < x.r + x.w) → hins x Hs = Hs.take j ++ x :: Hs.drop j := fun j hj h1 h2 => hins_at h1 h2 hj
    conv => whnf
    refine loop_at [11] [9] (fun r vs cs h' => h4 = h' ∧ ∃ j : Nat, j ≤ Hs.length ∧ r = Hs.length - j ∧ vs = [.v (.int .i64 j)] ∧ cs = [some [uv n, zv (x.r : Nat), zv (x.w : Nat)]] ∧ ∀ i y, i < j → Hs[i]? = some y → x.r + x.w ≤ y.r + y.w) Hs.length ⟨rfl, 0, by omega, by omega, rfl, rfl, fun i y hi => by omega⟩ ?_
    rintro r vs cs mm bx5 _ ⟨rfl, m, hm1, rfl, rfl, rfl, hlo⟩
    conv => whnf
    refine bsel_intro (fun q8 => ?_) (fun q8 => ?_) <;> try simp only [decide_eq_true_eq, decide_eq_false_iff_not, beq_iff_eq, beq_eq_false_iff_ne, ne_eq, Bool.not_eq_true', Bool.not_eq_false', bne_iff_ne, bne_eq_false_iff_eq, Bool.not_eq_true, Bool.not_eq_false, Bool.and_eq_true, Bool.or_eq_true, bs_size] at q8
    · have hmH : m < Hs.length := by omega
      obtain ⟨y, hy⟩ : ∃ y, Hs[m]? = some y := ⟨_, List.getElem?_eq_getElem hmH⟩
      have hy1 := y.hr
      have hy2 := y.hw
      have ay : ∀ i, (((⟨bb, 0, none⟩ : Addr).add (((m : Nat) : Int).toNat * 3)).add i) = ⟨bb, m * 3 + i, none⟩ := fun i => by simp [addr_add]
      conv => whnf
      first | refine need_intro (⟨by omega, by omega⟩) ?_ | refine must.mk (⟨by omega, by omega⟩) ?_
      conv => whnf
      refine ⟨_, loadCA (ay 1) aggI6 hbb (ht_cell hy 1 (by decide)), ?_⟩
      conv => whnf
      first | refine need_intro (⟨by omega, by omega⟩) ?_ | refine must.mk (⟨by omega, by omega⟩) ?_
      conv => whnf
      refine ⟨_, loadCA (ay 2) aggI6 hbb (ht_cell hy 2 (by decide)), ?_⟩
      conv => whnf
      first | refine ov_i64 (by omega) ?_ | refine ov_u64 (by omega) ?_ | refine ov_i64 (by decide) ?_ | refine ov_u64 (by decide) ?_ | refine ov_u8 (by omega) ?_ | refine ov_i32 (by omega) ?_ | refine ov_u32 (by omega) ?_
      conv => whnf
      first | refine ov_i64 (by omega) ?_ | refine ov_u64 (by omega) ?_ | refine ov_i64 (by decide) ?_ | refine ov_u64 (by decide) ?_ | refine ov_u8 (by omega) ?_ | refine ov_i32 (by omega) ?_ | refine ov_u32 (by omega) ?_
      conv => whnf
      refine bsel_intro (fun q9 => ?_) (fun q9 => ?_) <;> try simp only [decide_eq_true_eq, decide_eq_false_iff_not, beq_iff_eq, beq_eq_false_iff_ne, ne_eq, Bool.not_eq_true', Bool.not_eq_false', bne_iff_ne, bne_eq_false_iff_eq, Bool.not_eq_true, Bool.not_eq_false, Bool.and_eq_true, Bool.or_eq_true, bs_size] at q9
      · conv => whnf
        first | refine ov_i64 (by omega) ?_ | refine ov_u64 (by omega) ?_ | refine ov_i64 (by decide) ?_ | refine ov_u64 (by decide) ?_ | refine ov_u8 (by omega) ?_ | refine ov_i32 (by omega) ?_ | refine ov_u32 (by omega) ?_
        conv => whnf
        refine ⟨Hs.length - (m + 1), by omega, rfl, m + 1, by omega, rfl, rfl, rfl, fun i z hi hz => ?_⟩
        by_cases ei : i = m
        · subst ei; rw [hy] at hz; cases hz; omega
        · exact hlo i z (by omega) hz
      · have hge : ∀ z, Hs[m]? = some z → z.r + z.w < x.r + x.w := fun z hz => by rw [hy] at hz; cases hz; omega
        have hins2 := next m hm1 hlo hge
        conv => whnf
        refine new_intro (o := rowO 37 []) (fun z h5 n_z le_z at_z ot_z => ?_)
        conv => whnf
        have hz : Owns h4 h5 37 3 (.slice (some ⟨z, 0, none⟩) 0 0) 0 [] := ⟨some z, ⟨rfl, .inr ⟨z, 0, [], rfl, rfl, Nat.le_refl _, rfl, at_z⟩⟩, le_z, fun c e => by cases e; exact n_z⟩
        have hlT : ((Hs.take m).flatMap Ht.cs).length = m * 3 := by rw [flat_length (n := 3) (f := Ht.cs) (fun _ => rfl), List.length_take, Nat.min_eq_left hm1]
        have hlD : ((Hs.drop m).flatMap Ht.cs).length = (Hs.length - m) * 3 := by rw [flat_length (n := 3) (f := Ht.cs) (fun _ => rfl), List.length_drop]
        have hsplit : Hs.flatMap Ht.cs = (Hs.take m).flatMap Ht.cs ++ (Hs.drop m).flatMap Ht.cs := by rw [← List.flatMap_append, List.take_append_drop]
        have h1T : ((Hs.take m).flatMap Ht.cs).all Value.oneCell' = true := by simp [Ht.cs, Value.oneCell']
        have h1D : ((Hs.drop m).flatMap Ht.cs).all Value.oneCell' = true := by simp [Ht.cs, Value.oneCell']
        first | refine need_intro (⟨by omega, by omega⟩) ?_ | refine must.mk (⟨by omega, by omega⟩) ?_
        conv => whnf
        refine bsel_false ?_ ?_
        · simp; omega
        conv => whnf
        refine Owns.appN (z := .agg #[uv 0, zv 0, zv 0]) (news := (Hs.take m).flatMap Ht.cs) (bytes := 24) (by kernel_rfl) infH (by kernel_rfl) (by kernel_rfl) (by kernel_rfl) rfl (by decide) rfl rfl rfl hz (by rw [hlT]; show m * 3 = (((m : Nat) : Int).toNat - 0) * 3; omega) (fun j v hj => ⟨_, rfl, ?_⟩) (fun e => by cases e) h1T (by show 0 + (((m : Nat) : Int).toNat - 0) ≤ _; omega) fun s5 h6 hO5 => ?_
        · show h5.cell? (((⟨bb, 0, none⟩ : Addr).add (0 * 3)).add j) = _
          rw [addr_add, addr_add]
          refine cell_le le_z ?_
          have := hcell j v (by rw [hsplit, List.getElem?_append_left (List.getElem?_eq_some_iff.1 hj).1]; exact hj)
          simpa using this
        have hO5 : Owns h4 h6 37 3 s5 m ((Hs.take m).flatMap Ht.cs) := by
          have hO5' := hO5
          rw [show 0 + (((m : Nat) : Int).toNat - 0) = m by omega] at hO5'
          exact hO5'
        conv => whnf
        refine new_intro (o := rowO 37 [uv n, zv (x.r : Nat), zv (x.w : Nat)]) (fun y h7 n_y le_y at_y ot_y => ?_)
        conv => whnf
        refine Owns.app1 (z := .agg #[uv 0, zv 0, zv 0]) (by kernel_rfl) infH (by kernel_rfl) (by kernel_rfl) (by kernel_rfl) rfl (bytes := 24) (by decide) rfl rfl rfl (hO5.up le_y) at_y rfl rfl (by omega) fun s7 h8 hO7 => ?_
        have e1 : (Hs.take m).flatMap Ht.cs ++ [uv n, zv (x.r : Nat), zv (x.w : Nat)] ++ (Hs.drop m).flatMap Ht.cs = (hins x Hs).flatMap Ht.cs := by rw [hins2, ← hxcs]; simp
        have e2 : m + 1 + (Hs.length - m) = (hins x Hs).length := by rw [hins2]; simp; omega
        have hne : hins x Hs ≠ [] := fun hh => by rw [hh] at e2; simp at e2
        conv => whnf
        first | refine need_intro (⟨by omega, by omega⟩) ?_ | refine must.mk (⟨by omega, by omega⟩) ?_
        conv => whnf
        refine bsel_intro (fun qc => ?_) (fun qc => ?_)
        · have qc : cap2 = m := by have := of_decide_eq_true qc; omega
          have hkl : (Hs.drop m).flatMap Ht.cs = [] := by rw [List.drop_eq_nil_of_le (by omega)]; rfl
          conv => whnf
          refine Owns.appN (z := .agg #[uv 0, zv 0, zv 0]) (news := (Hs.drop m).flatMap Ht.cs) (bytes := 24) (by kernel_rfl) infH (by kernel_rfl) (by kernel_rfl) (by kernel_rfl) rfl (by decide) rfl rfl rfl hO7 (by rw [hlD]; show _ = (Hs.length - ((m : Nat) : Int).toNat) * 3; omega) (fun j v hj => by rw [hkl] at hj; simp at hj) (fun e => by cases e) h1D (by show _ + (Hs.length - ((m : Nat) : Int).toNat) ≤ _; omega) fun s8 h9 hO8 => ?_
          rw [show Hs.length - ((m : Nat) : Int).toNat = Hs.length - m by omega, e1, e2] at hO8
          obtain ⟨sa, sc, rfl⟩ := hO8.shape
          conv => whnf
          first | refine ov_i64 (by omega) ?_ | refine ov_u64 (by omega) ?_ | refine ov_i64 (by decide) ?_ | refine ov_u64 (by decide) ?_ | refine ov_u8 (by omega) ?_ | refine ov_i32 (by omega) ?_ | refine ov_u32 (by omega) ?_
          conv => whnf
          exact ⟨D.length - (k + 1), by omega, k + 1, hins x Hs, _, by omega, rfl, rfl, .inr hne, hstep, hO8.weak le4⟩
        · conv => whnf
          refine Owns.appN (z := .agg #[uv 0, zv 0, zv 0]) (news := (Hs.drop m).flatMap Ht.cs) (bytes := 24) (by kernel_rfl) infH (by kernel_rfl) (by kernel_rfl) (by kernel_rfl) rfl (by decide) rfl rfl rfl hO7 (by rw [hlD]; show _ = (Hs.length - ((m : Nat) : Int).toNat) * 3; omega) (fun j v hj => ⟨_, rfl, ?_⟩) (fun e => by cases e) h1D (by show _ + (Hs.length - ((m : Nat) : Int).toNat) ≤ _; omega) fun s8 h9 hO8 => ?_
          · show h8.cell? (((⟨bb, 0, none⟩ : Addr).add (((m : Int)).toNat * 3)).add j) = _
            rw [addr_add, addr_add, Int.toNat_natCast, Nat.zero_add]
            refine cell_le hO7.le (hcell (m * 3 + j) v ?_)
            rw [hsplit, List.getElem?_append_right (by omega), hlT, Nat.add_sub_cancel_left]
            exact hj
          rw [show Hs.length - ((m : Nat) : Int).toNat = Hs.length - m by omega, e1, e2] at hO8
          obtain ⟨sa, sc, rfl⟩ := hO8.shape
          conv => whnf
          first | refine ov_i64 (by omega) ?_ | refine ov_u64 (by omega) ?_ | refine ov_i64 (by decide) ?_ | refine ov_u64 (by decide) ?_ | refine ov_u8 (by omega) ?_ | refine ov_i32 (by omega) ?_ | refine ov_u32 (by omega) ?_
          conv => whnf
          exact ⟨D.length - (k + 1), by omega, k + 1, hins x Hs, _, by omega, rfl, rfl, .inr hne, hstep, hO8.weak le4⟩
    · have hge : ∀ z, Hs[m]? = some z → z.r + z.w < x.r + x.w := fun z hz => by
        have := (List.getElem?_eq_some_iff.1 hz).1
        omega
      have hins2 := next m hm1 hlo hge
      conv => whnf
      refine new_intro (o := rowO 37 []) (fun z h5 n_z le_z at_z ot_z => ?_)
      conv => whnf
      have hz : Owns h4 h5 37 3 (.slice (some ⟨z, 0, none⟩) 0 0) 0 [] := ⟨some z, ⟨rfl, .inr ⟨z, 0, [], rfl, rfl, Nat.le_refl _, rfl, at_z⟩⟩, le_z, fun c e => by cases e; exact n_z⟩
      have hlT : ((Hs.take m).flatMap Ht.cs).length = m * 3 := by rw [flat_length (n := 3) (f := Ht.cs) (fun _ => rfl), List.length_take, Nat.min_eq_left hm1]
      have hlD : ((Hs.drop m).flatMap Ht.cs).length = (Hs.length - m) * 3 := by rw [flat_length (n := 3) (f := Ht.cs) (fun _ => rfl), List.length_drop]
      have hsplit : Hs.flatMap Ht.cs = (Hs.take m).flatMap Ht.cs ++ (Hs.drop m).flatMap Ht.cs := by rw [← List.flatMap_append, List.take_append_drop]
      have h1T : ((Hs.take m).flatMap Ht.cs).all Value.oneCell' = true := by simp [Ht.cs, Value.oneCell']
      have h1D : ((Hs.drop m).flatMap Ht.cs).all Value.oneCell' = true := by simp [Ht.cs, Value.oneCell']
      first | refine need_intro (⟨by omega, by omega⟩) ?_ | refine must.mk (⟨by omega, by omega⟩) ?_
      conv => whnf
      refine bsel_false ?_ ?_
      · simp; omega
      conv => whnf
      refine Owns.appN (z := .agg #[uv 0, zv 0, zv 0]) (news := (Hs.take m).flatMap Ht.cs) (bytes := 24) (by kernel_rfl) infH (by kernel_rfl) (by kernel_rfl) (by kernel_rfl) rfl (by decide) rfl rfl rfl hz (by rw [hlT]; show m * 3 = (((m : Nat) : Int).toNat - 0) * 3; omega) (fun j v hj => ⟨_, rfl, ?_⟩) (fun e => by cases e) h1T (by show 0 + (((m : Nat) : Int).toNat - 0) ≤ _; omega) fun s5 h6 hO5 => ?_
      · show h5.cell? (((⟨bb, 0, none⟩ : Addr).add (0 * 3)).add j) = _
        rw [addr_add, addr_add]
        refine cell_le le_z ?_
        have := hcell j v (by rw [hsplit, List.getElem?_append_left (List.getElem?_eq_some_iff.1 hj).1]; exact hj)
        simpa using this
      have hO5 : Owns h4 h6 37 3 s5 m ((Hs.take m).flatMap Ht.cs) := by
        have hO5' := hO5
        rw [show 0 + (((m : Nat) : Int).toNat - 0) = m by omega] at hO5'
        exact hO5'
      conv => whnf
      refine new_intro (o := rowO 37 [uv n, zv (x.r : Nat), zv (x.w : Nat)]) (fun y h7 n_y le_y at_y ot_y => ?_)
      conv => whnf
      refine Owns.app1 (z := .agg #[uv 0, zv 0, zv 0]) (by kernel_rfl) infH (by kernel_rfl) (by kernel_rfl) (by kernel_rfl) rfl (bytes := 24) (by decide) rfl rfl rfl (hO5.up le_y) at_y rfl rfl (by omega) fun s7 h8 hO7 => ?_
      have e1 : (Hs.take m).flatMap Ht.cs ++ [uv n, zv (x.r : Nat), zv (x.w : Nat)] ++ (Hs.drop m).flatMap Ht.cs = (hins x Hs).flatMap Ht.cs := by rw [hins2, ← hxcs]; simp
      have e2 : m + 1 + (Hs.length - m) = (hins x Hs).length := by rw [hins2]; simp; omega
      have hne : hins x Hs ≠ [] := fun hh => by rw [hh] at e2; simp at e2
      conv => whnf
      first | refine need_intro (⟨by omega, by omega⟩) ?_ | refine must.mk (⟨by omega, by omega⟩) ?_
      conv => whnf
      refine bsel_intro (fun qc => ?_) (fun qc => ?_)
      · have qc : cap2 = m := by have := of_decide_eq_true qc; omega
        have hkl : (Hs.drop m).flatMap Ht.cs = [] := by rw [List.drop_eq_nil_of_le (by omega)]; rfl
        conv => whnf
        refine Owns.appN (z := .agg #[uv 0, zv 0, zv 0]) (news := (Hs.drop m).flatMap Ht.cs) (bytes := 24) (by kernel_rfl) infH (by kernel_rfl) (by kernel_rfl) (by kernel_rfl) rfl (by decide) rfl rfl rfl hO7 (by rw [hlD]; show _ = (Hs.length - ((m : Nat) : Int).toNat) * 3; omega) (fun j v hj => by rw [hkl] at hj; simp at hj) (fun e => by cases e) h1D (by show _ + (Hs.length - ((m : Nat) : Int).toNat) ≤ _; omega) fun s8 h9 hO8 => ?_
        rw [show Hs.length - ((m : Nat) : Int).toNat = Hs.length - m by omega, e1, e2] at hO8
        obtain ⟨sa, sc, rfl⟩ := hO8.shape
        conv => whnf
        first | refine ov_i64 (by omega) ?_ | refine ov_u64 (by omega) ?_ | refine ov_i64 (by decide) ?_ | refine ov_u64 (by decide) ?_ | refine ov_u8 (by omega) ?_ | refine ov_i32 (by omega) ?_ | refine ov_u32 (by omega) ?_
        conv => whnf
        exact ⟨D.length - (k + 1), by omega, k + 1, hins x Hs, _, by omega, rfl, rfl, .inr hne, hstep, hO8.weak le4⟩
      · conv => whnf
        refine Owns.appN (z := .agg #[uv 0, zv 0, zv 0]) (news := (Hs.drop m).flatMap Ht.cs) (bytes := 24) (by kernel_rfl) infH (by kernel_rfl) (by kernel_rfl) (by kernel_rfl) rfl (by decide) rfl rfl rfl hO7 (by rw [hlD]; show _ = (Hs.length - ((m : Nat) : Int).toNat) * 3; omega) (fun j v hj => ⟨_, rfl, ?_⟩) (fun e => by cases e) h1D (by show _ + (Hs.length - ((m : Nat) : Int).toNat) ≤ _; omega) fun s8 h9 hO8 => ?_
        · show h8.cell? (((⟨bb, 0, none⟩ : Addr).add (((m : Int)).toNat * 3)).add j) = _
          rw [addr_add, addr_add, Int.toNat_natCast, Nat.zero_add]
          refine cell_le hO7.le (hcell (m * 3 + j) v ?_)
          rw [hsplit, List.getElem?_append_right (by omega), hlT, Nat.add_sub_cancel_left]
          exact hj
        rw [show Hs.length - ((m : Nat) : Int).toNat = Hs.length - m by omega, e1, e2] at hO8
        obtain ⟨sa, sc, rfl⟩ := hO8.shape
        conv => whnf
        first | refine ov_i64 (by omega) ?_ | refine ov_u64 (by omega) ?_ | refine ov_i64 (by decide) ?_ | refine ov_u64 (by decide) ?_ | refine ov_u8 (by omega) ?_ | refine ov_i32 (by omega) ?_ | refine ov_u32 (by omega) ?_
        conv => whnf
        exact ⟨D.length - (k + 1), by omega, k + 1, hins x Hs, _, by omega, rfl, rfl, .inr hne, hstep, hO8.weak le4⟩
  have hkn : k = D.length := by omega
  subst hkn
  rw [List.take_length] at hH
  conv => whnf
  exact hk Hs sl h4 (hfin Hs hH) (hO4.weak le3)
end
end Go.Proofs.YtcmhfofmloiaiaaGreatDoor
/-! The events at an address. -/
namespace Go.Proofs.YtcmhfofmloiaiaaGreatDoor
set_option linter.unusedSimpArgs false
set_option linter.unusedVariables false
open Go Go.Mid Go.RowKit
attribute [local irreducible] mid
/-- Has an ask of memory a byte at an address? -/
def hasB (a : Ak) (x : Nat) : Bool := decide (groupN a.kind = 1 ∧ mayB a = true ∧ ∃ i, i < a.size.toNat ∧ byteN a.addr a.next a.cut i = x)
def subN (x y : Nat) : Nat := (x + 18446744073709551616 - y) % 18446744073709551616
theorem sub_wrap (x y : Nat) (hx : x < 18446744073709551616) (hy : y < 18446744073709551616) : IntKind.u64.wrap ((x : Int) - (y : Int)) = (subN x y : Nat) := by
  unfold subN
  rw [IntKind.wrap_u64]
  omega
theorem has_iff {addr next : Nat} {cut size : Int} {x : Nat} (hx : x < 18446744073709551616) (ha : addr < 18446744073709551616) (hn : next < 18446744073709551616) (h1 : 1 ≤ size) (h2 : size ≤ 8) (h3 : 0 ≤ cut) (h4 : cut < size) :
    (∃ i, i < size.toNat ∧ byteN addr next cut i = x) ↔ (0 < cut ∧ (subN x next : Int) < size - cut) ∨ (subN x addr : Int) < (if 0 < cut then cut else size) := by
  have k1 : ∀ y i : Nat, y < 18446744073709551616 → i < 18446744073709551616 → ((y + i) % 18446744073709551616 = x ↔ i = subN x y) := fun y i hy hi => by
    unfold subN
    omega
  have hs : ∀ y, subN x y < 18446744073709551616 := fun y => Nat.mod_lt _ (by decide)
  constructor
  · rintro ⟨i, hi, hb⟩
    unfold byteN at hb
    split at hb
    · rename_i hc
      rw [k1 next _ hn (by omega)] at hb
      exact .inl (by omega)
    · rename_i hc
      rw [k1 addr _ ha (by omega)] at hb
      refine .inr ?_
      split <;> omega
  · rintro (⟨h5, h6⟩ | h5)
    · refine ⟨subN x next + cut.toNat, by omega, ?_⟩
      unfold byteN
      rw [if_pos (by omega), k1 next _ hn (by omega)]
      omega
    · refine ⟨subN x addr, ?_, ?_⟩
      · split at h5 <;> omega
      · unfold byteN
        rw [if_neg (fun hh => by rw [if_pos hh.1] at h5; omega), k1 addr _ ha (hs _)]
theorem linesA_nil {a : Ak} : linesA a = [] ↔ ¬ (groupN a.kind = 1 ∧ mayB a = true) := by
  unfold linesA
  by_cases h : groupN a.kind = 1 ∧ mayB a = true
  · rw [if_pos h]
    have := (mayB_iff a).1 h.2
    refine ⟨fun hh => ?_, fun hh => absurd h hh⟩
    have hm : byteN a.addr a.next a.cut 0 / 64 ∈ accL a.addr a.next a.cut a.size := by
      unfold accL
      rw [mem_dl, List.mem_map]
      exact ⟨0, List.mem_range.2 (by omega), rfl⟩
    rw [hh] at hm
    cases hm
  · rw [if_neg h]
    exact ⟨fun _ => h, fun _ => rfl⟩
section
set_option maxHeartbeats 8000000
set_option maxRecDepth 10000
variable {h : Hp} {K : Value → Hp → Prop}
theorem has_x (a : Ak) (ha : a.ok) (x : Nat) (hx : x < 18446744073709551616) (hk : K (.bool (hasB a x)) h) : X Tryz.prog 31 #[.agg a.cs.toArray, uv x] h K := by
  refine X.forget ?_
  have hk' : ∀ (h' : Hp) (t : Bool), t = hasB a x → h.le h' → (∃ g : Hp, g.le h' ∧ K (.bool t) g) := fun h' t e hle => ⟨h, hle, e ▸ hk⟩
  clear hk
  have hna := ha.next
  have haa := ha.addr
  have hnil := linesA_nil (a := a)
  refine fnv (args := _) mixed [(5, 5), (13, 5), (16, 5), (19, 5), (23, 5), (26, 5), (28, 5), (34, 5)] [] [] Tryz.func31 rfl (by kernel_rfl) ?_
  conv => whnf
  refine new_intro (o := rowO 48 a.cs) (fun b h1 n_b le_b at_b ot_b => ?_)
  conv => whnf
  refine ⟨_, loadA0 aggAk sizAk at_b rfl, ?_⟩
  conv => whnf
  refine lines_xA a ha fun sx h2 hOx => ?_
  have hle := Hp.le_trans le_b hOx.le
  have b2 := hOx.le _ _ at_b
  have hlen : (linesA a).length = 0 ↔ linesA a = [] := List.length_eq_zero_iff
  obtain ⟨sa, sc, rfl⟩ := hOx.shape
  conv => whnf
  refine bsel_intro (fun q1 => ?_) (fun q1 => ?_) <;> try simp only [decide_eq_true_eq, decide_eq_false_iff_not, beq_iff_eq, beq_eq_false_iff_ne, ne_eq, Bool.not_eq_true', Bool.not_eq_false', bne_iff_ne, bne_eq_false_iff_eq, Bool.not_eq_true, Bool.not_eq_false, Bool.and_eq_true, Bool.or_eq_true, bs_size] at q1
  · conv => whnf
    refine hk' _ _ ?_ hle
    have : ¬ (groupN a.kind = 1 ∧ mayB a = true) := hnil.1 (hlen.1 (by omega))
    unfold hasB
    rw [decide_eq_false (fun hh => this ⟨hh.1, hh.2.1⟩)]
  have hgm : groupN a.kind = 1 ∧ mayB a = true := Classical.byContradiction fun hh => q1 (by have := hlen.2 (hnil.2 hh); omega)
  obtain ⟨m1, m2, m3, m4⟩ := (mayB_iff a).1 hgm.2
  have hiff := has_iff (x := x) hx haa hna m1 m2 m3 m4
  have hB : hasB a x = decide ((0 < a.cut ∧ (subN x a.next : Int) < a.size - a.cut) ∨ (subN x a.addr : Int) < (if 0 < a.cut then a.cut else a.size)) := by
    unfold hasB
    rw [decide_eq_decide]
    rw [← hiff]
    exact ⟨fun hh => hh.2.2, fun hh => ⟨hgm.1, hgm.2, hh⟩⟩
  rw [hB] at hk'
  have hw1 := sub_wrap x a.next hx hna
  have hw2 := sub_wrap x a.addr hx haa
  generalize subN x a.next = u1 at *
  generalize subN x a.addr = u2 at *
  conv => whnf
  refine ⟨_, loadA0 aggAk sizAk b2 rfl, ?_⟩
  conv => whnf
  refine access_x a ?_
  conv => whnf
  refine ov_u64 (by omega) ?_
  conv => whnf
  refine bsel_intro (fun q2 => ?_) (fun q2 => ?_) <;> try simp only [decide_eq_true_eq, decide_eq_false_iff_not, beq_iff_eq, beq_eq_false_iff_ne, ne_eq, Bool.not_eq_true', Bool.not_eq_false', bne_iff_ne, bne_eq_false_iff_eq, Bool.not_eq_true, Bool.not_eq_false, Bool.and_eq_true, Bool.or_eq_true, bs_size] at q2
  · rw [if_pos q2] at hk'
    conv => whnf
    refine ov_u64 (by omega) ?_
    conv => whnf
    refine ov_by hw1 ?_
    conv => whnf
    first | refine ov_i64 (by omega) ?_ | refine ov_u64 (by omega) ?_ | refine ov_i64 (by decide) ?_ | refine ov_u64 (by decide) ?_ | refine ov_u8 (by omega) ?_ | refine ov_i32 (by omega) ?_ | refine ov_u32 (by omega) ?_
    conv => whnf
    refine ov_u64 (by omega) ?_
    conv => whnf
    refine bsel_intro (fun q3 => ?_) (fun q3 => ?_) <;> try simp only [decide_eq_true_eq, decide_eq_false_iff_not, beq_iff_eq, beq_eq_false_iff_ne, ne_eq, Bool.not_eq_true', Bool.not_eq_false', bne_iff_ne, bne_eq_false_iff_eq, Bool.not_eq_true, Bool.not_eq_false, Bool.and_eq_true, Bool.or_eq_true, bs_size] at q3
    · conv => whnf
      exact hk' _ _ (by rw [Bool.eq_iff_iff]; simp; omega) hle
    · conv => whnf
      refine ov_by hw2 ?_
      conv => whnf
      exact hk' _ _ (by rw [Bool.eq_iff_iff]; simp; omega) hle
  · rw [if_neg q2] at hk'
    conv => whnf
    refine ov_by hw2 ?_
    conv => whnf
    exact hk' _ _ (by rw [Bool.eq_iff_iff]; simp; omega) hle
theorem rhas_x (a : Ak) (ha : a.ok) (x : Nat) (hk : K (.bool (hasB a x)) h) : X Tryz.prog 9 #[.agg a.cs.toArray, uv x] h K := by
  refine X.forget ?_
  have hk' : ∀ (h' : Hp) (t : Bool), t = hasB a x → h.le h' → (∃ g : Hp, g.le h' ∧ K (.bool t) g) := fun h' t e hle => ⟨h, hle, e ▸ hk⟩
  clear hk
  refine fnv (args := _) mixed [(5, 5), (19, 5)] [] [] Tryz.func9 rfl (by kernel_rfl) ?_
  conv => whnf
  refine new_intro (o := rowO 48 a.cs) (fun b h1 n_b le_b at_b ot_b => ?_)
  conv => whnf
  refine ⟨_, loadA0 aggAk sizAk at_b rfl, ?_⟩
  conv => whnf
  refine raccess_x a ?_
  conv => whnf
  refine ⟨_, loadC (i := 0) aggKi at_b rfl, ?_⟩
  conv => whnf
  refine rgroup_x a.kind ?_
  conv => whnf
  refine bsel_intro (fun q1 => ?_) (fun q1 => ?_) <;> try simp only [decide_eq_true_eq, decide_eq_false_iff_not, beq_iff_eq, beq_eq_false_iff_ne, ne_eq, Bool.not_eq_true', Bool.not_eq_false', bne_iff_ne, bne_eq_false_iff_eq, Bool.not_eq_true, Bool.not_eq_false, Bool.and_eq_true, Bool.or_eq_true, bs_size] at q1
  · have hno : ¬ (groupN a.kind = 1 ∧ mayB a = true ∧ ∃ i, i < a.size.toNat ∧ byteN a.addr a.next a.cut i = x) := fun hh => q1 hh.1
    conv => whnf
    exact hk' _ _ (by unfold hasB; rw [decide_eq_false hno]) le_b
  conv => whnf
  refine rmay_x a ?_
  conv => whnf
  refine bsel_intro (fun q2 => ?_) (fun q2 => ?_)
  · have q2 : mayB a = false := by simpa using q2
    have hno : ¬ (groupN a.kind = 1 ∧ mayB a = true ∧ ∃ i, i < a.size.toNat ∧ byteN a.addr a.next a.cut i = x) := fun hh => by rw [q2] at hh; cases hh.2.1
    conv => whnf
    exact hk' _ _ (by unfold hasB; rw [decide_eq_false hno]) le_b
  have q2 : mayB a = true := by simpa using q2
  obtain ⟨m1, m2, m3, m4⟩ := (mayB_iff a).1 q2
  conv => whnf
  refine loop_at [6] [5] (fun r vs cs h' => h1 = h' ∧ cs = [some [.int .u64 a.addr, .int .u64 a.next, .int .i64 a.cut, .int .i64 a.size]] ∧ ∃ i : Nat, i ≤ a.size.toNat ∧ r = a.size.toNat - i ∧ vs = [.v (.int .i64 i)] ∧ ∀ j, j < i → byteN a.addr a.next a.cut j ≠ x) a.size.toNat ⟨rfl, rfl, 0, by omega, by omega, rfl, fun j hj => by omega⟩ ?_
  rintro r vs cs mm bx _ ⟨rfl, rfl, i, hi, rfl, rfl, hlo⟩
  conv => whnf
  refine bsel_intro (fun q3 => ?_) (fun q3 => ?_) <;> try simp only [decide_eq_true_eq, decide_eq_false_iff_not, beq_iff_eq, beq_eq_false_iff_ne, ne_eq, Bool.not_eq_true', Bool.not_eq_false', bne_iff_ne, bne_eq_false_iff_eq, Bool.not_eq_true, Bool.not_eq_false, Bool.and_eq_true, Bool.or_eq_true, bs_size] at q3
  · conv => whnf
    refine byte_x a ha i (by omega) ?_
    generalize hbn : byteN a.addr a.next a.cut i = bt at *
    conv => whnf
    refine bsel_intro (fun q4 => ?_) (fun q4 => ?_) <;> try simp only [decide_eq_true_eq, decide_eq_false_iff_not, beq_iff_eq, beq_eq_false_iff_ne, ne_eq, Bool.not_eq_true', Bool.not_eq_false', bne_iff_ne, bne_eq_false_iff_eq, Bool.not_eq_true, Bool.not_eq_false, Bool.and_eq_true, Bool.or_eq_true, bs_size] at q4
    · have hyes : groupN a.kind = 1 ∧ mayB a = true ∧ ∃ i, i < a.size.toNat ∧ byteN a.addr a.next a.cut i = x := ⟨q1, q2, i, by omega, by omega⟩
      conv => whnf
      exact hk' _ _ (by unfold hasB; rw [decide_eq_true hyes]) le_b
    · conv => whnf
      first | refine ov_i64 (by omega) ?_ | refine ov_u64 (by omega) ?_ | refine ov_i64 (by decide) ?_ | refine ov_u64 (by decide) ?_ | refine ov_u8 (by omega) ?_ | refine ov_i32 (by omega) ?_ | refine ov_u32 (by omega) ?_
      conv => whnf
      refine ⟨a.size.toNat - (i + 1), by omega, rfl, rfl, i + 1, by omega, rfl, rfl, fun j hj => ?_⟩
      by_cases e : j = i
      · subst e; rw [hbn]; omega
      · exact hlo j (by omega)
  · have hno : ¬ (groupN a.kind = 1 ∧ mayB a = true ∧ ∃ i, i < a.size.toNat ∧ byteN a.addr a.next a.cut i = x) := fun hh => by
      obtain ⟨_, _, j, hj, hjb⟩ := hh
      exact hlo j (by omega) hjb
    conv => whnf
    exact hk' _ _ (by unfold hasB; rw [decide_eq_false hno]) le_b
/-- The places of the events at an address. -/
def pathTo (L : List Ev) (x m : Nat) : List Int := ((List.range m).filter fun i => match L[i]? with | some e => hasB e.ask x | none => false).map fun i : Nat => (i : Int)
theorem pathTo_succ {L : List Ev} {x m : Nat} {e : Ev} (he : L[m]? = some e) : pathTo L x (m + 1) = if hasB e.ask x = true then pathTo L x m ++ [(m : Int)] else pathTo L x m := by
  unfold pathTo
  rw [List.range_succ, List.filter_append, List.map_append]
  by_cases hb : hasB e.ask x = true
  · rw [if_pos hb]
    simp [he, hb]
  · rw [if_neg hb]
    have : hasB e.ask x = false := by simpa using hb
    simp [he, this]
theorem pathTo_len (L : List Ev) (x m : Nat) : (pathTo L x m).length ≤ m := by
  unfold pathTo
  rw [List.length_map]
  exact Nat.le_trans (List.length_filter_le _ _) (by simp)
theorem infI6 : Tryz.prog.info? 3 = some Tryz.prog.types[3] := by kernel_rfl
theorem path_x (s : Value) (L : List Ev) (x : Nat) (hx : x < 18446744073709551616) (hr : RdE h s L) (hok : ∀ e ∈ L, e.ok) (hL : L.length ≤ 60)
    (hk : ∀ s' h', Owns h h' 3 1 s' (pathTo L x L.length).length ((pathTo L x L.length).map zv) → K s' h') : X Tryz.prog 11 #[s, uv x] h K := by
  obtain ⟨base, cap, rfl, f⟩ := rdE_at2 hr
  refine fnv (args := _) mixed [] [] [] Tryz.func11 rfl (by kernel_rfl) ?_
  conv => whnf
  refine loop_at [10, 5] [] (fun r vs cs h' => ∃ (m : Nat) (sl : Value), m ≤ L.length ∧ r = L.length - m ∧ vs = [.v (.int .i64 m), .v sl] ∧ Owns h h' 3 1 sl (pathTo L x m).length ((pathTo L x m).map zv)) L.length ⟨0, .slice none 0 0, by omega, by omega, rfl, Owns.nil (Hp.le_refl _)⟩ ?_
  rintro r vs cs mm bx h3 ⟨m, sl, hm, rfl, rfl, hO3⟩
  have le3 := hO3.le
  obtain ⟨sa, sc, rfl⟩ := hO3.shape
  conv => whnf
  refine bsel_intro (fun q1 => ?_) (fun q1 => ?_) <;> try simp only [decide_eq_true_eq, decide_eq_false_iff_not, beq_iff_eq, beq_eq_false_iff_ne, ne_eq, Bool.not_eq_true', Bool.not_eq_false', bne_iff_ne, bne_eq_false_iff_eq, Bool.not_eq_true, Bool.not_eq_false, Bool.and_eq_true, Bool.or_eq_true, bs_size] at q1
  · have hmL : m < L.length := by omega
    obtain ⟨e, he⟩ : ∃ e, L[m]? = some e := ⟨_, List.getElem?_eq_getElem hmL⟩
    have heo := hok e (List.mem_of_getElem? he)
    obtain ⟨a, rfl, l1⟩ := f m e he
    have l13 := loadH_le le3 l1
    have hps := pathTo_succ (x := x) he
    have hpl := pathTo_len L x m
    conv => whnf
    first | refine need_intro (⟨by omega, by omega⟩) ?_ | refine must.mk (⟨by omega, by omega⟩) ?_
    conv => whnf
    refine ⟨_, l13, ?_⟩
    conv => whnf
    refine new_intro (o := _) (fun bE h4 n_bE le_bE at_bE ot_bE => ?_)
    conv => whnf
    refine wr_intro (by exact storeA0 (z := .agg e.cs.toArray) sizEv at_bE rfl (ev_len e) (ev_one e)) (fun h5 at_h5 ot_h5 => ?_)
    try (conv => whnf)
    have le5 := Hp.le_st n_bE le_bE ot_h5
    conv => whnf
    refine ⟨_, loadP (k := 1) (x := e.ask.cs) aggAk sizAk at_h5 rfl rfl, ?_⟩
    conv => whnf
    refine has_x e.ask heo.ask x hx ?_
    generalize hasB e.ask x = t at *
    conv => whnf
    cases t with
    | true =>
      rw [if_pos rfl] at hps
      conv => whnf
      refine new_intro (o := rowO 3 [zv m]) (fun y h7 n_y le_y at_y ot_y => ?_)
      conv => whnf
      refine Owns.app1 (z := zv 0) (by kernel_rfl) infI6 (by kernel_rfl) (by kernel_rfl) (by kernel_rfl) rfl (bytes := 8) (by decide) rfl rfl rfl ((hO3.up le5).up le_y) at_y rfl rfl (by omega) fun s8 h8 hO8 => ?_
      conv => whnf
      first | refine ov_i64 (by omega) ?_ | refine ov_u64 (by omega) ?_ | refine ov_i64 (by decide) ?_ | refine ov_u64 (by decide) ?_ | refine ov_u8 (by omega) ?_ | refine ov_i32 (by omega) ?_ | refine ov_u32 (by omega) ?_
      conv => whnf
      refine ⟨L.length - (m + 1), by omega, m + 1, s8, by omega, rfl, rfl, ?_⟩
      rw [hps, List.length_append, List.map_append]
      exact hO8
    | false =>
      rw [if_neg (by simp)] at hps
      conv => whnf
      first | refine ov_i64 (by omega) ?_ | refine ov_u64 (by omega) ?_ | refine ov_i64 (by decide) ?_ | refine ov_u64 (by decide) ?_ | refine ov_u8 (by omega) ?_ | refine ov_i32 (by omega) ?_ | refine ov_u32 (by omega) ?_
      conv => whnf
      refine ⟨L.length - (m + 1), by omega, m + 1, _, by omega, rfl, rfl, ?_⟩
      rw [hps]
      exact hO3.up le5
  have hmn : m = L.length := by omega
  subst hmn
  conv => whnf
  exact hk _ h3 hO3
/-- Two rows of numbers that are the same. -/
theorem ints_x (s1 s2 : Value) (A : List Int) (r1 : Rd Tryz.prog 3 1 h s1 (A.map zv)) (r2 : Rd Tryz.prog 3 1 h s2 (A.map zv)) (hA : A.length ≤ 1000) (hk : K (.bool true) h) : X Tryz.prog 10 #[s1, s2] h K := by
  obtain ⟨b1, c1, rfl, f1⟩ := r1
  obtain ⟨b2, c2, rfl, f2⟩ := r2
  rw [List.length_map] at *
  refine fnv (args := _) mixed [] [] [] Tryz.func10 rfl (by kernel_rfl) ?_
  conv => whnf
  refine bsel_false ?_ ?_
  · simp
  conv => whnf
  refine loop_at [5] [] (fun r vs cs h' => h = h' ∧ ∃ i : Nat, i ≤ A.length ∧ r = A.length - i ∧ vs = [.v (.int .i64 i)]) A.length ⟨rfl, 0, by omega, by omega, rfl⟩ ?_
  rintro r vs cs mm bx _ ⟨rfl, i, hi, rfl, rfl⟩
  conv => whnf
  refine bsel_intro (fun q1 => ?_) (fun q1 => ?_) <;> try simp only [decide_eq_true_eq, decide_eq_false_iff_not, beq_iff_eq, beq_eq_false_iff_ne, ne_eq, Bool.not_eq_true', Bool.not_eq_false', bne_iff_ne, bne_eq_false_iff_eq, Bool.not_eq_true, Bool.not_eq_false, Bool.and_eq_true, Bool.or_eq_true, bs_size] at q1
  · have hiA : i < A.length := by omega
    obtain ⟨v, hv⟩ : ∃ v, A[i]? = some v := ⟨_, List.getElem?_eq_getElem hiA⟩
    have hv2 : (A.map zv)[i]? = some (zv v) := by rw [List.getElem?_map, hv]; rfl
    obtain ⟨a1, rfl, l1⟩ := f1 i _ hv2
    obtain ⟨a2, rfl, l2⟩ := f2 i _ hv2
    have l1 : loadH Tryz.prog 3 h (a1.add (((i : Nat) : Int).toNat * 1)) = some (zv v) := by rw [Int.toNat_natCast]; exact l1
    have l2 : loadH Tryz.prog 3 h (a2.add (((i : Nat) : Int).toNat * 1)) = some (zv v) := by rw [Int.toNat_natCast]; exact l2
    conv => whnf
    first | refine need_intro (⟨by omega, by omega⟩) ?_ | refine must.mk (⟨by omega, by omega⟩) ?_
    conv => whnf
    refine ⟨_, l1, ?_⟩
    conv => whnf
    first | refine need_intro (⟨by omega, by omega⟩) ?_ | refine must.mk (⟨by omega, by omega⟩) ?_
    conv => whnf
    refine ⟨_, l2, ?_⟩
    conv => whnf
    refine bsel_false ?_ ?_
    · simp
    conv => whnf
    first | refine ov_i64 (by omega) ?_ | refine ov_u64 (by omega) ?_ | refine ov_i64 (by decide) ?_ | refine ov_u64 (by decide) ?_ | refine ov_u8 (by omega) ?_ | refine ov_i32 (by omega) ?_ | refine ov_u32 (by omega) ?_
    conv => whnf
    exact ⟨A.length - (i + 1), by omega, rfl, i + 1, by omega, rfl, rfl⟩
  · conv => whnf
    exact hk
end
end Go.Proofs.YtcmhfofmloiaiaaGreatDoor
/-! Logs: the statement's function. -/
namespace Go.Proofs.YtcmhfofmloiaiaaGreatDoor
set_option linter.unusedSimpArgs false
set_option linter.unusedVariables false
open Go Go.Mid Go.RowKit
attribute [local irreducible] mid
section
set_option maxHeartbeats 8000000
set_option maxRecDepth 10000
variable {h : Hp} {K : Value → Hp → Prop}
theorem aggStt : isAggT Tryz.prog 30 = some true := by kernel_rfl
theorem sizStt : sizeT Tryz.prog 30 = some 9 := by kernel_rfl
theorem stats_x2 (s : Value) (L : List Ev) (harts : Int) (hr : RdE h s L) (hok : ∀ e ∈ L, e.ok) (hL : L.length ≤ 60) (hh1 : -9223372036854775808 ≤ harts) (hh2 : harts ≤ 9223372036854775807)
    (hk : ∀ (n : Nat) (v : Value) (h' : Hp), (n : Int) = max 0 (min harts 8) → h.le h' → Rd Tryz.prog 30 9 h' v ((List.range n).map fun i : Nat => Value.agg (stat L i).cells.toArray) → K v h') : X Tryz.prog 5 #[s, .int .i64 harts] h K := by
  refine stats_x s L harts hr hok hL hh1 hh2 (fun h0 => hk 0 _ h (by omega) (Hp.le_refl _) Rd.nil) (fun n b Ls h' a1 a2 a3 a4 a5 a6 => hk n _ h' (by omega) a3 ⟨_, _, by rw [List.length_map, List.length_range], fun i v hv => ⟨_, rfl, ?_⟩⟩)
  rw [List.getElem?_map] at hv
  by_cases hi : i < n
  · rw [List.getElem?_range hi] at hv
    cases hv
    exact loadH_agg (n := 9) (f := Sd.cells) (rest := []) aggStt sizStt Sd.cells_len (by rw [List.append_nil]; exact a4) (a6 i hi)
  · rw [List.getElem?_eq_none (by rw [List.length_range]; omega)] at hv
    cases hv
theorem hot_x2 (s : Value) (L : List Ev) (most : Int) (hr : RdE h s L) (hok : ∀ e ∈ L, e.ok) (hL : L.length ≤ 60) (hm1 : most ≤ 9223372036854775807)
    (hk : ∀ (Hm : List Ht) (v : Value) (h' : Hp), (∀ H, IsHot (touches L) H → Hm = H.take most.toNat) → h.le h' → Rd Tryz.prog 38 3 h' v (Hm.map fun x => Value.agg x.cs.toArray) → K v h') : X Tryz.prog 7 #[s, .int .i64 most] h K := by
  refine hot_x s L most hr hok hL hm1 (fun h0 => hk [] _ h (fun H _ => by rw [show most.toNat = 0 by omega]; rfl) (Hp.le_refl _) Rd.nil) (fun H s' h' a1 a2 a3 a4 => hk (H.take most.toNat) s' h' (fun H2 hH2 => by rw [a2.unique hH2]) a3 a4)
theorem eq9 (a b c d e f w l n : Int) : eqW Tryz.prog 10000 29 (.agg #[zv a, zv b, zv c, zv d, zv e, zv f, zv w, zv l, zv n]) (.agg #[zv a, zv b, zv c, zv d, zv e, zv f, zv w, zv l, zv n]) = some (((a == a) && ((b == b) && ((c == c) && ((d == d) && ((e == e) && ((f == f) && true)))))) && ((w == w) && ((l == l) && ((n == n) && true)))) := by kernel_rfl
theorem eq3 (n : Nat) (r w : Int) : eqW Tryz.prog 10000 37 (.agg #[uv n, zv r, zv w]) (.agg #[uv n, zv r, zv w]) = some (((n : Int) == (n : Int)) && ((r == r) && ((w == w) && true))) := by kernel_rfl
theorem traceTells_x (hp : Pow h) (s : Value) (L : List Ev) (harts most : Int) (x : Nat) (hr : RdE h s L) (hok : ∀ e ∈ L, e.ok) (hh1 : -9223372036854775808 ≤ harts) (hh2 : harts ≤ 9223372036854775807) (hm1 : -9223372036854775808 ≤ most) (hm2 : most ≤ 9223372036854775807) (hx : x < 18446744073709551616)
    (hk : ∀ h', h.le h' → K (.bool true) h') : X Tryz.prog 3 #[s, .int .i64 harts, .int .i64 most, uv x] h K := by
  have hr0 := hr
  obtain ⟨base, cap, rfl, f⟩ := rdE_at2 hr
  refine fnp (args := _) mixed [] [] [41] [(999999, [26, 28, 52, 56])] Tryz.func3 rfl (by kernel_rfl) ?_
  conv => whnf
  refine bsel_intro (fun q0 => ?_) (fun q0 => ?_) <;> try simp only [decide_eq_true_eq, decide_eq_false_iff_not, beq_iff_eq, beq_eq_false_iff_ne, ne_eq, Bool.not_eq_true', Bool.not_eq_false', bne_iff_ne, bne_eq_false_iff_eq, Bool.not_eq_true, Bool.not_eq_false, Bool.and_eq_true, Bool.or_eq_true, bs_size] at q0
  · conv => whnf
    refine live46_x hp ?_
    conv => whnf
    exact hk h (Hp.le_refl _)
  have hL : L.length ≤ 60 := by omega
  conv => whnf
  refine stats_x2 _ L harts hr0 hok hL hh1 hh2 fun n v h1 hn le1 rs => ?_
  obtain ⟨sb, sc, rfl, fs⟩ := rs
  rw [List.length_map, List.length_range]
  conv => whnf
  refine if_at [10] [] (fun vs _ h' => h1 = h' ∧ vs = [.v (.int .i64 (min harts 8))]) (fun e => ?_) (fun e => ?_) (fun vs cs m bx h' hI => ?_)
  · have e : 8 < harts := by simpa using e
    conv => whnf
    refine ⟨rfl, ?_⟩
    rw [show min harts 8 = 8 by omega]
    rfl
  · have e : ¬ 8 < harts := by simpa using e
    conv => whnf
    refine ⟨rfl, ?_⟩
    rw [show min harts 8 = harts by omega]
    rfl
  obtain ⟨rfl, rfl⟩ := hI
  conv => whnf
  refine if_at [10] [] (fun vs _ h' => h1 = h' ∧ vs = [.v (.int .i64 n)]) (fun e => ?_) (fun e => ?_) (fun vs cs m bx h' hI => ?_)
  · have e : min harts 8 < 0 := by simpa using e
    conv => whnf
    refine ⟨rfl, ?_⟩
    rw [show (n : Int) = 0 by omega]
    rfl
  · have e : ¬ min harts 8 < 0 := by simpa using e
    conv => whnf
    refine ⟨rfl, ?_⟩
    rw [show (n : Int) = min harts 8 by omega]
    rfl
  obtain ⟨rfl, rfl⟩ := hI
  conv => whnf
  refine bsel_false ?_ ?_
  · simp
  conv => whnf
  refine loop_at [11] [] (fun r vs cs h' => h1 = h' ∧ ∃ i : Nat, i ≤ n ∧ r = n - i ∧ vs = [.v (.int .i64 i)]) n ⟨rfl, 0, by omega, by omega, rfl⟩ ?_
  rintro r vs cs mm bx2 _ ⟨rfl, i, hi, rfl, rfl⟩
  conv => whnf
  refine bsel_intro (fun q1 => ?_) (fun q1 => ?_) <;> try simp only [decide_eq_true_eq, decide_eq_false_iff_not, beq_iff_eq, beq_eq_false_iff_ne, ne_eq, Bool.not_eq_true', Bool.not_eq_false', bne_iff_ne, bne_eq_false_iff_eq, Bool.not_eq_true, Bool.not_eq_false, Bool.and_eq_true, Bool.or_eq_true, bs_size] at q1
  · have hin : i < n := by omega
    obtain ⟨a, rfl, l1⟩ := fs i (.agg (stat L i).cells.toArray) (by rw [List.getElem?_map, List.getElem?_range hin]; rfl)
    have l1 : loadH Tryz.prog 30 h1 (a.add (((i : Nat) : Int).toNat * 9)) = some (.agg (stat L i).cells.toArray) := by rw [Int.toNat_natCast]; exact l1
    have ho := stat_ok hok (i : Int)
    obtain ⟨a0, a1, a2, a3, a4, a5, hgs⟩ := six ho.len
    rw [Sd.cells_ok ho.len] at l1
    refine ⟨fun h' => h' = h1, rfl, ?_⟩
    conv => whnf
    first | refine need_intro (⟨by omega, by omega⟩) ?_ | refine must.mk (⟨by omega, by omega⟩) ?_
    conv => whnf
    refine ⟨_, fun _ hh => hh ▸ l1, ?_⟩
    rw [hgs]
    conv => whnf
    refine rstat_x _ L i (hr0.le le1) hok hL ?_
    rw [hgs]
    refine ⟨rfl, ?_⟩
    conv => whnf
    have hEq : eqW Tryz.prog 10000 29 (.agg (scs [a0, a1, a2, a3, a4, a5] (stat L i).waits (stat L i).longest (stat L i).lines.length).toArray) (.agg (scs [a0, a1, a2, a3, a4, a5] (stat L i).waits (stat L i).longest (stat L i).lines.length).toArray) = some true := (eq9 _ _ _ _ _ _ _ _ _).trans (by simp)
    refine must_via (b := true) (by kernel_rfl) hEq ?_
    conv => whnf
    first | refine ov_i64 (by omega) ?_ | refine ov_u64 (by omega) ?_ | refine ov_i64 (by decide) ?_ | refine ov_u64 (by decide) ?_ | refine ov_u8 (by omega) ?_ | refine ov_i32 (by omega) ?_ | refine ov_u32 (by omega) ?_
    conv => whnf
    exact ⟨n - (i + 1), by omega, rfl, i + 1, by omega, rfl, rfl⟩
  have hin : i = n := by omega
  subst hin
  clear fs hi q1
  conv => whnf
  refine hot_x2 _ L most (hr0.le le1) hok hL hm2 fun Hm v2 h2 hHm le2 rh => ?_
  obtain ⟨hb, hc, rfl, fh⟩ := rh
  rw [List.length_map]
  have le02 := Hp.le_trans le1 le2
  conv => whnf
  refine rhot_x _ L (hr0.le le02) hok hL fun H v3 h3 hH hO3 => ?_
  have hHm := hHm H hH
  have le3 := hO3.le
  have le03 := Hp.le_trans le02 le3
  have r3 : Rd Tryz.prog 37 3 h3 v3 (H.map fun x => Value.agg x.cs.toArray) := by
    obtain ⟨ob, g, _⟩ := hO3
    exact Gr.rdN (f := Ht.cs) aggH sizH (fun _ => rfl) g
  obtain ⟨wb, wc, hw3, -⟩ := r3
  rw [List.length_map] at hw3
  subst hw3
  have hcap : (H.length : Int) ≤ wc ∧ (wb = none → H.length = 0) := by
    obtain ⟨ob, ⟨_, ⟨_, e, h0⟩ | ⟨b, cap, rest, _, e, hcap, _⟩⟩, _⟩ := hO3
    · obtain ⟨e1, e2, e3⟩ := Value.slice.inj e
      exact ⟨by omega, fun _ => h0⟩
    · obtain ⟨e1, e2, e3⟩ := Value.slice.inj e
      exact ⟨by omega, fun hh => by rw [hh] at e1; cases e1⟩
  have r3 : Rd Tryz.prog 37 3 h3 (.slice wb H.length wc) (H.map fun x => Value.agg x.cs.toArray) := by
    obtain ⟨ob, g, _⟩ := hO3
    exact Gr.rdN (f := Ht.cs) aggH sizH (fun _ => rfl) g
  clear hO3
  conv => whnf
  refine if_at [13] [] (fun vs _ h' => h3 = h' ∧ ∃ (b : Option Addr) (c : Nat), vs = [.v (.slice b (H.take most.toNat).length c)] ∧ Rd Tryz.prog 37 3 h3 (.slice b (H.take most.toNat).length c) ((H.take most.toNat).map fun x => Value.agg x.cs.toArray)) (fun e => ?_) (fun e => ?_) (fun vs cs m bx h' hI => ?_)
  · have e : most < 1 := by simpa using e
    have h0 : H.take most.toNat = [] := by rw [show most.toNat = 0 by omega]; rfl
    rw [h0]
    conv => whnf
    exact ⟨rfl, none, 0, rfl, Rd.nil⟩
  · have e : ¬ most < 1 := by simpa using e
    conv => whnf
    refine if_at [13] [] (fun vs _ h' => h3 = h' ∧ ∃ (b : Option Addr) (c : Nat), vs = [.v (.slice b (H.take most.toNat).length c)] ∧ Rd Tryz.prog 37 3 h3 (.slice b (H.take most.toNat).length c) ((H.take most.toNat).map fun x => Value.agg x.cs.toArray)) (fun e2 => ?_) (fun e2 => ?_) (fun vs cs m bx h' hI => ?_)
    · have e2 : most < (H.length : Int) := by simpa using e2
      have hlt : (H.take most.toNat).length = most.toNat := by rw [List.length_take]; omega
      obtain ⟨wa, rfl⟩ : ∃ a, wb = some a := by
        cases wb with
        | none => have := hcap.2 rfl; omega
        | some a => exact ⟨a, rfl⟩
      obtain ⟨_, _, ew, fw⟩ := r3
      obtain ⟨ew1, ew2, ew3⟩ := Value.slice.inj ew
      subst ew1
      conv => whnf
      first | refine need_intro (⟨by omega, by omega⟩) ?_ | refine must.mk (⟨by omega, by omega⟩) ?_
      conv => whnf
      refine bsel_false ?_ ?_
      · simp; omega
      conv => whnf
      refine ⟨rfl, some (wa.add (0 * 3)), wc - 0, ?_, ⟨_, _, by rw [List.length_map], fun i v hv => ⟨_, rfl, ?_⟩⟩⟩
      · rw [hlt]; rfl
      · rw [List.getElem?_map] at hv
        cases hxx : (H.take most.toNat)[i]? with
        | none => rw [hxx] at hv; cases hv
        | some y =>
          rw [hxx] at hv
          cases hv
          have hxi : H[i]? = some y := by
            rw [List.getElem?_take] at hxx
            split at hxx
            · exact hxx
            · cases hxx
          obtain ⟨a4, ea4, l4⟩ := fw i (.agg y.cs.toArray) (by rw [List.getElem?_map, hxi]; rfl)
          cases ea4
          have hz0 : wa.add 0 = wa := by cases wa; rfl
          rw [Nat.zero_mul, hz0]
          exact l4
    · have e2 : ¬ most < (H.length : Int) := by simpa using e2
      have hall : H.take most.toNat = H := List.take_of_length_le (by omega)
      rw [hall]
      conv => whnf
      exact ⟨rfl, wb, wc, rfl, r3⟩
    · obtain ⟨rfl, b, c, rfl, r4⟩ := hI
      exact ⟨rfl, b, c, rfl, r4⟩
  obtain ⟨rfl, wb4, wc4, rfl, r4⟩ := hI
  clear r3 hcap
  rw [← hHm] at r4
  have hbnd : Hm.length ≤ 2 ^ 40 := by
    have h1 := hH.nodup.length_le_of_subset (l₂ := (touches L).map (·.1)) (fun a ha => (hH.all a).1 ha)
    rw [List.length_map, List.length_map] at h1
    have h2 := touches_len hok
    rw [hHm, List.length_take]
    omega
  have hll : (H.take most.toNat).length = Hm.length := by rw [hHm]
  rw [hll]
  obtain ⟨_, _, ew4, f4⟩ := r4
  obtain ⟨ew1, ew2, ew3⟩ := Value.slice.inj ew4
  subst ew1
  clear ew4 ew2 ew3 hH hHm
  have hHl : Hm.length ≤ 2 ^ 40 := hbnd
  conv => whnf
  refine bsel_false ?_ ?_
  · simp
  conv => whnf
  refine loop_at [14] [] (fun r vs cs h' => h3 = h' ∧ ∃ i : Nat, i ≤ Hm.length ∧ r = Hm.length - i ∧ vs = [.v (.int .i64 i)]) Hm.length ⟨rfl, 0, by omega, by omega, rfl⟩ ?_
  rintro r vs cs mm bx3 _ ⟨rfl, i, hi, rfl, rfl⟩
  conv => whnf
  refine bsel_intro (fun q1 => ?_) (fun q1 => ?_) <;> try simp only [decide_eq_true_eq, decide_eq_false_iff_not, beq_iff_eq, beq_eq_false_iff_ne, ne_eq, Bool.not_eq_true', Bool.not_eq_false', bne_iff_ne, bne_eq_false_iff_eq, Bool.not_eq_true, Bool.not_eq_false, Bool.and_eq_true, Bool.or_eq_true, bs_size] at q1
  · have hin : i < Hm.length := by omega
    obtain ⟨y, hy⟩ : ∃ y, Hm[i]? = some y := ⟨_, List.getElem?_eq_getElem hin⟩
    have hy2 : (Hm.map fun x => Value.agg x.cs.toArray)[i]? = some (.agg y.cs.toArray) := by rw [List.getElem?_map, hy]; rfl
    obtain ⟨a1, rfl, l1⟩ := fh i _ hy2
    obtain ⟨a2, rfl, l2⟩ := f4 i _ hy2
    have l1 : loadH Tryz.prog 38 h3 (a1.add (((i : Nat) : Int).toNat * 3)) = some (.agg y.cs.toArray) := by rw [Int.toNat_natCast]; exact loadH_le le3 l1
    have l2 : loadH Tryz.prog 37 h3 (a2.add (((i : Nat) : Int).toNat * 3)) = some (.agg y.cs.toArray) := by rw [Int.toNat_natCast]; exact l2
    have hEq : eqW Tryz.prog 10000 37 (.agg y.cs.toArray) (.agg y.cs.toArray) = some true := (eq3 y.n y.r y.w).trans (by simp)
    conv => whnf
    first | refine need_intro (⟨by omega, by omega⟩) ?_ | refine must.mk (⟨by omega, by omega⟩) ?_
    conv => whnf
    refine ⟨_, l1, ?_⟩
    conv => whnf
    first | refine need_intro (⟨by omega, by omega⟩) ?_ | refine must.mk (⟨by omega, by omega⟩) ?_
    conv => whnf
    refine ⟨_, l2, ?_⟩
    conv => whnf
    refine must_via (b := true) (by kernel_rfl) hEq ?_
    conv => whnf
    first | refine ov_i64 (by omega) ?_ | refine ov_u64 (by omega) ?_ | refine ov_i64 (by decide) ?_ | refine ov_u64 (by decide) ?_ | refine ov_u8 (by omega) ?_ | refine ov_i32 (by omega) ?_ | refine ov_u32 (by omega) ?_
    conv => whnf
    exact ⟨Hm.length - (i + 1), by omega, rfl, i + 1, by omega, rfl, rfl⟩
  conv => whnf
  refine loop_at [16, 15] [] (fun r vs cs h' => ∃ (m : Nat) (sl : Value), m ≤ L.length ∧ r = L.length - m ∧ vs = [.v (.int .i64 m), .v sl] ∧ Owns h3 h' 3 1 sl (pathTo L x m).length ((pathTo L x m).map zv)) L.length ⟨0, .slice none 0 0, by omega, by omega, rfl, Owns.nil (Hp.le_refl _)⟩ ?_
  rintro r vs cs mm bx4 h4 ⟨m, sl, hm, rfl, rfl, hO4⟩
  have le4 := hO4.le
  have le04 := Hp.le_trans le03 le4
  obtain ⟨sa, sc2, rfl⟩ := hO4.shape
  conv => whnf
  refine bsel_intro (fun q2 => ?_) (fun q2 => ?_) <;> try simp only [decide_eq_true_eq, decide_eq_false_iff_not, beq_iff_eq, beq_eq_false_iff_ne, ne_eq, Bool.not_eq_true', Bool.not_eq_false', bne_iff_ne, bne_eq_false_iff_eq, Bool.not_eq_true, Bool.not_eq_false, Bool.and_eq_true, Bool.or_eq_true, bs_size] at q2
  · have hmL : m < L.length := by omega
    obtain ⟨e, he⟩ : ∃ e, L[m]? = some e := ⟨_, List.getElem?_eq_getElem hmL⟩
    have heo := hok e (List.mem_of_getElem? he)
    obtain ⟨a, rfl, l1⟩ := f m e he
    have l13 := loadH_le le04 l1
    have la : loadH Tryz.prog 48 h4 ((a.add (((m : Nat) : Int).toNat * 65)).add 1) = some (.agg e.ask.cs.toArray) := by
      have := loadH_sub (k := 1) aggEv sizEv aggAk sizAk l13 (by decide)
      rw [this, ev_ask]
    have hps := pathTo_succ (x := x) he
    have hpl := pathTo_len L x m
    conv => whnf
    first | refine need_intro (⟨by omega, by omega⟩) ?_ | refine must.mk (⟨by omega, by omega⟩) ?_
    conv => whnf
    refine ⟨_, la, ?_⟩
    conv => whnf
    refine rhas_x e.ask heo.ask x ?_
    generalize hasB e.ask x = t at *
    conv => whnf
    cases t with
    | true =>
      rw [if_pos rfl] at hps
      conv => whnf
      refine new_intro (o := rowO 3 [zv m]) (fun y h7 n_y le_y at_y ot_y => ?_)
      conv => whnf
      refine Owns.app1 (z := zv 0) (by kernel_rfl) infI6 (by kernel_rfl) (by kernel_rfl) (by kernel_rfl) rfl (bytes := 8) (by decide) rfl rfl rfl (hO4.up le_y) at_y rfl rfl (by omega) fun s8 h8 hO8 => ?_
      conv => whnf
      first | refine ov_i64 (by omega) ?_ | refine ov_u64 (by omega) ?_ | refine ov_i64 (by decide) ?_ | refine ov_u64 (by decide) ?_ | refine ov_u8 (by omega) ?_ | refine ov_i32 (by omega) ?_ | refine ov_u32 (by omega) ?_
      conv => whnf
      refine ⟨L.length - (m + 1), by omega, m + 1, s8, by omega, rfl, rfl, ?_⟩
      rw [hps, List.length_append, List.map_append]
      exact hO8
    | false =>
      rw [if_neg (by simp)] at hps
      conv => whnf
      first | refine ov_i64 (by omega) ?_ | refine ov_u64 (by omega) ?_ | refine ov_i64 (by decide) ?_ | refine ov_u64 (by decide) ?_ | refine ov_u8 (by omega) ?_ | refine ov_i32 (by omega) ?_ | refine ov_u32 (by omega) ?_
      conv => whnf
      refine ⟨L.length - (m + 1), by omega, m + 1, _, by omega, rfl, rfl, ?_⟩
      rw [hps]
      exact hO4
  have hmn : m = L.length := by omega
  subst hmn
  have hpl := pathTo_len L x L.length
  have rp := hO4.rd aggI6
  conv => whnf
  refine path_x _ L x hx (hr0.le le04) hok hL fun s5 h5 hO5 => ?_
  have le5 := hO5.le
  conv => whnf
  refine ints_x s5 _ (pathTo L x L.length) (hO5.rd aggI6) (rp.le le5) (by omega) ?_
  conv => whnf
  refine live46_x (hp.le (Hp.le_trans le04 le5)) ?_
  conv => whnf
  exact hk h5 (Hp.le_trans le04 le5)
theorem traceTells_w (w : World) (hL : laidMetH Tryz.prog Rows.traceTellsRow.laid w) {cs0 cs1 cs2 cs3 : List Value} (w0 : Wf (whole w) (.slice shEv) cs0) (l0 : cs0.length = Sh.n (.slice shEv)) (w1 : Wf (whole w) (.int .i64) cs1) (l1 : cs1.length = Sh.n (.int .i64)) (w2 : Wf (whole w) (.int .i64) cs2) (l2 : cs2.length = Sh.n (.int .i64)) (w3 : Wf (whole w) (.int .u64) cs3) (l3 : cs3.length = Sh.n (.int .u64)) :
    X Tryz.prog 3 #[Sh.v (.slice shEv) cs0, Sh.v (.int .i64) cs1, Sh.v (.int .i64) cs2, Sh.v (.int .u64) cs3] (whole w) fun v h' => v = .bool true ∧ (whole w).le h' := by
  have hs := slice_of (P := Tryz.prog) (t := 53) (n := 65) (ok := Ev.ok) (cells := Ev.cs) aggEv sizEv (by decide) rfl (fun es hw => ev_of hw) w0
  obtain ⟨a, cap, L, rfl, _, hok, hL2⟩ := hs
  obtain ⟨k1, rfl, p1, q1⟩ := wfI w1
  obtain ⟨k2, rfl, p2, q2⟩ := wfI w2
  obtain ⟨k3, rfl, p3⟩ := wfU w3
  have hr : RdE (whole w) (.slice a L.length cap) L := ⟨a, cap, by rw [List.length_map], fun i v hv => by
    rw [List.getElem?_map] at hv
    cases hx : L[i]? with
    | none => rw [hx] at hv; cases hv
    | some x => rw [hx] at hv; cases hv; exact hL2 i x hx⟩
  exact traceTells_x (pow_of hL (by rfl)) (.slice a L.length cap) L k1 k2 k3 hr hok p1 q1 p2 q2 p3 (fun h' hle => ⟨rfl, hle⟩)
end
end Go.Proofs.YtcmhfofmloiaiaaGreatDoor
