/-
  Lines of asks: the document's.
-/
import Derived.Test.YtcmhfofmloiaiaaGreatDoorTrcD
namespace Go.Proofs.YtcmhfofmloiaiaaGreatDoor
set_option linter.unusedSimpArgs false
set_option linter.unusedVariables false
open Go Go.Mid Go.RowKit
attribute [local irreducible] mid
section
set_option maxHeartbeats 8000000
set_option maxRecDepth 10000
variable {h : Hp} {K : Value → Hp → Prop}
abbrev byL (a : Ak) (n : Nat) : List Nat := (List.range n).map fun i => byteN a.addr a.next a.cut i / 64
theorem byL_succ (a : Ak) (n : Nat) : byL a (n + 1) = byL a n ++ [byteN a.addr a.next a.cut n / 64] := by rw [byL, List.range_succ, List.map_append]; rfl
theorem byteN_lt {addr next : Nat} {cut : Int} {i : Nat} : byteN addr next cut i < 18446744073709551616 := by
  unfold byteN
  split <;> exact Nat.mod_lt _ (by decide)
theorem uv_one (l : List Nat) : (l.map uv).all Value.oneCell' = true := by simp [Value.oneCell']
theorem infU : Tryz.prog.info? 23 = some Tryz.prog.types[23] := by kernel_rfl
theorem rlines_x (a : Ak) (ha : a.ok) (hk : ∀ s' h', Owns h h' 23 1 s' (linesA a).length ((linesA a).map uv) → K s' h') : X Tryz.prog 17 #[.agg a.cs.toArray] h K := by
  unfold linesA at hk
  refine fnv (args := _) mixed [(4, 4), (22, 4)] [] [] Tryz.func17 rfl (by kernel_rfl) ?_
  conv => whnf
  refine new_intro (o := rowO 48 a.cs) (fun b h1 n_b le_b at_b ot_b => ?_)
  conv => whnf
  refine ⟨_, loadA0 aggAk sizAk at_b rfl, ?_⟩
  conv => whnf
  refine raccess_x a ?_
  conv => whnf
  refine ⟨_, loadC (i := 0) aggKi at_b rfl, ?_⟩
  conv => whnf
  refine rgroup_x a.kind ?_
  conv => whnf
  refine bsel_intro (fun q1 => ?_) (fun q1 => ?_) <;> try simp only [decide_eq_true_eq, decide_eq_false_iff_not, beq_iff_eq, beq_eq_false_iff_ne, ne_eq, Bool.not_eq_true', Bool.not_eq_false', bne_iff_ne, bne_eq_false_iff_eq, Bool.not_eq_true, Bool.not_eq_false, Bool.and_eq_true, Bool.or_eq_true, bs_size] at q1
  · rw [if_neg (fun hh => q1 hh.1)] at hk
    conv => whnf
    exact hk _ h1 (Owns.nil le_b)
  conv => whnf
  refine rmay_x a ?_
  conv => whnf
  refine bsel_intro (fun q2 => ?_) (fun q2 => ?_)
  · have q2 : mayB a = false := by simpa using q2
    rw [if_neg (fun hh => by rw [q2] at hh; cases hh.2)] at hk
    conv => whnf
    exact hk _ h1 (Owns.nil le_b)
  have q2 : mayB a = true := by simpa using q2
  obtain ⟨m1, m2, m3, m4⟩ := (mayB_iff a).1 q2
  rw [if_pos ⟨q1, q2⟩] at hk
  conv => whnf
  have hbx : ∀ n : Nat, (byL a n).length = n := fun n => by simp
  refine loop_at [5, 3] [4] (fun r vs cs h' => cs = [some [.int .u64 a.addr, .int .u64 a.next, .int .i64 a.cut, .int .i64 a.size]] ∧ ∃ (i : Nat) (sl : Value), i ≤ a.size.toNat ∧ r = a.size.toNat - i ∧ vs = [.v (.int .i64 i), .v sl] ∧ (i = 0 ∧ sl = .slice none 0 0 ∨ dl (byL a i) ≠ []) ∧ Owns h1 h' 23 1 sl (dl (byL a i)).length ((dl (byL a i)).map uv)) a.size.toNat ⟨rfl, 0, .slice none 0 0, by omega, by omega, rfl, .inl ⟨rfl, rfl⟩, Owns.nil (Hp.le_refl _)⟩ ?_
  rintro r vs cs mm bx h3 ⟨rfl, i, sl, hi, rfl, rfl, hst, hO3⟩
  have hDl : (dl (byL a i)).length ≤ 8 := by
    have := dl_len_le (byL a i)
    rw [hbx] at this
    omega
  have hrise := rising_dl (byL a i)
  have hsucc : dl (byL a (i + 1)) = ins (byteN a.addr a.next a.cut i / 64) (dl (byL a i)) := by rw [byL_succ, dl_snoc]
  have hnb : byteN a.addr a.next a.cut i < 18446744073709551616 := byteN_lt
  have td : ∀ bt : Nat, ((bt : Int)).tdiv 64 = ((bt / 64 : Nat) : Int) := fun _ => rfl
  have hne0 : ∀ (n : Nat) (l : List Nat), ins n l ≠ [] := fun n l e => by
    have : n ∈ ins n l := mem_ins.2 (.inl rfl)
    rw [e] at this; cases this
  by_cases his : i < a.size.toNat
  · rcases hst with ⟨rfl, rfl⟩ | hD0
    · have hD : dl (byL a 0) = [] := rfl
      rw [hD] at hsucc hO3
      generalize hne : byteN a.addr a.next a.cut 0 = bt at *
      conv => whnf
      refine bsel_true ?_ ?_
      · simp; omega
      conv => whnf
      refine byte_x a ha 0 (by omega) ?_
      rw [hne]
      conv => whnf
      rw [td]
      refine ov_u64 (by omega) ?_
      conv => whnf
      generalize bt / 64 = n at *
      refine loop_step ?_
      conv => whnf
      refine new_intro (o := rowO 23 []) (fun z h4 n_z le_z at_z ot_z => ?_)
      conv => whnf
      have hz : Owns h3 h4 23 1 (.slice (some ⟨z, 0, none⟩) 0 0) 0 [] := ⟨some z, ⟨rfl, .inr ⟨z, 0, [], rfl, rfl, Nat.le_refl _, rfl, at_z⟩⟩, le_z, fun c e => by cases e; exact n_z⟩
      refine Owns.appN (z := .int .u64 0) (news := []) (bytes := 8) (by kernel_rfl) infU (by kernel_rfl) (by kernel_rfl) (by kernel_rfl) rfl (by decide) rfl rfl rfl hz rfl (fun j v hj => by simp at hj) (fun _ => rfl) rfl (by decide) fun s5 h5 hO5 => ?_
      conv => whnf
      refine new_intro (o := rowO 23 [uv n]) (fun y h6 n_y le_y at_y ot_y => ?_)
      conv => whnf
      refine Owns.app1 (z := .int .u64 0) (by kernel_rfl) infU (by kernel_rfl) (by kernel_rfl) (by kernel_rfl) rfl (bytes := 8) (by decide) rfl rfl rfl (hO5.up le_y) at_y rfl rfl (by decide) fun s7 h7 hO7 => ?_
      conv => whnf
      refine Owns.appN (z := .int .u64 0) (news := []) (bytes := 8) (by kernel_rfl) infU (by kernel_rfl) (by kernel_rfl) (by kernel_rfl) rfl (by decide) rfl rfl rfl hO7 rfl (fun j v hj => by simp at hj) (fun _ => rfl) rfl (by decide) fun s8 h8 hO8 => ?_
      conv => whnf
      first | refine ov_i64 (by omega) ?_ | refine ov_u64 (by omega) ?_ | refine ov_i64 (by decide) ?_ | refine ov_u64 (by decide) ?_ | refine ov_u8 (by omega) ?_ | refine ov_i32 (by omega) ?_ | refine ov_u32 (by omega) ?_
      conv => whnf
      have hO9 := hO8.weak hO3.le
      refine ⟨a.size.toNat - 1, by omega, rfl, 1, s8, by omega, rfl, rfl, .inr ?_, ?_⟩
      · rw [hsucc]; exact hne0 _ _
      · rw [hsucc]; exact hO9
    · have hDpos : 0 < (dl (byL a i)).length := List.length_pos_iff.2 hD0
      obtain ⟨bb, cap, rest, rfl, hcap, hbb, hkb⟩ := hO3.row hDpos
      have hle3 := hO3.le
      generalize hDe : dl (byL a i) = D at *
      generalize hne : byteN a.addr a.next a.cut i = bt at *
      have hcell : ∀ (j : Nat) (x : Nat), D[j]? = some x → h3.cell? ⟨bb, j, none⟩ = some (uv x) := fun j x hx => cell_row hbb (by
        rw [List.getElem?_append_left (by rw [List.length_map]; exact (List.getElem?_eq_some_iff.1 hx).1), List.getElem?_map, hx]; rfl)
      conv => whnf
      refine bsel_true ?_ ?_
      · simp; omega
      conv => whnf
      refine byte_x a ha i (by omega) ?_
      rw [hne]
      conv => whnf
      rw [td]
      refine ov_u64 (by omega) ?_
      conv => whnf
      generalize bt / 64 = n at *
      refine loop_at [7] [4] (fun r vs cs h' => h3 = h' ∧ cs = [some [.int .u64 a.addr, .int .u64 a.next, .int .i64 a.cut, .int .i64 a.size]] ∧ ∃ k : Nat, k ≤ D.length ∧ r = D.length - k ∧ vs = [.v (.int .i64 k)] ∧ ∀ j x, j < k → D[j]? = some x → x < n) D.length ⟨rfl, rfl, 0, by omega, by omega, rfl, fun j x hj => by omega⟩ ?_
      rintro r vs cs mm bx _ ⟨rfl, rfl, k, hk1, rfl, rfl, hlt⟩
      have next : ∀ k : Nat, k ≤ D.length → (∀ j x, j < k → D[j]? = some x → x < n) → (∀ x, D[k]? = some x → n ≤ x) → ins n D = if D[k]? = some n then D else D.take k ++ n :: D.drop k := fun k hk hl hr => ins_at hrise hl hr hk
      conv => whnf
      refine bsel_intro (fun q4 => ?_) (fun q4 => ?_) <;> try simp only [decide_eq_true_eq, decide_eq_false_iff_not, beq_iff_eq, beq_eq_false_iff_ne, ne_eq, Bool.not_eq_true', Bool.not_eq_false', bne_iff_ne, bne_eq_false_iff_eq, Bool.not_eq_true, Bool.not_eq_false, Bool.and_eq_true, Bool.or_eq_true, bs_size] at q4
      · have hkD : k < D.length := by omega
        obtain ⟨x, hx⟩ : ∃ x, D[k]? = some x := ⟨_, List.getElem?_eq_getElem hkD⟩
        have e2 : loadH Tryz.prog 23 h3 ((⟨bb, 0, none⟩ : Addr).add (((k : Int)).toNat * 1)) = some (uv x) := by
          rw [Int.toNat_natCast, addr_add, loadH_cell aggU]
          simpa using hcell k x hx
        conv => whnf
        first | refine need_intro (⟨by omega, by omega⟩) ?_ | refine must.mk (⟨by omega, by omega⟩) ?_
        conv => whnf
        refine ⟨_, e2, ?_⟩
        conv => whnf
        refine bsel_intro (fun q5 => ?_) (fun q5 => ?_) <;> try simp only [decide_eq_true_eq, decide_eq_false_iff_not, beq_iff_eq, beq_eq_false_iff_ne, ne_eq, Bool.not_eq_true', Bool.not_eq_false', bne_iff_ne, bne_eq_false_iff_eq, Bool.not_eq_true, Bool.not_eq_false, Bool.and_eq_true, Bool.or_eq_true, bs_size] at q5
        · have hxn : x < n := by omega
          conv => whnf
          first | refine ov_i64 (by omega) ?_ | refine ov_u64 (by omega) ?_ | refine ov_i64 (by decide) ?_ | refine ov_u64 (by decide) ?_ | refine ov_u8 (by omega) ?_ | refine ov_i32 (by omega) ?_ | refine ov_u32 (by omega) ?_
          conv => whnf
          refine ⟨D.length - (k + 1), by omega, rfl, rfl, k + 1, by omega, rfl, rfl, fun j y hj hy => ?_⟩
          by_cases ej : j = k
          · subst ej; rw [hx] at hy; cases hy; exact hxn
          · exact hlt j y (by omega) hy
        · have hge : ∀ y, D[k]? = some y → n ≤ y := fun y hy => by rw [hx] at hy; cases hy; omega
          conv => whnf
          refine bsel_true ?_ ?_
          · simp; omega
          conv => whnf
          first | refine need_intro (⟨by omega, by omega⟩) ?_ | refine must.mk (⟨by omega, by omega⟩) ?_
          conv => whnf
          refine ⟨_, e2, ?_⟩
          conv => whnf
          refine bsel_intro (fun q6 => ?_) (fun q6 => ?_) <;> try simp only [decide_eq_true_eq, decide_eq_false_iff_not, beq_iff_eq, beq_eq_false_iff_ne, ne_eq, Bool.not_eq_true', Bool.not_eq_false', bne_iff_ne, bne_eq_false_iff_eq, Bool.not_eq_true, Bool.not_eq_false, Bool.and_eq_true, Bool.or_eq_true, bs_size] at q6
          · have hxn : x = n := by omega
            have hins := next k hk1 hlt hge
            rw [hx, hxn, if_pos rfl] at hins
            rw [hins] at hsucc
            conv => whnf
            first | refine ov_i64 (by omega) ?_ | refine ov_u64 (by omega) ?_ | refine ov_i64 (by decide) ?_ | refine ov_u64 (by decide) ?_ | refine ov_u8 (by omega) ?_ | refine ov_i32 (by omega) ?_ | refine ov_u32 (by omega) ?_
            conv => whnf
            refine ⟨a.size.toNat - (i + 1), by omega, rfl, i + 1, _, by omega, rfl, rfl, .inr ?_, ?_⟩
            · rw [hsucc]; exact hD0
            · rw [hsucc]; exact hO3
          · have hne2 : ¬ (D[k]? = some n) := fun hh => by rw [hx] at hh; cases hh; exact q6 rfl
            have hins := next k hk1 hlt hge
            rw [if_neg hne2] at hins
            conv => whnf
            refine new_intro (o := rowO 23 []) (fun z h4 n_z le_z at_z ot_z => ?_)
            conv => whnf
            have hz : Owns h3 h4 23 1 (.slice (some ⟨z, 0, none⟩) 0 0) 0 [] := ⟨some z, ⟨rfl, .inr ⟨z, 0, [], rfl, rfl, Nat.le_refl _, rfl, at_z⟩⟩, le_z, fun c e => by cases e; exact n_z⟩
            have hlT : (D.take k).length = k := by rw [List.length_take]; omega
            first | refine need_intro (⟨by omega, by omega⟩) ?_ | refine must.mk (⟨by omega, by omega⟩) ?_
            conv => whnf
            refine bsel_false ?_ ?_
            · simp; omega
            conv => whnf
            refine Owns.appN (z := .int .u64 0) (news := (D.take k).map uv) (bytes := 8) (by kernel_rfl) infU (by kernel_rfl) (by kernel_rfl) (by kernel_rfl) rfl (by decide) rfl rfl rfl hz (by rw [List.length_map, hlT]; show k = (((k : Nat) : Int).toNat - 0) * 1; omega) (fun j v hj => ⟨_, rfl, ?_⟩) (fun e => by cases e) (uv_one _) (by show 0 + (((k : Nat) : Int).toNat - 0) ≤ _; omega) fun s5 h5 hO5 => ?_
            · have hjk : j < k := by
                have := (List.getElem?_eq_some_iff.1 hj).1
                rw [List.length_map, hlT] at this; exact this
              obtain ⟨x, hx⟩ : ∃ x, D[j]? = some x := ⟨_, List.getElem?_eq_getElem (by omega)⟩
              have hv : v = uv x := by
                rw [List.getElem?_map, List.getElem?_take_of_lt hjk, hx] at hj
                cases hj; rfl
              subst hv
              show h4.cell? (((⟨bb, 0, none⟩ : Addr).add (0 * 1)).add j) = _
              rw [addr_add, addr_add]
              refine cell_le le_z ?_
              simpa using hcell j x hx
            have hO5 : Owns h3 h5 23 1 s5 k ((D.take k).map uv) := by
              have hO5' := hO5
              rw [show 0 + (((k : Nat) : Int).toNat - 0) = k by omega] at hO5'
              exact hO5'
            conv => whnf
            refine new_intro (o := rowO 23 [uv n]) (fun y h6 n_y le_y at_y ot_y => ?_)
            conv => whnf
            refine Owns.app1 (z := .int .u64 0) (by kernel_rfl) infU (by kernel_rfl) (by kernel_rfl) (by kernel_rfl) rfl (bytes := 8) (by decide) rfl rfl rfl (hO5.up le_y) at_y rfl rfl (by omega) fun s7 h7 hO7 => ?_
            conv => whnf
            first | refine need_intro (⟨by omega, by omega⟩) ?_ | refine must.mk (⟨by omega, by omega⟩) ?_
            conv => whnf
            refine bsel_intro (fun qc => ?_) (fun qc => ?_)
            · have qc : cap = k := by have := of_decide_eq_true qc; omega
              have hkl : D.drop k = [] := List.drop_eq_nil_of_le (by omega)
              conv => whnf
              refine Owns.appN (z := .int .u64 0) (news := (D.drop k).map uv) (bytes := 8) (by kernel_rfl) infU (by kernel_rfl) (by kernel_rfl) (by kernel_rfl) rfl (by decide) rfl rfl rfl hO7 (by rw [List.length_map, List.length_drop]; show _ = (D.length - ((k : Nat) : Int).toNat) * 1; omega) (fun j v hj => by rw [hkl] at hj; simp at hj) (fun e => by cases e) (uv_one _) (by show _ + (D.length - ((k : Nat) : Int).toNat) ≤ _; omega) fun s8 h8 hO8 => ?_
              rw [show D.length - ((k : Nat) : Int).toNat = D.length - k by omega] at hO8
              have hO9 : Owns h1 h8 23 1 s8 (dl (byL a (i + 1))).length ((dl (byL a (i + 1))).map uv) := by
                have hO9 := hO8.weak hle3
                rw [hsucc, hins]
                have e1 : (D.take k).map uv ++ [uv n] ++ (D.drop k).map uv = (D.take k ++ n :: D.drop k).map uv := by simp
                have e2 : (D.take k ++ n :: D.drop k).length = k + 1 + (D.length - k) := by simp; omega
                rw [← e1, e2]
                exact hO9
              conv => whnf
              first | refine ov_i64 (by omega) ?_ | refine ov_u64 (by omega) ?_ | refine ov_i64 (by decide) ?_ | refine ov_u64 (by decide) ?_ | refine ov_u8 (by omega) ?_ | refine ov_i32 (by omega) ?_ | refine ov_u32 (by omega) ?_
              conv => whnf
              exact ⟨a.size.toNat - (i + 1), by omega, rfl, i + 1, s8, by omega, rfl, rfl, .inr (by rw [hsucc]; exact hne0 _ _), hO9⟩
            · conv => whnf
              refine Owns.appN (z := .int .u64 0) (news := (D.drop k).map uv) (bytes := 8) (by kernel_rfl) infU (by kernel_rfl) (by kernel_rfl) (by kernel_rfl) rfl (by decide) rfl rfl rfl hO7 (by rw [List.length_map, List.length_drop]; show _ = (D.length - ((k : Nat) : Int).toNat) * 1; omega) (fun j v hj => ⟨_, rfl, ?_⟩) (fun e => by cases e) (uv_one _) (by show _ + (D.length - ((k : Nat) : Int).toNat) ≤ _; omega) fun s8 h8 hO8 => ?_
              · have hjk : k + j < D.length := by
                  have := (List.getElem?_eq_some_iff.1 hj).1
                  rw [List.length_map, List.length_drop] at this; omega
                obtain ⟨x, hx⟩ : ∃ x, D[k + j]? = some x := ⟨_, List.getElem?_eq_getElem hjk⟩
                have hv : v = uv x := by
                  rw [List.getElem?_map, List.getElem?_drop, hx] at hj
                  cases hj; rfl
                subst hv
                show h7.cell? (((⟨bb, 0, none⟩ : Addr).add (((k : Int)).toNat * 1)).add j) = _
                rw [addr_add, addr_add, Int.toNat_natCast, Nat.mul_one, Nat.zero_add]
                exact cell_le hO7.le (hcell (k + j) x hx)
              rw [show D.length - ((k : Nat) : Int).toNat = D.length - k by omega] at hO8
              have hO9 : Owns h1 h8 23 1 s8 (dl (byL a (i + 1))).length ((dl (byL a (i + 1))).map uv) := by
                have hO9 := hO8.weak hle3
                rw [hsucc, hins]
                have e1 : (D.take k).map uv ++ [uv n] ++ (D.drop k).map uv = (D.take k ++ n :: D.drop k).map uv := by simp
                have e2 : (D.take k ++ n :: D.drop k).length = k + 1 + (D.length - k) := by simp; omega
                rw [← e1, e2]
                exact hO9
              conv => whnf
              first | refine ov_i64 (by omega) ?_ | refine ov_u64 (by omega) ?_ | refine ov_i64 (by decide) ?_ | refine ov_u64 (by decide) ?_ | refine ov_u8 (by omega) ?_ | refine ov_i32 (by omega) ?_ | refine ov_u32 (by omega) ?_
              conv => whnf
              exact ⟨a.size.toNat - (i + 1), by omega, rfl, i + 1, s8, by omega, rfl, rfl, .inr (by rw [hsucc]; exact hne0 _ _), hO9⟩
      · have hge : ∀ y, D[k]? = some y → n ≤ y := fun y hy => by
          have := (List.getElem?_eq_some_iff.1 hy).1
          omega
        have hne2 : ¬ (D[k]? = some n) := fun hh => by
          have := (List.getElem?_eq_some_iff.1 hh).1
          omega
        conv => whnf
        refine bsel_false ?_ ?_
        · simp; omega
        conv => whnf
        have hins := next k hk1 hlt hge
        rw [if_neg hne2] at hins
        conv => whnf
        refine new_intro (o := rowO 23 []) (fun z h4 n_z le_z at_z ot_z => ?_)
        conv => whnf
        have hz : Owns h3 h4 23 1 (.slice (some ⟨z, 0, none⟩) 0 0) 0 [] := ⟨some z, ⟨rfl, .inr ⟨z, 0, [], rfl, rfl, Nat.le_refl _, rfl, at_z⟩⟩, le_z, fun c e => by cases e; exact n_z⟩
        have hlT : (D.take k).length = k := by rw [List.length_take]; omega
        first | refine need_intro (⟨by omega, by omega⟩) ?_ | refine must.mk (⟨by omega, by omega⟩) ?_
        conv => whnf
        refine bsel_false ?_ ?_
        · simp; omega
        conv => whnf
        refine Owns.appN (z := .int .u64 0) (news := (D.take k).map uv) (bytes := 8) (by kernel_rfl) infU (by kernel_rfl) (by kernel_rfl) (by kernel_rfl) rfl (by decide) rfl rfl rfl hz (by rw [List.length_map, hlT]; show k = (((k : Nat) : Int).toNat - 0) * 1; omega) (fun j v hj => ⟨_, rfl, ?_⟩) (fun e => by cases e) (uv_one _) (by show 0 + (((k : Nat) : Int).toNat - 0) ≤ _; omega) fun s5 h5 hO5 => ?_
        · have hjk : j < k := by
            have := (List.getElem?_eq_some_iff.1 hj).1
            rw [List.length_map, hlT] at this; exact this
          obtain ⟨x, hx⟩ : ∃ x, D[j]? = some x := ⟨_, List.getElem?_eq_getElem (by omega)⟩
          have hv : v = uv x := by
            rw [List.getElem?_map, List.getElem?_take_of_lt hjk, hx] at hj
            cases hj; rfl
          subst hv
          show h4.cell? (((⟨bb, 0, none⟩ : Addr).add (0 * 1)).add j) = _
          rw [addr_add, addr_add]
          refine cell_le le_z ?_
          simpa using hcell j x hx
        have hO5 : Owns h3 h5 23 1 s5 k ((D.take k).map uv) := by
          have hO5' := hO5
          rw [show 0 + (((k : Nat) : Int).toNat - 0) = k by omega] at hO5'
          exact hO5'
        conv => whnf
        refine new_intro (o := rowO 23 [uv n]) (fun y h6 n_y le_y at_y ot_y => ?_)
        conv => whnf
        refine Owns.app1 (z := .int .u64 0) (by kernel_rfl) infU (by kernel_rfl) (by kernel_rfl) (by kernel_rfl) rfl (bytes := 8) (by decide) rfl rfl rfl (hO5.up le_y) at_y rfl rfl (by omega) fun s7 h7 hO7 => ?_
        conv => whnf
        first | refine need_intro (⟨by omega, by omega⟩) ?_ | refine must.mk (⟨by omega, by omega⟩) ?_
        conv => whnf
        refine bsel_intro (fun qc => ?_) (fun qc => ?_)
        · have qc : cap = k := by have := of_decide_eq_true qc; omega
          have hkl : D.drop k = [] := List.drop_eq_nil_of_le (by omega)
          conv => whnf
          refine Owns.appN (z := .int .u64 0) (news := (D.drop k).map uv) (bytes := 8) (by kernel_rfl) infU (by kernel_rfl) (by kernel_rfl) (by kernel_rfl) rfl (by decide) rfl rfl rfl hO7 (by rw [List.length_map, List.length_drop]; show _ = (D.length - ((k : Nat) : Int).toNat) * 1; omega) (fun j v hj => by rw [hkl] at hj; simp at hj) (fun e => by cases e) (uv_one _) (by show _ + (D.length - ((k : Nat) : Int).toNat) ≤ _; omega) fun s8 h8 hO8 => ?_
          rw [show D.length - ((k : Nat) : Int).toNat = D.length - k by omega] at hO8
          have hO9 : Owns h1 h8 23 1 s8 (dl (byL a (i + 1))).length ((dl (byL a (i + 1))).map uv) := by
            have hO9 := hO8.weak hle3
            rw [hsucc, hins]
            have e1 : (D.take k).map uv ++ [uv n] ++ (D.drop k).map uv = (D.take k ++ n :: D.drop k).map uv := by simp
            have e2 : (D.take k ++ n :: D.drop k).length = k + 1 + (D.length - k) := by simp; omega
            rw [← e1, e2]
            exact hO9
          conv => whnf
          first | refine ov_i64 (by omega) ?_ | refine ov_u64 (by omega) ?_ | refine ov_i64 (by decide) ?_ | refine ov_u64 (by decide) ?_ | refine ov_u8 (by omega) ?_ | refine ov_i32 (by omega) ?_ | refine ov_u32 (by omega) ?_
          conv => whnf
          exact ⟨a.size.toNat - (i + 1), by omega, rfl, i + 1, s8, by omega, rfl, rfl, .inr (by rw [hsucc]; exact hne0 _ _), hO9⟩
        · conv => whnf
          refine Owns.appN (z := .int .u64 0) (news := (D.drop k).map uv) (bytes := 8) (by kernel_rfl) infU (by kernel_rfl) (by kernel_rfl) (by kernel_rfl) rfl (by decide) rfl rfl rfl hO7 (by rw [List.length_map, List.length_drop]; show _ = (D.length - ((k : Nat) : Int).toNat) * 1; omega) (fun j v hj => ⟨_, rfl, ?_⟩) (fun e => by cases e) (uv_one _) (by show _ + (D.length - ((k : Nat) : Int).toNat) ≤ _; omega) fun s8 h8 hO8 => ?_
          · have hjk : k + j < D.length := by
              have := (List.getElem?_eq_some_iff.1 hj).1
              rw [List.length_map, List.length_drop] at this; omega
            obtain ⟨x, hx⟩ : ∃ x, D[k + j]? = some x := ⟨_, List.getElem?_eq_getElem hjk⟩
            have hv : v = uv x := by
              rw [List.getElem?_map, List.getElem?_drop, hx] at hj
              cases hj; rfl
            subst hv
            show h7.cell? (((⟨bb, 0, none⟩ : Addr).add (((k : Int)).toNat * 1)).add j) = _
            rw [addr_add, addr_add, Int.toNat_natCast, Nat.mul_one, Nat.zero_add]
            exact cell_le hO7.le (hcell (k + j) x hx)
          rw [show D.length - ((k : Nat) : Int).toNat = D.length - k by omega] at hO8
          have hO9 : Owns h1 h8 23 1 s8 (dl (byL a (i + 1))).length ((dl (byL a (i + 1))).map uv) := by
            have hO9 := hO8.weak hle3
            rw [hsucc, hins]
            have e1 : (D.take k).map uv ++ [uv n] ++ (D.drop k).map uv = (D.take k ++ n :: D.drop k).map uv := by simp
            have e2 : (D.take k ++ n :: D.drop k).length = k + 1 + (D.length - k) := by simp; omega
            rw [← e1, e2]
            exact hO9
          conv => whnf
          first | refine ov_i64 (by omega) ?_ | refine ov_u64 (by omega) ?_ | refine ov_i64 (by decide) ?_ | refine ov_u64 (by decide) ?_ | refine ov_u8 (by omega) ?_ | refine ov_i32 (by omega) ?_ | refine ov_u32 (by omega) ?_
          conv => whnf
          exact ⟨a.size.toNat - (i + 1), by omega, rfl, i + 1, s8, by omega, rfl, rfl, .inr (by rw [hsucc]; exact hne0 _ _), hO9⟩
  · have : i = a.size.toNat := by omega
    subst this
    obtain ⟨o, c, rfl⟩ := hO3.shape
    conv => whnf
    refine bsel_false ?_ ?_
    · simp; omega
    conv => whnf
    exact hk _ h3 (hO3.weak le_b)
end
end Go.Proofs.YtcmhfofmloiaiaaGreatDoor
