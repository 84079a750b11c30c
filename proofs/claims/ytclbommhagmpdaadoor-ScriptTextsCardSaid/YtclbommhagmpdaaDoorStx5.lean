/-
  Scripts: their text, the document's.
-/
import Derived.Test.YtclbommhagmpdaaDoorStx4
namespace Go.Proofs.YtclbommhagmpdaaDoor
set_option linter.unusedSimpArgs false
set_option linter.unusedVariables false
open Go Go.Mid Go.RowKit
attribute [local irreducible] mid
section
set_option maxHeartbeats 8000000
set_option maxRecDepth 10000
variable {h : Hp} {K : Value → Hp → Prop}
theorem rnum36_x (n : Int) (h0 : -9223372036854775808 ≤ n) (h1 : n ≤ 9223372036854775807) (hk : K (.string (bs (Lib.itoa n))) h) : X Tryd.prog 58 #[.int .i64 n] h K := by
  refine fnv (args := _) mixed [] [] [] Tryd.func58 rfl (by kernel_rfl) ?_
  conv => whnf
  refine rDigits_x n h0 h1 ?_
  conv => whnf
  exact hk
theorem hexSub : ∀ n : Nat, n < 16 → (hexD.take ((n : Int) + 1).toNat).drop (n : Int).toNat = [hexN n] := by decide +kernel
theorem aggP36 : isAggT Tryd.prog 133 = some true := by kernel_rfl
theorem sizP36 : sizeT Tryd.prog 133 = some 2 := by kernel_rfl
theorem J_snoc {ws : List Str} (h : ws ≠ []) (x : Str) : J (ws ++ [x]) = J ws ++ 32 :: x := by rw [J_app h]; simp [tl]
set_option maxHeartbeats 16000000 in
theorem rtext_x (s : Sc) (ho : s.ok 133 h) (hP : s.P.length ≤ 300) (hb : ∀ p ∈ s.P, p.b.length ≤ 400) (hL : s.L.length ≤ 2000) (hk : K (.tuple #[.string (bs (if checkE s = 0 then textT s else [])), .int .i64 (checkE s)]) h) : X Tryd.prog 18 #[s.v] h K := by
  obtain ⟨bP, cP, eP, fP⟩ := ho.shapeP
  obtain ⟨bL, cL, eL, fL⟩ := rdL ho.ls
  obtain ⟨c, u, ps, P, ls, L⟩ := s
  simp only at eP eL fP fL hP hb hL
  subst eP
  subst eL
  have hoL : ∀ l ∈ L, -9223372036854775808 ≤ l.n ∧ l.n ≤ 9223372036854775807 := ho.L
  have hoP : ∀ p ∈ P, p.ok h := ho.P
  have lP : P.length ≤ 2 ^ 20 := Nat.le_trans hP (by decide)
  have lL : L.length ≤ 2 ^ 20 := Nat.le_trans hL (by decide)
  refine fnv (args := _) mixed [(1, 1), (19, 1), (25, 1), (31, 1), (37, 1), (44, 1), (53, 1), (61, 1), (69, 1), (79, 1), (89, 1), (119, 1), (123, 1), (128, 1), (20, 1), (26, 1), (32, 1), (38, 1), (45, 1), (54, 1), (12, 12), (132, 12), (138, 12), (151, 12), (160, 12), (167, 12), (171, 12), (178, 12)] [] [] Tryd.func18 rfl (by kernel_rfl) ?_
  conv => whnf
  refine rcheck_x ⟨c, u, .slice bP P.length cP, P, .slice bL L.length cL, L⟩ ho ?_
  conv => whnf
  refine bsel_intro (fun q1 => ?_) (fun q1 => ?_)
  · have q1 : checkE ⟨c, u, .slice bP P.length cP, P, .slice bL L.length cL, L⟩ ≠ 0 := by simpa using q1
    rw [if_neg q1] at hk
    conv => whnf
    exact hk
  have q1 : checkE ⟨c, u, .slice bP P.length cP, P, .slice bL L.length cL, L⟩ = 0 := by simpa using q1
  rw [if_pos q1, q1] at hk
  obtain ⟨c1, c2, c3⟩ := check_ok q1
  simp only at c1 c2 c3
  have hcr := (rightB_iff c).1 c1
  have ca0 := hcr.a0
  have ca1 := hcr.a1
  have n1 := itoa_len ho.a0 ho.a1
  have n2 := itoa_len ho.b0 ho.b1
  have n3 := itoa_len ho.c0 ho.c1
  have n4 := itoa_len ho.d0 ho.d1
  simp only at n1 n2 n3 n4
  have lm : (head1 c).length ≤ 13065 := by
    have := J_len (ws := [sMachine, Lib.itoa c.a, Lib.itoa c.b, Lib.itoa c.c, Lib.itoa c.d]) (Sm.cons (by decide) (Sm.cons (sm_itoa ho.a0 ho.a1) (Sm.cons (sm_itoa ho.b0 ho.b1) (Sm.cons (sm_itoa ho.c0 ho.c1) (Sm.cons (sm_itoa ho.d0 ho.d1) Sm.nil))))) (by simp)
    rw [head1, List.length_append]; simp only [List.length_cons, List.length_nil]; omega
  conv => whnf
  refine rnum36_x c.a ho.a0 ho.a1 ?_
  refine ⟨trivial, ?_⟩
  conv => whnf
  refine cat_intro (by simp only [List.length_append, List.length_cons, List.length_nil]; omega) ?_
  conv => whnf
  refine cat_intro (by simp only [List.length_append, List.length_cons, List.length_nil]; omega) ?_
  conv => whnf
  refine rnum36_x c.b ho.b0 ho.b1 ?_
  refine ⟨trivial, ?_⟩
  conv => whnf
  refine cat_intro (by simp only [List.length_append, List.length_cons, List.length_nil]; omega) ?_
  conv => whnf
  refine cat_intro (by simp only [List.length_append, List.length_cons, List.length_nil]; omega) ?_
  conv => whnf
  refine rnum36_x c.c ho.c0 ho.c1 ?_
  refine ⟨trivial, ?_⟩
  conv => whnf
  refine cat_intro (by simp only [List.length_append, List.length_cons, List.length_nil]; omega) ?_
  conv => whnf
  refine cat_intro (by simp only [List.length_append, List.length_cons, List.length_nil]; omega) ?_
  conv => whnf
  refine rnum36_x c.d ho.d0 ho.d1 ?_
  refine ⟨trivial, ?_⟩
  conv => whnf
  refine cat_intro (by simp only [List.length_append, List.length_cons, List.length_nil]; omega) ?_
  conv => whnf
  refine cat_by (m := head1 c ++ sBudget) (by simp only [List.length_append, List.length_cons, List.length_nil]; omega) (by simp [head1, J, join_tl, tl, List.append_assoc]) ?_
  conv => whnf
  obtain ⟨hsm, hsl⟩ := sm_budW c2
  refine loop_at [6, 5] [1] (fun r vs cs h' => h = h' ∧ cs = [some (Sc.cs ⟨c, u, .slice bP P.length cP, P, .slice bL L.length cL, L⟩)] ∧ ∃ i : Nat, i ≤ c.a.toNat ∧ r = c.a.toNat - i ∧ vs = [.v (.int .i64 i), .v (.string (bs (head1 c ++ J (sBudget :: (u.l.take i).map Lib.itoa))))]) c.a.toNat ⟨rfl, rfl, 0, by omega, by omega, rfl⟩ ?_
  rintro r vs cs mm bx _ ⟨rfl, rfl, i, hi, rfl, rfl⟩
  have lb : (J (sBudget :: (u.l.take i).map Lib.itoa)).length ≤ 13064 := by
    refine J_len (fun x hx => hsm x ?_) ?_
    · rcases List.mem_cons.1 hx with rfl | hx
      · exact List.mem_cons_self
      · refine List.mem_cons_of_mem _ ?_
        unfold budW
        obtain ⟨v, hv, rfl⟩ := List.mem_map.1 hx
        exact List.mem_map.2 ⟨v, List.mem_of_mem_take (by rw [List.take_take, Nat.min_eq_left hi]; exact hv), rfl⟩
    · rw [List.length_cons, List.length_map, List.length_take]; show min i 8 + 1 ≤ 200; omega
  conv => whnf
  refine bsel_intro (fun q2 => ?_) (fun q2 => ?_) <;> try simp only [decide_eq_true_eq, decide_eq_false_iff_not, beq_iff_eq, beq_eq_false_iff_ne, ne_eq, Bool.not_eq_true', Bool.not_eq_false', bne_iff_ne, bne_eq_false_iff_eq, Bool.not_eq_true, Bool.not_eq_false, Bool.and_eq_true, Bool.or_eq_true, bs_size] at q2
  · have hi8 : i < 8 := by omega
    have hbr := bu_range c2 hi8
    have hst := budW_take (c := c) (u := u) hi8
    have hbl := itoa_len (n := u.at i) (by omega) (by omega)
    have hcell : (Sc.cs ⟨c, u, .slice bP P.length cP, P, .slice bL L.length cL, L⟩)[0 + 4 + i * 1]? = some (.int .i64 (u.at i)) := by
      have := bu_at u hi8
      rw [← this]
      match i, hi8 with
      | 0, _ => rfl
      | 1, _ => rfl
      | 2, _ => rfl
      | 3, _ => rfl
      | 4, _ => rfl
      | 5, _ => rfl
      | 6, _ => rfl
      | 7, _ => rfl
    conv => whnf
    refine cat_intro (by simp only [List.length_append, List.length_cons, List.length_nil]; omega) ?_
    conv => whnf
    first | refine need_intro (⟨by omega, by omega⟩) ?_ | refine must.mk (⟨by omega, by omega⟩) ?_
    conv => whnf
    refine getK_intro (cs := Sc.cs ⟨c, u, .slice bP P.length cP, P, .slice bL L.length cL, L⟩) (off := 0 + 4 + ((i : Int)).toNat * 1) (v := .int .i64 (u.at i)) (by rw [show ((i : Int)).toNat = i by omega]; exact hcell) ?_
    conv => whnf
    refine rnum36_x (u.at i) (by omega) (by omega) ?_
    conv => whnf
    refine cat_by (m := head1 c ++ J (sBudget :: (u.l.take (i + 1)).map Lib.itoa)) (by simp only [List.length_append, List.length_cons, List.length_nil]; omega) (by rw [hst, ← List.cons_append, J_snoc (by simp)]; simp [List.append_assoc]) ?_
    conv => whnf
    first | refine ov_i64 (by omega) ?_ | refine ov_u64 (by omega) ?_ | refine ov_i64 (by decide) ?_ | refine ov_u64 (by decide) ?_ | refine ov_u8 (by omega) ?_ | refine ov_i32 (by omega) ?_ | refine ov_u32 (by omega) ?_
    conv => whnf
    exact ⟨c.a.toNat - (i + 1), by omega, rfl, rfl, i + 1, by omega, rfl, rfl⟩
  have hia : i = c.a.toNat := by omega
  subst hia
  have lh : ((head1 c ++ head2 c u)).length ≤ 26130 := by
    have lb : (J (sBudget :: budW c u)).length ≤ 13064 := lb
    rw [List.length_append, head2]; simp only [List.length_append, List.length_cons, List.length_nil]; omega
  rw [List.length_append] at lh
  have hpb : ∀ p ∈ P, p.at_ < 18446744073709551616 ∧ p.b.length ≤ 400 := fun p hp => ⟨(hoP p hp).at_, hb p hp⟩
  have hlp : (partsT P).length ≤ 901 * 300 := Nat.le_trans (partsT_len _ hpb) (Nat.mul_le_mul_left _ hP)
  have hlr2 : (runsT L 0).length ≤ 13065 * 2000 := Nat.le_trans (runsT_len hoL lL L.length 0 (by omega)) (Nat.mul_le_mul_left _ hL)
  have hltot : (textT ⟨c, u, .slice bP P.length cP, P, .slice bL L.length cL, L⟩).length ≤ 27000000 := by rw [textT, headT]; simp only [List.length_append]; omega
  have hH : (head1 c ++ head2 c u) = head1 c ++ J (sBudget :: (u.l.take c.a.toNat).map Lib.itoa) ++ [10] := by rw [head2, ← List.append_assoc]; rfl
  conv => whnf
  refine cat_by (m := (head1 c ++ head2 c u)) (by simp only [List.length_append, List.length_cons, List.length_nil]; omega) hH.symm ?_
  conv => whnf
  refine loop_at [8, 5] [1] (fun r vs cs h' => h = h' ∧ cs = [some (Sc.cs ⟨c, u, .slice bP P.length cP, P, .slice bL L.length cL, L⟩)] ∧ ∃ i : Nat, i ≤ P.length ∧ r = P.length - i ∧ vs = [.v (.int .i64 i), .v (.string (bs ((head1 c ++ head2 c u) ++ partsT (P.take i))))]) P.length ⟨rfl, rfl, 0, by omega, by omega, by show [MV.v (Value.int .i64 0), MV.v (Value.string (bs ((head1 c ++ head2 c u))))] = [MV.v (Value.int .i64 ((0 : Nat) : Int)), MV.v (Value.string (bs ((head1 c ++ head2 c u) ++ [])))]; rw [List.append_nil]; rfl⟩ ?_
  rintro r vs cs mm bx _ ⟨rfl, rfl, i, hi, rfl, rfl⟩
  conv => whnf
  refine bsel_intro (fun q3 => ?_) (fun q3 => ?_) <;> try simp only [decide_eq_true_eq, decide_eq_false_iff_not, beq_iff_eq, beq_eq_false_iff_ne, ne_eq, Bool.not_eq_true', Bool.not_eq_false', bne_iff_ne, bne_eq_false_iff_eq, Bool.not_eq_true, Bool.not_eq_false, Bool.and_eq_true, Bool.or_eq_true, bs_size] at q3
  · have hiP : i < P.length := by omega
    obtain ⟨p, hpp⟩ : ∃ p, P[i]? = some p := ⟨_, List.getElem?_eq_getElem hiP⟩
    have hmem := List.mem_of_getElem? hpp
    have hpo := hoP p hmem
    have hst := partsT_take hpp
    have hpbl := hb p hmem
    have hpl := partJ_len hpo.at_ hpbl
    have hhx := hexS_len p.b
    have hdl := dec_len hpo.at_
    have hlt : (partsT (P.take i)).length ≤ 901 * 300 := Nat.le_trans (partsT_len _ fun q hq => hpb q (List.mem_of_mem_take hq)) (Nat.mul_le_mul_left _ (Nat.le_trans (List.length_take_le' _ _) hP))
    obtain ⟨a, rfl, e1⟩ := fP i p hpp
    obtain ⟨bB, cB, eB, fB⟩ := hpo.shape
    have hpa := hpo.at_
    obtain ⟨at_, slv, b⟩ := p
    simp only at eB fB hpa hpbl hpl hst e1 hhx hdl
    subst eB
    have e2 : h.cell? ((a.add (i * 2)).add 0) = some (.int .u64 at_) := loadH_cellOf aggP36 sizP36 e1 rfl
    have e3 : h.cell? ((a.add (i * 2)).add 1) = some (.slice bB b.length cB) := loadH_cellOf aggP36 sizP36 e1 rfl
    rw [show i = ((i : Int)).toNat by omega] at e2 e3
    conv => whnf
    refine cat_intro (by simp only [List.length_append, List.length_cons, List.length_nil]; omega) ?_
    conv => whnf
    first | refine need_intro (⟨by omega, by omega⟩) ?_ | refine must.mk (⟨by omega, by omega⟩) ?_
    conv => whnf
    refine ⟨_, (loadH_cell aggU _ _).trans e2, ?_⟩
    conv => whnf
    refine rPlain_x at_ hpa ?_
    conv => whnf
    refine cat_intro (by simp only [List.length_append, List.length_cons, List.length_nil]; omega) ?_
    conv => whnf
    refine cat_by (m := (head1 c ++ head2 c u) ++ partsT (P.take i) ++ (J [sAt, Lib.decDigits at_] ++ [32])) (by simp only [List.length_append, List.length_cons, List.length_nil]; omega) (by simp [J, join_tl, tl, List.append_assoc]) ?_
    conv => whnf
    refine loop_at [9, 5] [1] (fun r vs cs h' => h = h' ∧ cs = [some (Sc.cs ⟨c, u, .slice (some a) P.length cP, P, .slice bL L.length cL, L⟩)] ∧ ∃ k : Nat, k ≤ b.length ∧ r = b.length - k ∧ vs = [.v (.int .i64 k), .v (.string (bs ((head1 c ++ head2 c u) ++ partsT (P.take i) ++ (J [sAt, Lib.decDigits at_] ++ [32]) ++ hexS (b.take k))))]) b.length ⟨rfl, rfl, 0, by omega, by omega, by show [MV.v (Value.int .i64 0), MV.v (Value.string (bs ((head1 c ++ head2 c u) ++ partsT (P.take i) ++ (J [sAt, Lib.decDigits at_] ++ [32]))))] = [MV.v (Value.int .i64 ((0 : Nat) : Int)), MV.v (Value.string (bs ((head1 c ++ head2 c u) ++ partsT (P.take i) ++ (J [sAt, Lib.decDigits at_] ++ [32]) ++ [])))]; rw [List.append_nil]; rfl⟩ ?_
    rintro r vs cs mm2 bx2 _ ⟨rfl, rfl, k, hk2, rfl, rfl⟩
    have jl : (J [sAt, Lib.decDigits at_]).length ≤ 23 := by rw [J, join_tl]; simp only [tl, List.flatMap_cons, List.flatMap_nil, List.length_append, List.length_cons, List.length_nil]; omega
    have hkl := hexS_len (b.take k)
    have hkl2 : (b.take k).length ≤ b.length := List.length_take_le' _ _
    conv => whnf
    first | refine need_intro (⟨by omega, by omega⟩) ?_ | refine must.mk (⟨by omega, by omega⟩) ?_
    conv => whnf
    refine ⟨_, (loadH_cell aggY _ _).trans e3, ?_⟩
    conv => whnf
    refine bsel_intro (fun q4 => ?_) (fun q4 => ?_) <;> try simp only [decide_eq_true_eq, decide_eq_false_iff_not, beq_iff_eq, beq_eq_false_iff_ne, ne_eq, Bool.not_eq_true', Bool.not_eq_false', bne_iff_ne, bne_eq_false_iff_eq, Bool.not_eq_true, Bool.not_eq_false, Bool.and_eq_true, Bool.or_eq_true, bs_size] at q4
    · have hkb : k < b.length := by omega
      obtain ⟨x, hx⟩ : ∃ x, b[k]? = some x := ⟨_, List.getElem?_eq_getElem hkb⟩
      obtain ⟨a8, ea8, ex⟩ := fB k x hx
      have hst2 := hexS_take hx
      have hx256 : x.toNat < 256 := x.toNat_lt
      subst ea8
      have ex2 : h.cell? (a8.add (((k : Int)).toNat * 1)) = some (byV x) := by rw [show ((k : Int)).toNat = k by omega, Nat.mul_one]; exact ex
      have td : ((x.toNat : Int)).tdiv 16 = ((x.toNat / 16 : Nat) : Int) := rfl
      have tm : ((x.toNat : Int)).tmod 16 = ((x.toNat % 16 : Nat) : Int) := rfl
      conv => whnf
      first | refine need_intro (⟨by omega, by omega⟩) ?_ | refine must.mk (⟨by omega, by omega⟩) ?_
      conv => whnf
      refine ⟨_, (loadH_cell aggY _ _).trans e3, ?_⟩
      conv => whnf
      first | refine need_intro (⟨by omega, by omega⟩) ?_ | refine must.mk (⟨by omega, by omega⟩) ?_
      conv => whnf
      refine ⟨_, (loadH_cell aggU8 _ _).trans ex2, ?_⟩
      conv => whnf
      first | refine ov_i64 (by omega) ?_ | refine ov_u64 (by omega) ?_ | refine ov_i64 (by decide) ?_ | refine ov_u64 (by decide) ?_ | refine ov_u8 (by omega) ?_ | refine ov_i32 (by omega) ?_ | refine ov_u32 (by omega) ?_
      conv => whnf
      have s1 : (hexD.take (((x.toNat : Int)).tdiv 16 + 1).toNat).drop (((x.toNat : Int)).tdiv 16).toNat = [hexN (x.toNat / 16)] := hexSub (x.toNat / 16) (by omega)
      have s2 : (hexD.take (((x.toNat : Int)).tmod 16 + 1).toNat).drop (((x.toNat : Int)).tmod 16).toNat = [hexN (x.toNat % 16)] := hexSub (x.toNat % 16) (by omega)
      refine ov_i64 (by rw [td]; omega) ?_
      conv => whnf
      refine ov_i64 (by rw [td]; omega) ?_
      conv => whnf
      refine ov_i64 (by rw [td]; omega) ?_
      conv => whnf
      first | refine need_intro (⟨by rw [td]; omega, by rw [td]; show _ ≤ ((16 : Nat) : Int); omega⟩) ?_ | refine must.mk (⟨by rw [td]; omega, by rw [td]; show _ ≤ ((16 : Nat) : Int); omega⟩) ?_
      conv => whnf
      first | refine need_intro (⟨by rw [td]; omega, by rw [td]; omega⟩) ?_ | refine must.mk (⟨by rw [td]; omega, by rw [td]; omega⟩) ?_
      conv => whnf
      refine sub_by (l := hexD) s1 ?_
      conv => whnf
      refine cat_intro (by simp only [List.length_append, List.length_cons, List.length_nil]; omega) ?_
      conv => whnf
      refine ov_i64 (by rw [tm]; omega) ?_
      conv => whnf
      first | refine need_intro (⟨by rw [tm]; omega, by rw [tm]; show _ ≤ ((16 : Nat) : Int); omega⟩) ?_ | refine must.mk (⟨by rw [tm]; omega, by rw [tm]; show _ ≤ ((16 : Nat) : Int); omega⟩) ?_
      conv => whnf
      first | refine need_intro (⟨by rw [tm]; omega, by rw [tm]; omega⟩) ?_ | refine must.mk (⟨by rw [tm]; omega, by rw [tm]; omega⟩) ?_
      conv => whnf
      refine sub_by (l := hexD) s2 ?_
      conv => whnf
      refine cat_by (m := (head1 c ++ head2 c u) ++ partsT (P.take i) ++ (J [sAt, Lib.decDigits at_] ++ [32]) ++ hexS (b.take (k + 1))) (by simp only [List.length_append, List.length_cons, List.length_nil]; omega) (by rw [hst2]; simp only [List.append_assoc]) ?_
      conv => whnf
      first | refine ov_i64 (by omega) ?_ | refine ov_u64 (by omega) ?_ | refine ov_i64 (by decide) ?_ | refine ov_u64 (by decide) ?_ | refine ov_u8 (by omega) ?_ | refine ov_i32 (by omega) ?_ | refine ov_u32 (by omega) ?_
      conv => whnf
      exact ⟨b.length - (k + 1), by omega, rfl, rfl, k + 1, by omega, rfl, rfl⟩
    have : k = b.length := by omega
    subst this
    rw [List.take_length]
    conv => whnf
    refine cat_by (m := (head1 c ++ head2 c u) ++ partsT (P.take (i + 1))) (by simp only [List.length_append, List.length_cons, List.length_nil]; omega) (by rw [hst]; simp [J, join_tl, tl, List.append_assoc]) ?_
    conv => whnf
    first | refine ov_i64 (by omega) ?_ | refine ov_u64 (by omega) ?_ | refine ov_i64 (by decide) ?_ | refine ov_u64 (by decide) ?_ | refine ov_u8 (by omega) ?_ | refine ov_i32 (by omega) ?_ | refine ov_u32 (by omega) ?_
    conv => whnf
    exact ⟨P.length - (i + 1), by omega, rfl, rfl, i + 1, by omega, rfl, rfl⟩
  have : i = P.length := by omega
  subst this
  rw [List.take_length]
  conv => whnf
  refine loop_at [11, 5] [1] (fun r vs cs h' => h = h' ∧ cs = [some (Sc.cs ⟨c, u, .slice bP P.length cP, P, .slice bL L.length cL, L⟩)] ∧ ∃ (i : Nat) (cur : Str), i ≤ L.length ∧ r = L.length - i ∧ vs = [.v (.int .i64 i), .v (.string (bs cur))] ∧ cur ++ runsT L i = textT ⟨c, u, .slice bP P.length cP, P, .slice bL L.length cL, L⟩) L.length ⟨rfl, rfl, 0, _, by omega, by omega, rfl, rfl⟩ ?_
  rintro r vs cs mm bx _ ⟨rfl, rfl, i, cur, hi, rfl, rfl, hc⟩
  have hcl : cur.length ≤ 27000000 := by
    have := congrArg List.length hc
    rw [List.length_append] at this
    omega
  conv => whnf
  refine bsel_intro (fun q5 => ?_) (fun q5 => ?_) <;> try simp only [decide_eq_true_eq, decide_eq_false_iff_not, beq_iff_eq, beq_eq_false_iff_ne, ne_eq, Bool.not_eq_true', Bool.not_eq_false', bne_iff_ne, bne_eq_false_iff_eq, Bool.not_eq_true, Bool.not_eq_false, Bool.and_eq_true, Bool.or_eq_true, bs_size] at q5
  · have hiL : i < L.length := by omega
    obtain ⟨n, hn⟩ := run_is hiL
    have hn0 := hn
    obtain ⟨x, hx, a1, a2, -⟩ := hn0
    have hra := runsT_at hx hn
    have hxm := List.mem_of_getElem? hx
    have hxe := c3 x hxm
    have hxn := hoL x hxm
    have hjl := lineJ_len hxn (show n ≤ 2 ^ 20 by omega)
    have hlsr : Rd Tryd.prog 47 3 h (.slice bL L.length cL) (lv L) := ho.ls
    obtain ⟨a, rfl, e1⟩ := fL i x hx
    obtain ⟨xw, xn, xon⟩ := x
    have hw : 0 ≤ xw ∧ xw ≤ 3 := by
      unfold lineE at hxe
      split at hxe
      · cases hxe
      · rename_i h1
        simp only at h1
        omega
    clear hxe
    have nl := itoa_len hxn.1 hxn.2
    have nn := itoa_len (n := (n : Int)) (by omega) (by omega)
    simp only at nl
    have e2 : loadH Tryd.prog 47 h (a.add (((i : Int)).toNat * 3)) = some (.agg #[.int .i64 xw, .int .i64 xn, .bool xon]) := by rw [show ((i : Int)).toNat = i by omega]; exact e1
    conv => whnf
    first | refine need_intro (⟨by omega, by omega⟩) ?_ | refine must.mk (⟨by omega, by omega⟩) ?_
    conv => whnf
    refine ⟨_, e2, ?_⟩
    conv => whnf
    refine rrun_x _ L i n hlsr (by omega) hn ?_
    conv => whnf
    refine bsel_intro (fun q6 => ?_) (fun q6 => ?_) <;> try simp only [decide_eq_true_eq, decide_eq_false_iff_not, beq_iff_eq, beq_eq_false_iff_ne, ne_eq, Bool.not_eq_true', Bool.not_eq_false', bne_iff_ne, bne_eq_false_iff_eq, Bool.not_eq_true, Bool.not_eq_false, Bool.and_eq_true, Bool.or_eq_true, bs_size] at q6
    · have hT : lineT ⟨xw, xn, xon⟩ n = J [sPick, Lib.itoa xn, Lib.itoa n] ++ [10] := by rw [lineT, lineWs, if_pos q6]
      conv => whnf
      refine cat_intro (by simp only [List.length_append, List.length_cons, List.length_nil]; omega) ?_
      conv => whnf
      refine rnum36_x xn hxn.1 hxn.2 ?_
      conv => whnf
      refine cat_intro (by simp only [List.length_append, List.length_cons, List.length_nil]; omega) ?_
      conv => whnf
      refine cat_intro (by simp only [List.length_append, List.length_cons, List.length_nil]; omega) ?_
      conv => whnf
      refine rnum36_x n (by omega) (by omega) ?_
      conv => whnf
      refine cat_intro (by simp only [List.length_append, List.length_cons, List.length_nil]; omega) ?_
      conv => whnf
      refine cat_by (m := cur ++ lineT ⟨xw, xn, xon⟩ n) (by simp only [List.length_append, List.length_cons, List.length_nil]; omega) (by rw [hT]; simp [J, join_tl, tl, List.append_assoc]) ?_
      conv => whnf
      first | refine ov_i64 (by omega) ?_ | refine ov_u64 (by omega) ?_ | refine ov_i64 (by decide) ?_ | refine ov_u64 (by decide) ?_ | refine ov_u8 (by omega) ?_ | refine ov_i32 (by omega) ?_ | refine ov_u32 (by omega) ?_
      conv => whnf
      refine ⟨L.length - (i + n), by omega, rfl, rfl, i + n, _, by omega, rfl, ?_, by rw [List.append_assoc, ← hra]; exact hc⟩
      show [MV.v (Value.int .i64 ((i : Int) + (n : Int))), _] = _
      rw [show ((i + n : Nat) : Int) = (i : Int) + (n : Int) by omega]
      rfl
    conv => whnf
    refine bsel_intro (fun q7 => ?_) (fun q7 => ?_) <;> try simp only [decide_eq_true_eq, decide_eq_false_iff_not, beq_iff_eq, beq_eq_false_iff_ne, ne_eq, Bool.not_eq_true', Bool.not_eq_false', bne_iff_ne, bne_eq_false_iff_eq, Bool.not_eq_true, Bool.not_eq_false, Bool.and_eq_true, Bool.or_eq_true, bs_size] at q7
    · have hT : lineT ⟨xw, xn, xon⟩ n = J [sTick, Lib.itoa xn] ++ [10] := by rw [lineT, lineWs, if_neg q6, if_pos q7]
      conv => whnf
      refine cat_intro (by simp only [List.length_append, List.length_cons, List.length_nil]; omega) ?_
      conv => whnf
      refine rnum36_x xn hxn.1 hxn.2 ?_
      conv => whnf
      refine cat_intro (by simp only [List.length_append, List.length_cons, List.length_nil]; omega) ?_
      conv => whnf
      refine cat_by (m := cur ++ lineT ⟨xw, xn, xon⟩ n) (by simp only [List.length_append, List.length_cons, List.length_nil]; omega) (by rw [hT]; simp [J, join_tl, tl, List.append_assoc]) ?_
      conv => whnf
      first | refine ov_i64 (by omega) ?_ | refine ov_u64 (by omega) ?_ | refine ov_i64 (by decide) ?_ | refine ov_u64 (by decide) ?_ | refine ov_u8 (by omega) ?_ | refine ov_i32 (by omega) ?_ | refine ov_u32 (by omega) ?_
      conv => whnf
      refine ⟨L.length - (i + n), by omega, rfl, rfl, i + n, _, by omega, rfl, ?_, by rw [List.append_assoc, ← hra]; exact hc⟩
      show [MV.v (Value.int .i64 ((i : Int) + (n : Int))), _] = _
      rw [show ((i + n : Nat) : Int) = (i : Int) + (n : Int) by omega]
      rfl
    conv => whnf
    refine bsel_intro (fun q8 => ?_) (fun q8 => ?_) <;> try simp only [decide_eq_true_eq, decide_eq_false_iff_not, beq_iff_eq, beq_eq_false_iff_ne, ne_eq, Bool.not_eq_true', Bool.not_eq_false', bne_iff_ne, bne_eq_false_iff_eq, Bool.not_eq_true, Bool.not_eq_false, Bool.and_eq_true, Bool.or_eq_true, bs_size] at q8
    · have hT : lineT ⟨xw, xn, xon⟩ n = J [sInput, Lib.itoa xn] ++ [10] := by rw [lineT, lineWs, if_neg q6, if_neg q7, if_pos q8]
      conv => whnf
      refine cat_intro (by simp only [List.length_append, List.length_cons, List.length_nil]; omega) ?_
      conv => whnf
      refine rnum36_x xn hxn.1 hxn.2 ?_
      conv => whnf
      refine cat_intro (by simp only [List.length_append, List.length_cons, List.length_nil]; omega) ?_
      conv => whnf
      refine cat_by (m := cur ++ lineT ⟨xw, xn, xon⟩ n) (by simp only [List.length_append, List.length_cons, List.length_nil]; omega) (by rw [hT]; simp [J, join_tl, tl, List.append_assoc]) ?_
      conv => whnf
      first | refine ov_i64 (by omega) ?_ | refine ov_u64 (by omega) ?_ | refine ov_i64 (by decide) ?_ | refine ov_u64 (by decide) ?_ | refine ov_u8 (by omega) ?_ | refine ov_i32 (by omega) ?_ | refine ov_u32 (by omega) ?_
      conv => whnf
      refine ⟨L.length - (i + n), by omega, rfl, rfl, i + n, _, by omega, rfl, ?_, by rw [List.append_assoc, ← hra]; exact hc⟩
      show [MV.v (Value.int .i64 ((i : Int) + (n : Int))), _] = _
      rw [show ((i + n : Nat) : Int) = (i : Int) + (n : Int) by omega]
      rfl
    conv => whnf
    refine bsel_true ?_ ?_
    · simp; omega
    conv => whnf
    cases xon
    · have hT : lineT ⟨xw, xn, false⟩ n = J [sWire, Lib.itoa xn, sOff] ++ [10] := by rw [lineT, lineWs, if_neg q6, if_neg q7, if_neg q8]; rfl
      conv => whnf
      refine cat_intro (by simp only [List.length_append, List.length_cons, List.length_nil]; omega) ?_
      conv => whnf
      refine rnum36_x xn hxn.1 hxn.2 ?_
      conv => whnf
      refine cat_intro (by simp only [List.length_append, List.length_cons, List.length_nil]; omega) ?_
      conv => whnf
      refine cat_by (m := cur ++ lineT ⟨xw, xn, false⟩ n) (by simp only [List.length_append, List.length_cons, List.length_nil]; omega) (by rw [hT]; simp [J, join_tl, tl, List.append_assoc]) ?_
      conv => whnf
      first | refine ov_i64 (by omega) ?_ | refine ov_u64 (by omega) ?_ | refine ov_i64 (by decide) ?_ | refine ov_u64 (by decide) ?_ | refine ov_u8 (by omega) ?_ | refine ov_i32 (by omega) ?_ | refine ov_u32 (by omega) ?_
      conv => whnf
      refine ⟨L.length - (i + n), by omega, rfl, rfl, i + n, _, by omega, rfl, ?_, by rw [List.append_assoc, ← hra]; exact hc⟩
      show [MV.v (Value.int .i64 ((i : Int) + (n : Int))), _] = _
      rw [show ((i + n : Nat) : Int) = (i : Int) + (n : Int) by omega]
      rfl
    · have hT : lineT ⟨xw, xn, true⟩ n = J [sWire, Lib.itoa xn, sOn] ++ [10] := by rw [lineT, lineWs, if_neg q6, if_neg q7, if_neg q8]; rfl
      conv => whnf
      refine cat_intro (by simp only [List.length_append, List.length_cons, List.length_nil]; omega) ?_
      conv => whnf
      refine rnum36_x xn hxn.1 hxn.2 ?_
      conv => whnf
      refine cat_intro (by simp only [List.length_append, List.length_cons, List.length_nil]; omega) ?_
      conv => whnf
      refine cat_by (m := cur ++ lineT ⟨xw, xn, true⟩ n) (by simp only [List.length_append, List.length_cons, List.length_nil]; omega) (by rw [hT]; simp [J, join_tl, tl, List.append_assoc]) ?_
      conv => whnf
      first | refine ov_i64 (by omega) ?_ | refine ov_u64 (by omega) ?_ | refine ov_i64 (by decide) ?_ | refine ov_u64 (by decide) ?_ | refine ov_u8 (by omega) ?_ | refine ov_i32 (by omega) ?_ | refine ov_u32 (by omega) ?_
      conv => whnf
      refine ⟨L.length - (i + n), by omega, rfl, rfl, i + n, _, by omega, rfl, ?_, by rw [List.append_assoc, ← hra]; exact hc⟩
      show [MV.v (Value.int .i64 ((i : Int) + (n : Int))), _] = _
      rw [show ((i + n : Nat) : Int) = (i : Int) + (n : Int) by omega]
      rfl
  have : i = L.length := by omega
  subst this
  rw [runsT_end (Nat.le_refl _), List.append_nil] at hc
  rw [← hc] at hk
  conv => whnf
  exact hk
end
end Go.Proofs.YtclbommhagmpdaaDoor
