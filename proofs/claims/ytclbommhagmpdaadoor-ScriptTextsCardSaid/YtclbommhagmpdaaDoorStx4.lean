/-
  Scripts: their text, the program's: the walk.
-/
import Derived.Test.YtclbommhagmpdaaDoorStx3
namespace Go.Proofs.YtclbommhagmpdaaDoor
set_option linter.unusedSimpArgs false
set_option linter.unusedVariables false
open Go Go.Mid Go.RowKit
attribute [local irreducible] mid
section
set_option maxHeartbeats 8000000
set_option maxRecDepth 10000
variable {h : Hp} {K : Value → Hp → Prop}
def partT (p : Pt) : Str := J [sAt, Lib.decDigits p.at_, hexS p.b] ++ [10]
def budW (c : Cf) (u : Bu) : List Str := (u.l.take c.a.toNat).map Lib.itoa
def partsT (P : List Pt) : Str := P.flatMap partT
def head1 (c : Cf) : Str := J [sMachine, Lib.itoa c.a, Lib.itoa c.b, Lib.itoa c.c, Lib.itoa c.d] ++ [10]
def head2 (c : Cf) (u : Bu) : Str := J (sBudget :: budW c u) ++ [10]
def headT (s : Sc) : Str := head1 s.c ++ head2 s.c s.u
def textT (s : Sc) : Str := headT s ++ partsT s.P ++ runsT s.L 0
theorem sm_lineWs {l : Ln} {n : Nat} (h0 : -9223372036854775808 ≤ l.n ∧ l.n ≤ 9223372036854775807) (hn : n ≤ 2 ^ 20) : Sm (lineWs l n) ∧ (lineWs l n).length ≤ 3 := by
  have h1 := sm_itoa h0.1 h0.2
  unfold lineWs
  split
  · exact ⟨Sm.cons (by decide) (Sm.cons h1 (Sm.cons (sm_itoa (by omega) (by omega)) Sm.nil)), by simp⟩
  split
  · exact ⟨Sm.cons (by decide) (Sm.cons h1 Sm.nil), by simp⟩
  split
  · exact ⟨Sm.cons (by decide) (Sm.cons h1 Sm.nil), by simp⟩
  · refine ⟨Sm.cons (by decide) (Sm.cons h1 (Sm.cons ?_ Sm.nil)), by simp⟩
    split <;> decide
theorem lineJ_len {l : Ln} {n : Nat} (h0 : -9223372036854775808 ≤ l.n ∧ l.n ≤ 9223372036854775807) (hn : n ≤ 2 ^ 20) : (J (lineWs l n)).length ≤ 13064 := J_len (sm_lineWs h0 hn).1 (Nat.le_trans (sm_lineWs h0 hn).2 (by decide))
theorem runsT_len {L : List Ln} (hL : ∀ l ∈ L, -9223372036854775808 ≤ l.n ∧ l.n ≤ 9223372036854775807) (hl : L.length ≤ 2 ^ 20) : ∀ (k i : Nat), L.length - i ≤ k → (runsT L i).length ≤ 13065 * k
  | 0, i, h => by rw [runsT_end (by omega)]; simp
  | k + 1, i, h => by
    by_cases hi : i < L.length
    · have hx : L[i]? = some L[i] := List.getElem?_eq_getElem hi
      have hr := runN_is hx
      have hr2 := hr
      obtain ⟨x, hx2, a1, a2, _⟩ := hr2
      rw [runsT_at hx hr, List.length_append, lineT, List.length_append, Nat.mul_succ]
      have h1 := lineJ_len (n := runN L i) (hL _ (List.getElem_mem hi)) (by omega)
      have h2 := runsT_len hL hl k (i + runN L i) (by omega)
      simp only [List.length_cons, List.length_nil]
      omega
    · rw [runsT_end (by omega)]; simp
theorem partJ_len {p : Pt} (ha : p.at_ < 18446744073709551616) (hb : p.b.length ≤ 400) : (J [sAt, Lib.decDigits p.at_, hexS p.b]).length ≤ 900 := by
  have h1 := dec_len ha
  have h2 := hexS_len p.b
  rw [J, join_tl]
  simp [tl]
  omega
theorem partsT_len : ∀ (P : List Pt), (∀ p ∈ P, p.at_ < 18446744073709551616 ∧ p.b.length ≤ 400) → (partsT P).length ≤ 901 * P.length
  | [], _ => by simp [partsT]
  | p :: P, h => by
    have h1 := partJ_len (h p (by simp)).1 (h p (by simp)).2
    have h2 := partsT_len P fun x hx => h x (by simp [hx])
    unfold partsT at h2 ⊢
    rw [List.flatMap_cons, partT]
    simp only [List.length_append, List.length_cons, List.length_nil, Nat.mul_succ]
    omega
theorem partsT_take {P : List Pt} {i : Nat} {p : Pt} (hp : P[i]? = some p) : partsT (P.take (i + 1)) = partsT (P.take i) ++ (J [sAt, Lib.decDigits p.at_, hexS p.b] ++ [10]) := by
  rw [List.take_add_one, hp]
  unfold partsT
  rw [List.flatMap_append]
  show _ ++ List.flatMap partT [p] = _
  rw [List.flatMap_cons, List.flatMap_nil, List.append_nil]
  rfl
/-- The budgets' bounds. -/
theorem bu_range {a : Int} {b : Bu} (h : budE a b = 0) {i : Nat} (hi : i < 8) : 0 ≤ b.at i ∧ b.at i ≤ 1000 := by
  unfold budE at h
  split at h
  · rename_i hh
    have := hh i hi
    by_cases hia : (i : Int) < a
    · exact this.1 hia
    · have := this.2 (by omega)
      omega
  · cases h
theorem bu_get (b : Bu) {i : Nat} (hi : i < 8) : b.l[i]? = some (b.at i) := by
  unfold Bu.at
  rw [List.getD_eq_getElem?_getD, List.getElem?_eq_getElem (by simpa using hi)]
  rfl
theorem budW_take {c : Cf} {u : Bu} {i : Nat} (hi : i < 8) : (u.l.take (i + 1)).map Lib.itoa = (u.l.take i).map Lib.itoa ++ [Lib.itoa (u.at i)] := by
  rw [List.take_add_one, bu_get u hi, List.map_append]
  rfl
theorem sm_budW {c : Cf} {u : Bu} (h : budE c.a u = 0) : Sm (sBudget :: budW c u) ∧ (sBudget :: budW c u).length ≤ 9 := by
  refine ⟨Sm.cons (by decide) fun x hx => ?_, ?_⟩
  · unfold budW at hx
    obtain ⟨v, hv, rfl⟩ := List.mem_map.1 hx
    obtain ⟨i, hi, e⟩ := List.getElem_of_mem (List.mem_of_mem_take hv)
    have hi8 : i < 8 := hi
    have h1 := bu_range h hi8
    have h2 := bu_get u hi8
    rw [List.getElem?_eq_getElem hi, e] at h2
    cases h2
    exact sm_itoa (by omega) (by omega)
  · unfold budW
    rw [List.length_cons, List.length_map, List.length_take]
    show min _ 8 + 1 ≤ 9
    omega
theorem check_ok {s : Sc} (h : checkE s = 0) : rightB s.c = true ∧ budE s.c.a s.u = 0 ∧ ∀ l ∈ s.L, lineE s.c.a l = 0 := by
  unfold checkE at h
  split at h
  · cases h
  rename_i h1
  split at h
  · rename_i h2; exact absurd h h2
  rename_i h2
  split at h
  · cases h
  split at h
  · rename_i h3; exact absurd h h3
  refine ⟨by simpa using h1, by simpa using h2, fun l hl => ?_⟩
  obtain ⟨i, hi, e⟩ := List.getElem_of_mem hl
  refine Classical.byContradiction fun hn => ?_
  have key : ∀ (l : List Int), firstNZ l = 0 → ∀ x ∈ l, x = 0 := by
    intro l
    induction l with
    | nil => intro _ x hx; cases hx
    | cons y l ih =>
      intro hh x hx
      rw [firstNZ] at hh
      split at hh
      · rename_i hy; exact absurd hh hy
      · rename_i hy
        rcases List.mem_cons.1 hx with rfl | hx
        · simpa using hy
        · exact ih hh x hx
  exact hn (key _ h _ (List.mem_map.2 ⟨l, hl, rfl⟩))
theorem aggT : isAggT Tryd.prog 56 = some true := by kernel_rfl
theorem sizT : sizeT Tryd.prog 56 = some 14 := by kernel_rfl
theorem aggC : isAggT Tryd.prog 52 = some true := by kernel_rfl
theorem sizC : sizeT Tryd.prog 52 = some 4 := by kernel_rfl
theorem aggPs : isAggT Tryd.prog 54 = some false := by kernel_rfl
theorem text_x36 (hp : Pow h) (s : Sc) (ho : s.ok 127 h) (hP : s.P.length ≤ 300) (hb : ∀ p ∈ s.P, p.b.length ≤ 400) (hL : s.L.length ≤ 2000) (hk : K (.tuple #[.string (bs (if checkE s = 0 then textT s else [])), .int .i64 (checkE s)]) h) : X Tryd.prog 17 #[s.v] h K := by
  refine X.forget ?_
  have hk' : ∀ h' : Hp, h.le h' → (∃ g : Hp, g.le h' ∧ K (.tuple #[.string (bs (if checkE s = 0 then textT s else [])), .int .i64 (checkE s)]) g) := fun h' hle => ⟨h, hle, hk⟩
  clear hk
  refine fnv (args := _) mixed [(6, 6), (22, 6), (25, 6), (28, 6), (31, 6), (38, 6), (11, 11), (61, 11), (64, 11)] [] [] Tryd.func17 rfl (by kernel_rfl) ?_
  conv => whnf
  refine new_intro (o := rowO 56 s.cs) (fun sb h1 n_sb le_sb at_sb ot_sb => ?_)
  conv => whnf
  refine ⟨_, loadA0 aggT sizT at_sb rfl, ?_⟩
  conv => whnf
  refine check_x s (ho.le le_sb) ?_
  conv => whnf
  refine bsel_intro (fun q1 => ?_) (fun q1 => ?_)
  · have q1 : checkE s ≠ 0 := by simpa using q1
    rw [if_neg q1] at hk'
    conv => whnf
    exact hk' _ le_sb
  have q1 : checkE s = 0 := by simpa using q1
  rw [if_pos q1, q1] at hk'
  obtain ⟨c1, c2, c3⟩ := check_ok q1
  have hcr := (rightB_iff s.c).1 c1
  have ca0 := hcr.a0
  have ca1 := hcr.a1
  conv => whnf
  refine new_intro (o := rowO 129 [.pointer none, .slice none 0 0]) (fun w h2 n_w le_w at_w ot_w => ?_)
  conv => whnf
  have sb2 := le_w sb _ at_sb
  have hB2 : Bw h1 h2 w [] := Bds.of le_w n_w at_w
  have hp1 := hp.le le_sb
  refine ⟨_, loadP (k := 0) (x := s.c.cs) aggC sizC sb2 rfl rfl, ?_⟩
  conv => whnf
  refine numS_x (hp1.le hB2.le) s.c.a ho.a0 ho.a1 ?_
  refine ⟨trivial, ?_⟩
  conv => whnf
  refine numS_x (hp1.le hB2.le) s.c.b ho.b0 ho.b1 ?_
  refine ⟨trivial, ?_⟩
  conv => whnf
  refine numS_x (hp1.le hB2.le) s.c.c ho.c0 ho.c1 ?_
  refine ⟨trivial, ?_⟩
  conv => whnf
  refine numS_x (hp1.le hB2.le) s.c.d ho.d0 ho.d1 ?_
  refine ⟨trivial, ?_⟩
  conv => whnf
  refine new_intro (o := rowO 9 [sv sMachine, sv (Lib.itoa s.c.a), sv (Lib.itoa s.c.b), sv (Lib.itoa s.c.c), sv (Lib.itoa s.c.d)]) (fun x1 h3 n_x1 le_x1 at_x1 ot_x1 => ?_)
  conv => whnf
  have lm : (J [sMachine, Lib.itoa s.c.a, Lib.itoa s.c.b, Lib.itoa s.c.c, Lib.itoa s.c.d]).length ≤ 13064 := J_len (Sm.cons (by decide) (Sm.cons (sm_itoa ho.a0 ho.a1) (Sm.cons (sm_itoa ho.b0 ho.b1) (Sm.cons (sm_itoa ho.c0 ho.c1) (Sm.cons (sm_itoa ho.d0 ho.d1) Sm.nil))))) (by simp)
  refine wputB (x := sMachine) (xs := [Lib.itoa s.c.a, Lib.itoa s.c.b, Lib.itoa s.c.c, Lib.itoa s.c.d]) hB2 n_x1 le_x1 at_x1 (by decide) (by simp) (by rw [List.length_nil]; omega) fun h4 hB4 => ?_
  have hB4 : Bw h1 h4 w (head1 s.c) := hB4
  have l1 : (head1 s.c).length ≤ 13065 := by rw [head1, List.length_append]; simp; omega
  refine ⟨trivial, ?_⟩
  conv => whnf
  refine new_intro (o := rowO 9 [sv sBudget]) (fun x2 h5 n_x2 le_x2 at_x2 ot_x2 => ?_)
  conv => whnf
  have hW5 : Owns h4 h5 9 1 (.slice (some ⟨x2, 0, none⟩) 1 1) 1 [sv sBudget] := ⟨some x2, ⟨rfl, .inr ⟨x2, 1, [], rfl, rfl, Nat.le_refl _, rfl, at_x2⟩⟩, le_x2, fun c e => by cases e; exact n_x2⟩
  have sb5 : h5 sb = some (rowO 56 s.cs) := le_x2 _ _ (hB4.le _ _ at_sb)
  first | refine need_intro (⟨by omega, by show _ ≤ ((8 : Nat) : Int); omega⟩) ?_ | refine must.mk (⟨by omega, by show _ ≤ ((8 : Nat) : Int); omega⟩) ?_
  conv => whnf
  refine loop_at [42, 7] [] (fun r vs _ h' => ∃ (i : Nat) (sl : Value), i ≤ s.c.a.toNat ∧ r = s.c.a.toNat - i ∧ vs = [.v (.int .i64 i), .v sl] ∧ Owns h4 h' 9 1 sl (i + 1) ((sBudget :: (s.u.l.take i).map Lib.itoa).map sv)) s.c.a.toNat ⟨0, _, by omega, by omega, rfl, hW5⟩ ?_
  rintro r vs cs mm bx h6 ⟨i, sl, hi, rfl, rfl, hW6⟩
  have hB6 : Bw h1 h6 w (head1 s.c) := hB4.up hW6.le
  have sb6 := hB6.le _ _ at_sb
  conv => whnf
  refine bsel_intro (fun q2 => ?_) (fun q2 => ?_) <;> try simp only [decide_eq_true_eq, decide_eq_false_iff_not, beq_iff_eq, beq_eq_false_iff_ne, ne_eq, Bool.not_eq_true', Bool.not_eq_false', bne_iff_ne, bne_eq_false_iff_eq, Bool.not_eq_true, Bool.not_eq_false, Bool.and_eq_true, Bool.or_eq_true, bs_size] at q2
  · have hi8 : i < 8 := by omega
    have hbr := bu_range c2 hi8
    have hst := budW_take (c := s.c) (u := s.u) hi8
    have hcell : s.cs[4 + i]? = some (.int .i64 (s.u.at i)) := by
      have := bu_at s.u hi8
      rw [← this]
      match i, hi8 with
      | 0, _ => rfl
      | 1, _ => rfl
      | 2, _ => rfl
      | 3, _ => rfl
      | 4, _ => rfl
      | 5, _ => rfl
      | 6, _ => rfl
      | 7, _ => rfl
    conv => whnf
    first | refine need_intro (⟨by omega, by omega⟩) ?_ | refine must.mk (⟨by omega, by omega⟩) ?_
    conv => whnf
    refine ⟨_, loadCA (b := sb) (k := 4 + i) (by show (((⟨sb, 4, none⟩ : Addr).add 0).add (((i : Int)).toNat * 1)) = _; rw [addr_add, addr_add, show ((i : Int)).toNat = i by omega, Nat.mul_one]) aggIn sb6 hcell, ?_⟩
    conv => whnf
    refine numS_x (hp1.le hB6.le) (s.u.at i) (by omega) (by omega) ?_
    conv => whnf
    refine new_intro (o := rowO 9 [sv (Lib.itoa (s.u.at i))]) (fun x3 h7 n_x3 le_x3 at_x3 ot_x3 => ?_)
    conv => whnf
    refine Owns.app1 (z := .string ⟨#[]⟩) (by kernel_rfl) infS (by kernel_rfl) (by kernel_rfl) (by kernel_rfl) rfl (bytes := 16) (by decide) rfl rfl rfl (hW6.up le_x3) at_x3 rfl rfl (by omega) fun s7 h8 hW8 => ?_
    conv => whnf
    first | refine ov_i64 (by omega) ?_ | refine ov_u64 (by omega) ?_ | refine ov_i64 (by decide) ?_ | refine ov_u64 (by decide) ?_ | refine ov_u8 (by omega) ?_ | refine ov_i32 (by omega) ?_ | refine ov_u32 (by omega) ?_
    conv => whnf
    refine ⟨s.c.a.toNat - (i + 1), by omega, i + 1, s7, by omega, rfl, rfl, ?_⟩
    rw [hst]
    have e : ((sBudget :: ((s.u.l.take i).map Lib.itoa ++ [Lib.itoa (s.u.at i)])).map sv) = (sBudget :: (s.u.l.take i).map Lib.itoa).map sv ++ [sv (Lib.itoa (s.u.at i))] := by simp
    rw [e]
    exact hW8
  have hia : i = s.c.a.toNat := by omega
  subst hia
  have hW6 : Owns h4 h6 9 1 sl (s.c.a.toNat + 1) ((sBudget :: budW s.c s.u).map sv) := hW6
  obtain ⟨hsm, hsl⟩ := sm_budW c2
  have lb : (J (sBudget :: budW s.c s.u)).length ≤ 13064 := J_len hsm (Nat.le_trans hsl (by decide))
  obtain ⟨x4, cap4, rest4, rfl, hcap4, at_x4, _⟩ := hW6.row (by omega)
  have hlw : (sBudget :: budW s.c s.u).length = s.c.a.toNat + 1 := by
    have := hW6.len
    simpa using this
  rw [← hlw]
  conv => whnf
  refine wput_x (x := sBudget) (xs := budW s.c s.u) hB6 at_x4 (by decide) (by rw [hlw]; exact hcap4) (Nat.le_trans hsl (by decide)) (by omega) fun h7 hB7 => ?_
  have hB7 : Bw h1 h7 w (headT s) := hB7
  have l2 : (headT s).length ≤ 26130 := by rw [headT, head2]; simp; omega
  clear hB6 hB4 hW6 at_x4 hW5 hB2
  have sb7 := hB7.le _ _ at_sb
  obtain ⟨bP, cP, eP, fP⟩ := ho.shapeP
  conv => whnf
  have lps : loadH Tryd.prog 54 h7 ((⟨sb, 0, none⟩ : Addr).add 12) = some (.slice bP s.P.length cP) := by rw [← eP]; exact loadC (i := 12) aggPs sb7 rfl
  refine ⟨_, lps, ?_⟩
  conv => whnf
  refine loop_at [57] [] (fun r vs _ h' => ∃ i : Nat, i ≤ s.P.length ∧ r = s.P.length - i ∧ vs = [.v (.int .i64 i)] ∧ Bw h1 h' w (headT s ++ partsT (s.P.take i))) s.P.length ⟨0, by omega, by omega, rfl, by rw [List.take_zero]; exact (by rw [partsT, List.flatMap_nil, List.append_nil]; exact hB7)⟩ ?_
  rintro r vs cs mm bx h8 ⟨i, hi, rfl, rfl, hB8⟩
  conv => whnf
  refine bsel_intro (fun q3 => ?_) (fun q3 => ?_) <;> try simp only [decide_eq_true_eq, decide_eq_false_iff_not, beq_iff_eq, beq_eq_false_iff_ne, ne_eq, Bool.not_eq_true', Bool.not_eq_false', bne_iff_ne, bne_eq_false_iff_eq, Bool.not_eq_true, Bool.not_eq_false, Bool.and_eq_true, Bool.or_eq_true, bs_size] at q3
  · have hiP : i < s.P.length := by omega
    obtain ⟨p, hpp⟩ : ∃ p, s.P[i]? = some p := ⟨_, List.getElem?_eq_getElem hiP⟩
    have hmem := List.mem_of_getElem? hpp
    have hpo := (ho.P p hmem).le (Hp.le_trans le_sb hB8.le)
    have hst := partsT_take hpp
    have hpb := hb p hmem
    have hpl := partJ_len hpo.at_ hpb
    have hlt : (partsT (s.P.take i)).length ≤ 901 * 300 := Nat.le_trans (partsT_len _ fun q hq => ⟨(ho.P q (List.mem_of_mem_take hq)).at_, hb q (List.mem_of_mem_take hq)⟩) (Nat.mul_le_mul_left _ (Nat.le_trans (List.length_take_le' _ _) hP))
    obtain ⟨a, rfl, e1⟩ := fP i p hpp
    have e2 : loadH Tryd.prog 127 h8 (a.add (((i : Int)).toNat * 2)) = some p.v := by rw [show ((i : Int)).toNat = i by omega]; exact loadH_le (Hp.le_trans le_sb hB8.le) e1
    obtain ⟨bB, cB, eB, fB⟩ := hpo.shape
    have hpa := hpo.at_
    obtain ⟨at_, slv, b⟩ := p
    simp only at eB fB hpa hpb hpl hst e2
    subst eB
    conv => whnf
    first | refine need_intro (⟨by omega, by omega⟩) ?_ | refine must.mk (⟨by omega, by omega⟩) ?_
    conv => whnf
    refine ⟨_, e2, ?_⟩
    conv => whnf
    refine fmtU_x (hp1.le hB8.le) at_ hpa ?_
    refine ⟨trivial, ?_⟩
    conv => whnf
    refine hex_x bB cB b (by omega) fB ?_
    refine ⟨trivial, ?_⟩
    conv => whnf
    refine new_intro (o := rowO 9 [sv sAt, sv (Lib.decDigits at_), sv (hexS b)]) (fun x5 h9 n_x5 le_x5 at_x5 ot_x5 => ?_)
    conv => whnf
    refine wputB (x := sAt) (xs := [Lib.decDigits at_, hexS b]) hB8 n_x5 le_x5 at_x5 (by decide) (by simp) (by rw [List.length_append]; omega) fun h10 hB10 => ?_
    refine ⟨trivial, ?_⟩
    conv => whnf
    first | refine ov_i64 (by omega) ?_ | refine ov_u64 (by omega) ?_ | refine ov_i64 (by decide) ?_ | refine ov_u64 (by decide) ?_ | refine ov_u8 (by omega) ?_ | refine ov_i32 (by omega) ?_ | refine ov_u32 (by omega) ?_
    conv => whnf
    refine ⟨s.P.length - (i + 1), by omega, i + 1, by omega, rfl, rfl, ?_⟩
    rw [hst, ← List.append_assoc]
    exact hB10
  have : i = s.P.length := by omega
  subst this
  rw [List.take_length] at hB8
  have hlp : (partsT s.P).length ≤ 901 * 300 := Nat.le_trans (partsT_len _ fun q hq => ⟨(ho.P q hq).at_, hb q hq⟩) (Nat.mul_le_mul_left _ hP)
  have hlr := runsT_len ho.L (Nat.le_trans hL (by decide)) s.L.length 0 (by omega)
  have hlr2 : (runsT s.L 0).length ≤ 13065 * 2000 := Nat.le_trans hlr (Nat.mul_le_mul_left _ hL)
  have hltot : (textT s).length ≤ 27000000 := by rw [textT]; simp only [List.length_append]; omega
  have hcur : headT s ++ partsT s.P ++ runsT s.L 0 = textT s := rfl
  generalize hcu : headT s ++ partsT s.P = cur0 at hB8 hcur
  have sb8 := hB8.le _ _ at_sb
  obtain ⟨bL, cL, eL, fL⟩ := rdL ho.ls
  conv => whnf
  have lls : loadH Tryd.prog 41 h8 ((⟨sb, 0, none⟩ : Addr).add 13) = some (.slice bL s.L.length cL) := by rw [← eL]; exact loadC (i := 13) aggS sb8 rfl
  refine ⟨_, lls, ?_⟩
  conv => whnf
  refine runs_x bL s.L.length cL fun b9 h9 n_b le_b at_b ot_b => ?_
  obtain ⟨k9, hB9, k9b, lek9⟩ := hB8.newE n_b le_b at_b
  have lehk : h.le k9 := Hp.le_trans le_sb lek9
  have hls : Rd Tryd.prog 47 3 h (.slice bL s.L.length cL) (lv s.L) := by rw [← eL]; exact ho.ls
  conv => whnf
  refine ⟨fun lp lc hl hy => ?_⟩
  have nlk : k9 lp = none := Hp.none_le hB9.le hl
  refine runs1_x (yieldV lp) b9 (.slice bL s.L.length cL) s.L (fun i h' => h' lp = some (lob lc .ready none) ∧ ∃ cur, Bw k9 h' w cur ∧ cur ++ runsT s.L i = textT s) (Nat.le_trans hL (by decide)) (fun i h' hi => ?_) ⟨Hp.set_same _ _ _, cur0, hB9.up (Hp.le_set hl), hcur⟩ (fun i n x h' hx hn hi => ?_) (fun h' hi => ?_)
  · obtain ⟨_, cur, hB, _⟩ := hi
    exact ⟨hB.le _ _ k9b, hls.le (Hp.le_trans lehk hB.le)⟩
  · obtain ⟨i1, cur, hB, hc⟩ := hi
    have hra := runsT_at hx hn
    have hxm := List.mem_of_getElem? hx
    have hxe := c3 x hxm
    have hxn := ho.L x hxm
    have hnl : n ≤ 2 ^ 20 := by
      obtain ⟨_, _, _, h2, _⟩ := hn
      omega
    have hjl := lineJ_len hxn hnl
    have hcl : cur.length ≤ 27000000 := by
      have := congrArg List.length hc
      rw [List.length_append] at this
      omega
    obtain ⟨xw, xn, xon⟩ := x
    have hw : 0 ≤ xw ∧ xw ≤ 3 := by
      unfold lineE at hxe
      split at hxe
      · cases hxe
      · rename_i h1
        simp only at h1
        omega
    clear hxe
    refine hy _ _ _ ⟨rfl, i1, ?_⟩
    conv => whnf
    refine new_intro (o := _) (fun z h10 n_z le_z at_z ot_z => ?_)
    conv => whnf
    refine wr_intro (by exact storeA0 (z := Ln.v ⟨xw, xn, xon⟩) sizL at_z rfl rfl rfl) (fun h11 at_h11 ot_h11 => ?_)
    try (conv => whnf)
    have le11 : h'.le h11 := Hp.le_st n_z le_z ot_h11
    have lp11 := le11 lp _ i1
    have dzl : z ≠ lp := fun e => by subst e; rw [i1] at n_z; cases n_z
    have zb : (h11.set lp (lob lc .busy none)) z = some (rowO 47 [.int .i64 xw, .int .i64 xn, .bool xon]) := (Hp.set_other _ _ dzl).trans at_h11
    have hBb : Bw (k9.set lp (lob lc .busy none)) (h11.set lp (lob lc .busy none)) w cur := ((hB.up le11).setL lp11 nlk).know (Hp.set_same _ _ _)
    have hpb := (hp.le lehk).le (Hp.le_trans (Hp.le_set' (o := lob lc .busy none) nlk) hBb.le)
    generalize h11.set lp (lob lc .busy none) = hb' at zb hBb hpb ⊢
    refine ⟨lp11, ?_⟩
    conv => whnf
    refine ⟨_, loadC (i := 0) aggK zb rfl, ?_⟩
    conv => whnf
    refine bsel_intro (fun q5 => ?_) (fun q5 => ?_) <;> try simp only [decide_eq_true_eq, decide_eq_false_iff_not, beq_iff_eq, beq_eq_false_iff_ne, ne_eq, Bool.not_eq_true', Bool.not_eq_false', bne_iff_ne, bne_eq_false_iff_eq, Bool.not_eq_true, Bool.not_eq_false, Bool.and_eq_true, Bool.or_eq_true, bs_size] at q5
    · have hT : lineT ⟨xw, xn, xon⟩ n = J [sPick, Lib.itoa xn, Lib.itoa n] ++ [10] := by rw [lineT, lineWs, if_pos q5]
      have hjl : (J [sPick, Lib.itoa xn, Lib.itoa n]).length ≤ 13064 := by rw [lineWs, if_pos q5] at hjl; exact hjl
      conv => whnf
      refine ⟨_, loadC (i := 1) aggIn zb rfl, ?_⟩
      conv => whnf
      refine numS_x hpb xn hxn.1 hxn.2 ?_
      conv => whnf
      refine numS_x hpb n (by omega) (by omega) ?_
      conv => whnf
      refine new_intro (o := rowO 9 [sv sPick, sv (Lib.itoa xn), sv (Lib.itoa n)]) (fun v h12 n_v le_v at_v ot_v => ?_)
      conv => whnf
      refine wputB (x := sPick) (xs := [Lib.itoa xn, Lib.itoa n]) hBb n_v le_v at_v (by decide) (by simp) (by omega) fun h13 hB13 => ?_
      have lp13 : h13 lp = some (lob lc .busy none) := hB13.le _ _ (Hp.set_same _ _ _)
      conv => whnf
      refine ⟨lp13, ?_⟩
      have hB14 := (hB13.weak (Hp.le_set' nlk)).setL (o := lob lc .ready none) lp13 nlk
      rw [← hT] at hB14
      exact ⟨true, rfl, ⟨fun _ => ⟨Hp.set_same _ _ _, _, hB14, by rw [List.append_assoc, ← hra]; exact hc⟩, fun e => by cases e⟩⟩
    conv => whnf
    refine bsel_intro (fun q6 => ?_) (fun q6 => ?_) <;> try simp only [decide_eq_true_eq, decide_eq_false_iff_not, beq_iff_eq, beq_eq_false_iff_ne, ne_eq, Bool.not_eq_true', Bool.not_eq_false', bne_iff_ne, bne_eq_false_iff_eq, Bool.not_eq_true, Bool.not_eq_false, Bool.and_eq_true, Bool.or_eq_true, bs_size] at q6
    · have hT : lineT ⟨xw, xn, xon⟩ n = J [sTick, Lib.itoa xn] ++ [10] := by rw [lineT, lineWs, if_neg q5, if_pos q6]
      have hjl : (J [sTick, Lib.itoa xn]).length ≤ 13064 := by rw [lineWs, if_neg q5, if_pos q6] at hjl; exact hjl
      conv => whnf
      refine ⟨_, loadC (i := 1) aggIn zb rfl, ?_⟩
      conv => whnf
      refine numS_x hpb xn hxn.1 hxn.2 ?_
      conv => whnf
      refine new_intro (o := rowO 9 [sv sTick, sv (Lib.itoa xn)]) (fun v h12 n_v le_v at_v ot_v => ?_)
      conv => whnf
      refine wputB (x := sTick) (xs := [Lib.itoa xn]) hBb n_v le_v at_v (by decide) (by simp) (by omega) fun h13 hB13 => ?_
      have lp13 : h13 lp = some (lob lc .busy none) := hB13.le _ _ (Hp.set_same _ _ _)
      conv => whnf
      refine ⟨lp13, ?_⟩
      have hB14 := (hB13.weak (Hp.le_set' nlk)).setL (o := lob lc .ready none) lp13 nlk
      rw [← hT] at hB14
      exact ⟨true, rfl, ⟨fun _ => ⟨Hp.set_same _ _ _, _, hB14, by rw [List.append_assoc, ← hra]; exact hc⟩, fun e => by cases e⟩⟩
    conv => whnf
    refine bsel_intro (fun q7 => ?_) (fun q7 => ?_) <;> try simp only [decide_eq_true_eq, decide_eq_false_iff_not, beq_iff_eq, beq_eq_false_iff_ne, ne_eq, Bool.not_eq_true', Bool.not_eq_false', bne_iff_ne, bne_eq_false_iff_eq, Bool.not_eq_true, Bool.not_eq_false, Bool.and_eq_true, Bool.or_eq_true, bs_size] at q7
    · have hT : lineT ⟨xw, xn, xon⟩ n = J [sInput, Lib.itoa xn] ++ [10] := by rw [lineT, lineWs, if_neg q5, if_neg q6, if_pos q7]
      have hjl : (J [sInput, Lib.itoa xn]).length ≤ 13064 := by rw [lineWs, if_neg q5, if_neg q6, if_pos q7] at hjl; exact hjl
      conv => whnf
      refine ⟨_, loadC (i := 1) aggIn zb rfl, ?_⟩
      conv => whnf
      refine numS_x hpb xn hxn.1 hxn.2 ?_
      conv => whnf
      refine new_intro (o := rowO 9 [sv sInput, sv (Lib.itoa xn)]) (fun v h12 n_v le_v at_v ot_v => ?_)
      conv => whnf
      refine wputB (x := sInput) (xs := [Lib.itoa xn]) hBb n_v le_v at_v (by decide) (by simp) (by omega) fun h13 hB13 => ?_
      have lp13 : h13 lp = some (lob lc .busy none) := hB13.le _ _ (Hp.set_same _ _ _)
      conv => whnf
      refine ⟨lp13, ?_⟩
      have hB14 := (hB13.weak (Hp.le_set' nlk)).setL (o := lob lc .ready none) lp13 nlk
      rw [← hT] at hB14
      exact ⟨true, rfl, ⟨fun _ => ⟨Hp.set_same _ _ _, _, hB14, by rw [List.append_assoc, ← hra]; exact hc⟩, fun e => by cases e⟩⟩
    have hT : lineT ⟨xw, xn, xon⟩ n = J [sWire, Lib.itoa xn, if xon then sOn else sOff] ++ [10] := by rw [lineT, lineWs, if_neg q5, if_neg q6, if_neg q7]
    have hjl : (J [sWire, Lib.itoa xn, if xon then sOn else sOff]).length ≤ 13064 := by rw [lineWs, if_neg q5, if_neg q6, if_neg q7] at hjl; exact hjl
    conv => whnf
    refine ⟨_, loadC (i := 2) aggBo zb rfl, ?_⟩
    conv => whnf
    cases xon
    all_goals
      conv => whnf
      refine ⟨_, loadC (i := 1) aggIn zb rfl, ?_⟩
      conv => whnf
      refine numS_x hpb xn hxn.1 hxn.2 ?_
      conv => whnf
    · refine new_intro (o := rowO 9 [sv sWire, sv (Lib.itoa xn), sv sOff]) (fun v h12 n_v le_v at_v ot_v => ?_)
      conv => whnf
      refine wputB (x := sWire) (xs := [Lib.itoa xn, sOff]) hBb n_v le_v at_v (by decide) (by simp) (by have : (J [sWire, Lib.itoa xn, sOff]).length ≤ 13064 := hjl; omega) fun h13 hB13 => ?_
      have hT : lineT ⟨xw, xn, false⟩ n = J [sWire, Lib.itoa xn, sOff] ++ [10] := hT
      have lp13 : h13 lp = some (lob lc .busy none) := hB13.le _ _ (Hp.set_same _ _ _)
      conv => whnf
      refine ⟨lp13, ?_⟩
      have hB14 := (hB13.weak (Hp.le_set' nlk)).setL (o := lob lc .ready none) lp13 nlk
      rw [← hT] at hB14
      exact ⟨true, rfl, ⟨fun _ => ⟨Hp.set_same _ _ _, _, hB14, by rw [List.append_assoc, ← hra]; exact hc⟩, fun e => by cases e⟩⟩
    · refine new_intro (o := rowO 9 [sv sWire, sv (Lib.itoa xn), sv sOn]) (fun v h12 n_v le_v at_v ot_v => ?_)
      conv => whnf
      refine wputB (x := sWire) (xs := [Lib.itoa xn, sOn]) hBb n_v le_v at_v (by decide) (by simp) (by have : (J [sWire, Lib.itoa xn, sOn]).length ≤ 13064 := hjl; omega) fun h13 hB13 => ?_
      have hT : lineT ⟨xw, xn, true⟩ n = J [sWire, Lib.itoa xn, sOn] ++ [10] := hT
      have lp13 : h13 lp = some (lob lc .busy none) := hB13.le _ _ (Hp.set_same _ _ _)
      conv => whnf
      refine ⟨lp13, ?_⟩
      have hB14 := (hB13.weak (Hp.le_set' nlk)).setL (o := lob lc .ready none) lp13 nlk
      rw [← hT] at hB14
      exact ⟨true, rfl, ⟨fun _ => ⟨Hp.set_same _ _ _, _, hB14, by rw [List.append_assoc, ← hra]; exact hc⟩, fun e => by cases e⟩⟩
  · obtain ⟨i1, cur, hB, hc⟩ := hi
    rw [runsT_end (Nat.le_refl _), List.append_nil] at hc
    subst hc
    refine ⟨.ready, none, i1, by simp, ?_⟩
    have hBe := hB.setL (o := lob lc .exhausted none) i1 nlk
    conv => whnf
    refine hBe.str (by omega) fun hh hle => ?_
    conv => whnf
    exact hk' hh (Hp.le_trans lehk hle)
end
end Go.Proofs.YtclbommhagmpdaaDoor
