/-
  All outcomes of a test: the document's.
-/
import Derived.Test.YtciagjfemgfhgaaDoorLtL
namespace Go.Proofs.YtciagjfemgfhgaaDoor
set_option linter.unusedSimpArgs false
set_option linter.unusedVariables false
open Go Go.Mid Go.RowKit
attribute [local irreducible] mid
section
set_option maxHeartbeats 8000000
set_option maxRecDepth 10000
variable {h : Hp} {K : Value → Hp → Prop}
theorem aggRo : isAggT Tryd.prog 32 = some true := by kernel_rfl
theorem sizRo : sizeT Tryd.prog 32 = some 16 := by kernel_rfl
theorem infRo : Tryd.prog.info? 32 = some Tryd.prog.types[32] := by kernel_rfl
/-- A slice of outcomes: nil, or a block's begin. -/
def RowS (h : Hp) (s : Value) (L : List Oc) : Prop := (s = .slice none 0 0 ∧ L = []) ∨ ∃ b cap rest, s = .slice (some ⟨b, 0, none⟩) L.length cap ∧ (0 < L.length ∧ L.length ≤ cap) ∧ h b = some (rowO 32 (L.flatMap Oc.cs ++ rest))
theorem RowS.le {h h' : Hp} {s : Value} {L : List Oc} (r : RowS h s L) (hle : h.le h') : RowS h' s L := by
  rcases r with r | ⟨b, c, rest, e1, e2, e3⟩
  · exact .inl r
  · exact .inr ⟨b, c, rest, e1, e2, hle _ _ e3⟩
theorem RowS.of {k h : Hp} {s : Value} {L : List Oc} (w : Owns k h 32 16 s L.length (L.flatMap Oc.cs)) (hp : 0 < L.length) : RowS h s L := by
  obtain ⟨ob, ⟨_, ⟨_, rfl, e⟩ | ⟨b, cap, rest, e1, e2, h1, _, h3⟩⟩, _, ho⟩ := w
  · exact .inl ⟨rfl, List.eq_nil_of_length_eq_zero e⟩
  · exact .inr ⟨b, cap, rest, e2, ⟨hp, h1⟩, h3⟩
theorem fl_len (L : List Oc) : (L.flatMap Oc.cs).length = L.length * 16 := by
  induction L with
  | nil => rfl
  | cons a L ih => rw [List.flatMap_cons, List.length_append, ocs_len, ih, List.length_cons]; omega
theorem eqAs_cons {P : Program} {eq : TypeId → Value → Value → Option Bool} {elem : TypeId} {n m i : Nat} {xs ys : Array Value} {a b : Value} {r s : Bool} (h1 : partV P elem xs (i * n) = some a) (h2 : partV P elem ys (i * n) = some b) (h3 : eq elem a b = some r) (h4 : eqAs P eq elem n xs ys m (i + 1) = some s) : eqAs P eq elem n xs ys (m + 1) i = some (r && s) := by
  unfold eqAs
  rw [h1, h2]
  simp only [h3, h4]
theorem eqWFs_cons {P : Program} {eq : TypeId → Value → Value → Option Bool} {xs ys : Array Value} {f : Field} {fs : List Field} {a b : Value} {r s : Bool} (h0 : (f.name == "_") = false) (h1 : partV P f.type xs f.offset = some a) (h2 : partV P f.type ys f.offset = some b) (h3 : eq f.type a b = some r) (h4 : eqWFs P eq xs ys fs = some s) : eqWFs P eq xs ys (f :: fs) = some (r && s) := by
  unfold eqWFs
  rw [h0, h1, h2]
  simp only [h3, h4]
theorem eqW_arr {P : Program} {d len n : Nat} {t elem : TypeId} {xs ys : Array Value} {b : Bool} (h : P.underlying t = some (.array len elem)) (h2 : sizeT P elem = some n) (h3 : eqAs P (eqW P d) elem n xs ys len 0 = some b) : eqW P (d + 1) t (.agg xs) (.agg ys) = some b := by
  unfold eqW
  simp only [h, h2, h3]
theorem eqW_str {P : Program} {d : Nat} {t : TypeId} {xs ys : Array Value} {fields : Array Field} {b : Bool} (h : P.underlying t = some (.struct fields)) (h3 : eqWFs P (eqW P d) xs ys fields.toList = some b) : eqW P (d + 1) t (.agg xs) (.agg ys) = some b := by
  unfold eqW
  simp only [h, h3]
abbrev q4 (a0 a1 a2 a3 c0 c1 c2 c3 : Nat) : Bool := (a0 : Int) == c0 && ((a1 : Int) == c1 && ((a2 : Int) == c2 && ((a3 : Int) == c3 && true)))
theorem eq4 (a0 a1 a2 a3 c0 c1 c2 c3 : Nat) : eqW Tryd.prog 9998 26 (.agg #[uv a0, uv a1, uv a2, uv a3]) (.agg #[uv c0, uv c1, uv c2, uv c3]) = some (q4 a0 a1 a2 a3 c0 c1 c2 c3) := by kernel_rfl
theorem eq4' (a0 a1 a2 a3 c0 c1 c2 c3 : Nat) : eqW Tryd.prog 9999 26 (.agg #[uv a0, uv a1, uv a2, uv a3]) (.agg #[uv c0, uv c1, uv c2, uv c3]) = some (q4 a0 a1 a2 a3 c0 c1 c2 c3) := by kernel_rfl
theorem eqAs_nil {P : Program} {eq : TypeId → Value → Value → Option Bool} {elem : TypeId} {n i : Nat} {xs ys : Array Value} : eqAs P eq elem n xs ys 0 i = some true := rfl
theorem eqWFs_nil {P : Program} {eq : TypeId → Value → Value → Option Bool} {xs ys : Array Value} : eqWFs P eq xs ys [] = some true := rfl
section
attribute [local irreducible] eqW eqAs eqWFs
theorem eqO (x y : Oc) : eqW Tryd.prog 10000 32 (.agg x.cs.toArray) (.agg y.cs.toArray) = some (decide (x = y)) := by
    obtain ⟨W, hW⟩ := x
    obtain ⟨V, hV⟩ := y
    obtain ⟨a0, a1, a2, a3, a4, a5, a6, a7, a8, a9, b0, b1, b2, b3, b4, b5, hw⟩ := sixteen hW
    obtain ⟨c0, c1, c2, c3, c4, c5, c6, c7, c8, c9, d0, d1, d2, d3, d4, d5, hv⟩ := sixteen hV
    have e : eqW Tryd.prog 10000 32 (.agg #[uv a0, uv a1, uv a2, uv a3, uv a4, uv a5, uv a6, uv a7, uv a8, uv a9, uv b0, uv b1, uv b2, uv b3, uv b4, uv b5]) (.agg #[uv c0, uv c1, uv c2, uv c3, uv c4, uv c5, uv c6, uv c7, uv c8, uv c9, uv d0, uv d1, uv d2, uv d3, uv d4, uv d5]) =
        some (q4 a0 a1 a2 a3 c0 c1 c2 c3 && ((q4 a4 a5 a6 a7 c4 c5 c6 c7 && (q4 a8 a9 b0 b1 c8 c9 d0 d1 && (q4 b2 b3 b4 b5 d2 d3 d4 d5 && true))) && true)) := by
      refine eqW_str (fields := #[⟨"Vars", 26, 0, false, "", "", 0⟩, ⟨"Regs", 27, 4, false, "", "", 32⟩]) (by kernel_rfl) ?_
      refine eqWFs_cons (by rfl) (a := .agg #[uv a0, uv a1, uv a2, uv a3]) (b := .agg #[uv c0, uv c1, uv c2, uv c3]) (by kernel_rfl) (by kernel_rfl) (eq4' _ _ _ _ _ _ _ _) ?_
      refine eqWFs_cons (by rfl) (a := .agg #[uv a4, uv a5, uv a6, uv a7, uv a8, uv a9, uv b0, uv b1, uv b2, uv b3, uv b4, uv b5]) (b := .agg #[uv c4, uv c5, uv c6, uv c7, uv c8, uv c9, uv d0, uv d1, uv d2, uv d3, uv d4, uv d5]) (by kernel_rfl) (by kernel_rfl) ?_ eqWFs_nil
      refine eqW_arr (len := 3) (elem := 26) (n := 4) (by kernel_rfl) (by kernel_rfl) ?_
      refine eqAs_cons (a := .agg #[uv a4, uv a5, uv a6, uv a7]) (b := .agg #[uv c4, uv c5, uv c6, uv c7]) (by kernel_rfl) (by kernel_rfl) (eq4 _ _ _ _ _ _ _ _) ?_
      refine eqAs_cons (a := .agg #[uv a8, uv a9, uv b0, uv b1]) (b := .agg #[uv c8, uv c9, uv d0, uv d1]) (by kernel_rfl) (by kernel_rfl) (eq4 _ _ _ _ _ _ _ _) ?_
      exact eqAs_cons (a := .agg #[uv b2, uv b3, uv b4, uv b5]) (b := .agg #[uv d2, uv d3, uv d4, uv d5]) (by kernel_rfl) (by kernel_rfl) (eq4 _ _ _ _ _ _ _ _) eqAs_nil
    have hd : decide (Oc.mk W hW = Oc.mk V hV) = decide (W = V) := by rw [decide_eq_decide, Oc.mk.injEq]
    have h1 : (Oc.mk W hW).cs = [uv a0, uv a1, uv a2, uv a3, uv a4, uv a5, uv a6, uv a7, uv a8, uv a9, uv b0, uv b1, uv b2, uv b3, uv b4, uv b5] := by unfold Oc.cs; rw [show (Oc.mk W hW).W = W from rfl, hw]; rfl
    have h2 : (Oc.mk V hV).cs = [uv c0, uv c1, uv c2, uv c3, uv c4, uv c5, uv c6, uv c7, uv c8, uv c9, uv d0, uv d1, uv d2, uv d3, uv d4, uv d5] := by unfold Oc.cs; rw [show (Oc.mk V hV).W = V from rfl, hv]; rfl
    rw [hd, h1, h2, e, hw, hv]
    congr 1
    rw [Bool.eq_iff_iff]
    simp
    omega
end
theorem ins_pos (o : Oc) (L : List Oc) : 0 < (insO o L).length := List.length_pos_iff.2 fun e => by
  have : o ∈ insO o L := mem_insO.2 (.inl rfl)
  rw [e] at this; cases this
theorem put_x (s : Value) (L : List Oc) (o : Oc) (hr : RowS h s L) (hris : Ris L) (hL : L.length ≤ 2 ^ 29) (hk : ∀ s' h', h.le h' → RowS h' s' (insO o L) → K s' h') : X Tryd.prog 33 #[s, .agg o.cs.toArray] h K := by
  obtain ⟨a0, a1, a2, a3, a4, a5, a6, a7, a8, a9, b0, b1, b2, b3, b4, b5, hWe⟩ := sixteen o.len
  have hcs : o.cs = [uv a0, uv a1, uv a2, uv a3, uv a4, uv a5, uv a6, uv a7, uv a8, uv a9, uv b0, uv b1, uv b2, uv b3, uv b4, uv b5] := by unfold Oc.cs; rw [hWe]; rfl
  have hol := ocs_len o
  rcases hr with ⟨rfl, rfl⟩ | ⟨bb, cap, rest, rfl, ⟨hL0, hcap⟩, hbb⟩
  · refine fnv (args := _) mixed [] [] [] Tryd.func33 rfl (by kernel_rfl) ?_
    conv => whnf
    refine new_intro (o := rowO 32 o.cs) (fun bo h1 n_bo le_bo at_bo ot_bo => ?_)
    conv => whnf
    refine loop_step ?_
    conv => whnf
    refine new_intro (o := rowO 32 []) (fun z h4 n_z le_z at_z ot_z => ?_)
    conv => whnf
    have hz : Owns h1 h4 32 16 (.slice (some ⟨z, 0, none⟩) 0 0) 0 [] := ⟨some z, ⟨rfl, .inr ⟨z, 0, [], rfl, rfl, Nat.le_refl _, rfl, at_z⟩⟩, le_z, fun c e => by cases e; exact n_z⟩
    refine Owns.appN (z := .agg z16.toArray) (news := []) (bytes := 128) (by kernel_rfl) infRo (by kernel_rfl) (by kernel_rfl) (by kernel_rfl) rfl (by decide) rfl rfl rfl hz rfl (fun j v hj => by simp at hj) (fun _ => rfl) rfl (by decide) fun s5 h5 hO5 => ?_
    have hbo := hO5.le _ _ at_bo
    rw [hcs] at hbo
    conv => whnf
    refine ⟨_, loadA0 aggRo sizRo hbo rfl, ?_⟩
    conv => whnf
    refine new_intro (o := rowO 32 [uv a0, uv a1, uv a2, uv a3, uv a4, uv a5, uv a6, uv a7, uv a8, uv a9, uv b0, uv b1, uv b2, uv b3, uv b4, uv b5]) (fun y h6 n_y le_y at_y ot_y => ?_)
    conv => whnf
    rw [← hcs] at at_y
    refine Owns.app1 (z := .agg z16.toArray) (by kernel_rfl) infRo (by kernel_rfl) (by kernel_rfl) (by kernel_rfl) rfl (bytes := 128) (by decide) rfl rfl rfl (hO5.up le_y) at_y hol (ocs_one o) (by decide) fun s7 h7 hO7 => ?_
    conv => whnf
    refine Owns.appN (z := .agg z16.toArray) (news := []) (bytes := 128) (by kernel_rfl) infRo (by kernel_rfl) (by kernel_rfl) (by kernel_rfl) rfl (by decide) rfl rfl rfl hO7 rfl (fun j v hj => by simp at hj) (fun _ => rfl) rfl (by decide) fun s8 h8 hO8 => ?_
    conv => whnf
    have hO8 : Owns h1 h8 32 16 s8 1 ([] ++ [] ++ o.cs ++ []) := hO8
    have hO9 : Owns h1 h8 32 16 s8 [o].length ([o].flatMap Oc.cs) := by simpa using hO8
    exact hk _ _ (Hp.le_trans le_bo hO9.le) (RowS.of hO9 (ins_pos o []))
  have hcell : ∀ (j : Nat) (x : Oc), L[j]? = some x → loadH Tryd.prog 32 h ((⟨bb, 0, none⟩ : Addr).add (((j : Nat) : Int).toNat * 16)) = some (.agg x.cs.toArray) := fun j x hx => by
    rw [Int.toNat_natCast]
    exact loadH_agg (n := 16) (f := Oc.cs) aggRo sizRo ocs_len hbb hx
  have next : ∀ m : Nat, m ≤ L.length → (∀ j x, j < m → L[j]? = some x → ltO x o = true) → (∀ x, L[m]? = some x → ltO x o = false) → insO o L = if L[m]? = some o then L else L.take m ++ o :: L.drop m := fun m hm hl hr => insO_at hl hr hm
  have hfl := fl_len L
  refine fnv (args := _) mixed [] [] [] Tryd.func33 rfl (by kernel_rfl) ?_
  conv => whnf
  refine new_intro (o := rowO 32 o.cs) (fun bo h1 n_bo le_bo at_bo ot_bo => ?_)
  conv => whnf
  have hbb1 := le_bo _ _ hbb
  have hbo1 := at_bo
  clear at_bo ot_bo n_bo
  refine loop_at [5] [] (fun r vs cs h' => h1 = h' ∧ ∃ k : Nat, k ≤ L.length ∧ r = L.length - k ∧ vs = [.v (zv k)] ∧ ∀ j x, j < k → L[j]? = some x → ltO x o = true) L.length ⟨rfl, 0, by omega, by omega, rfl, fun j x hj => by omega⟩ ?_
  rintro r vs cs mm bx _ ⟨rfl, m, hk1, rfl, rfl, hlt⟩
  conv => whnf
  refine bsel_intro (fun q4 => ?_) (fun q4 => ?_) <;> try simp only [decide_eq_true_eq, decide_eq_false_iff_not, beq_iff_eq, beq_eq_false_iff_ne, ne_eq, Bool.not_eq_true', Bool.not_eq_false', bne_iff_ne, bne_eq_false_iff_eq, Bool.not_eq_true, Bool.not_eq_false, Bool.and_eq_true, Bool.or_eq_true, bs_size] at q4
  · have hkD : m < L.length := by omega
    obtain ⟨x, hx⟩ : ∃ x, L[m]? = some x := ⟨_, List.getElem?_eq_getElem hkD⟩
    have e2 := loadH_le le_bo (hcell m x hx)
    conv => whnf
    first | refine need_intro (⟨by omega, by omega⟩) ?_ | refine must.mk (⟨by omega, by omega⟩) ?_
    conv => whnf
    refine ⟨_, e2, ?_⟩
    conv => whnf
    refine ⟨_, loadA0 aggRo sizRo hbo1 hol, ?_⟩
    conv => whnf
    refine rless_x x o ?_
    cases hxo : ltO x o with
    | true =>
      refine ⟨trivial, ?_⟩
      conv => whnf
      first | refine ov_i64 (by omega) ?_ | refine ov_u64 (by omega) ?_ | refine ov_i64 (by decide) ?_ | refine ov_u64 (by decide) ?_ | refine ov_u8 (by omega) ?_ | refine ov_i32 (by omega) ?_ | refine ov_u32 (by omega) ?_
      conv => whnf
      refine ⟨L.length - (m + 1), by omega, rfl, m + 1, by omega, rfl, rfl, fun j y hj hy => ?_⟩
      by_cases ej : j = m
      · subst ej; rw [hx] at hy; cases hy; exact hxo
      · exact hlt j y (by omega) hy
    | false =>
      have hge : ∀ y, L[m]? = some y → ltO y o = false := fun y hy => by rw [hx] at hy; cases hy; exact hxo
      refine ⟨trivial, ?_⟩
      conv => whnf
      refine bsel_true ?_ ?_
      · simp; omega
      conv => whnf
      first | refine need_intro (⟨by omega, by omega⟩) ?_ | refine must.mk (⟨by omega, by omega⟩) ?_
      conv => whnf
      refine ⟨_, e2, ?_⟩
      conv => whnf
      refine ⟨_, loadA0 aggRo sizRo hbo1 hol, ?_⟩
      conv => whnf
      refine must_via (b := decide (x = o)) (by kernel_rfl) (eqO x o) ?_
      refine bsel_intro (fun q6 => ?_) (fun q6 => ?_) <;> try simp only [decide_eq_true_eq, decide_eq_false_iff_not, beq_iff_eq, beq_eq_false_iff_ne, ne_eq, Bool.not_eq_true', Bool.not_eq_false', bne_iff_ne, bne_eq_false_iff_eq, Bool.not_eq_true, Bool.not_eq_false, Bool.and_eq_true, Bool.or_eq_true, bs_size] at q6
      · have hins := next m hk1 hlt hge
        rw [hx, q6, if_pos rfl] at hins
        conv => whnf
        refine hk _ _ le_bo ?_
        rw [hins]
        exact .inr ⟨bb, cap, rest, rfl, ⟨hL0, hcap⟩, hbb1⟩
      · have hne2 : ¬ (L[m]? = some o) := fun hh => by rw [hx] at hh; cases hh; exact q6 rfl
        have hins := next m hk1 hlt hge
        rw [if_neg hne2] at hins
        have hbo2 := hbo1
        rw [hcs] at hbo2
        conv => whnf
        refine new_intro (o := rowO 32 []) (fun z h4 n_z le_z at_z ot_z => ?_)
        conv => whnf
        have hz : Owns h1 h4 32 16 (.slice (some ⟨z, 0, none⟩) 0 0) 0 [] := ⟨some z, ⟨rfl, .inr ⟨z, 0, [], rfl, rfl, Nat.le_refl _, rfl, at_z⟩⟩, le_z, fun c e => by cases e; exact n_z⟩
        have hlT : (L.take m).length = m := by rw [List.length_take]; omega
        have hflT := fl_len (L.take m)
        have hflD := fl_len (L.drop m)
        rw [hlT] at hflT
        rw [List.length_drop] at hflD
        have hone : ∀ (Q : List Oc), (Q.flatMap Oc.cs).all Value.oneCell' = true := fun Q => by
          rw [List.all_eq_true]
          intro v hv
          obtain ⟨q, _, hq⟩ := List.mem_flatMap.1 hv
          exact List.all_eq_true.1 (ocs_one q) v hq
        have hsplit : L.flatMap Oc.cs = (L.take m).flatMap Oc.cs ++ (L.drop m).flatMap Oc.cs := by rw [← List.flatMap_append, List.take_append_drop]
        first | refine need_intro (⟨by omega, by omega⟩) ?_ | refine must.mk (⟨by omega, by omega⟩) ?_
        conv => whnf
        refine bsel_false ?_ ?_
        · simp; omega
        conv => whnf
        refine Owns.appN (z := .agg z16.toArray) (news := (L.take m).flatMap Oc.cs) (bytes := 128) (by kernel_rfl) infRo (by kernel_rfl) (by kernel_rfl) (by kernel_rfl) rfl (by decide) rfl rfl rfl hz (by rw [hflT]; show m * 16 = (((m : Nat) : Int).toNat - 0) * 16; omega) (fun j v hj => ⟨_, rfl, ?_⟩) (fun e => by cases e) (hone _) (by show 0 + (((m : Nat) : Int).toNat - 0) ≤ 2 ^ 31; omega) fun s5 h5 hO5 => ?_
        · show h4.cell? (((⟨bb, 0, none⟩ : Addr).add (0 * 16)).add j) = _
          have hj2 := (List.getElem?_eq_some_iff.1 hj).1
          rw [addr_add, addr_add]
          refine cell_row (le_z _ _ hbb1) ?_
          rw [hsplit, List.append_assoc, List.getElem?_append_left (by omega)]
          simpa using hj
        have hO5 : Owns h1 h5 32 16 s5 m ((L.take m).flatMap Oc.cs) := by
          have hO5' := hO5
          rw [show 0 + (((m : Nat) : Int).toNat - 0) = m by omega] at hO5'
          exact hO5'
        conv => whnf
        refine ⟨_, loadA0 aggRo sizRo (hO5.le _ _ hbo2) rfl, ?_⟩
        conv => whnf
        refine new_intro (o := rowO 32 [uv a0, uv a1, uv a2, uv a3, uv a4, uv a5, uv a6, uv a7, uv a8, uv a9, uv b0, uv b1, uv b2, uv b3, uv b4, uv b5]) (fun y h6 n_y le_y at_y ot_y => ?_)
        conv => whnf
        rw [← hcs] at at_y
        refine Owns.app1 (z := .agg z16.toArray) (by kernel_rfl) infRo (by kernel_rfl) (by kernel_rfl) (by kernel_rfl) rfl (bytes := 128) (by decide) rfl rfl rfl (hO5.up le_y) at_y hol (ocs_one o) (by omega) fun s7 h7 hO7 => ?_
        conv => whnf
        first | refine need_intro (⟨by omega, by omega⟩) ?_ | refine must.mk (⟨by omega, by omega⟩) ?_
        conv => whnf
        have e1 : (L.take m).flatMap Oc.cs ++ o.cs ++ (L.drop m).flatMap Oc.cs = (L.take m ++ o :: L.drop m).flatMap Oc.cs := by simp
        have e2 : (L.take m ++ o :: L.drop m).length = m + 1 + (L.length - m) := by simp; omega
        refine bsel_intro (fun qc => ?_) (fun qc => ?_)
        · have qc : cap = m := by have := of_decide_eq_true qc; omega
          have hkl : L.drop m = [] := List.drop_eq_nil_of_le (by omega)
          conv => whnf
          refine Owns.appN (z := .agg z16.toArray) (news := (L.drop m).flatMap Oc.cs) (bytes := 128) (by kernel_rfl) infRo (by kernel_rfl) (by kernel_rfl) (by kernel_rfl) rfl (by decide) rfl rfl rfl hO7 (by rw [hflD]; show _ = (L.length - ((m : Nat) : Int).toNat) * 16; omega) (fun j v hj => by rw [hkl] at hj; simp at hj) (fun e => by cases e) (hone _) (by show m + 1 + (L.length - ((m : Nat) : Int).toNat) ≤ 2 ^ 31; omega) fun s8 h8 hO8 => ?_
          have hO9 : Owns h1 h8 32 16 s8 (insO o L).length ((insO o L).flatMap Oc.cs) := by
            rw [hins, e2, ← e1]
            have := hO8
            rw [show L.length - ((m : Nat) : Int).toNat = L.length - m by omega] at this
            exact this
          conv => whnf
          exact hk _ _ (Hp.le_trans le_bo hO9.le) (RowS.of hO9 (ins_pos _ _))
        · conv => whnf
          refine Owns.appN (z := .agg z16.toArray) (news := (L.drop m).flatMap Oc.cs) (bytes := 128) (by kernel_rfl) infRo (by kernel_rfl) (by kernel_rfl) (by kernel_rfl) rfl (by decide) rfl rfl rfl hO7 (by rw [hflD]; show _ = (L.length - ((m : Nat) : Int).toNat) * 16; omega) (fun j v hj => ⟨_, rfl, ?_⟩) (fun e => by cases e) (hone _) (by show m + 1 + (L.length - ((m : Nat) : Int).toNat) ≤ 2 ^ 31; omega) fun s8 h8 hO8 => ?_
          · show h7.cell? (((⟨bb, 0, none⟩ : Addr).add (((m : Int)).toNat * 16)).add j) = _
            have hj2 := (List.getElem?_eq_some_iff.1 hj).1
            rw [addr_add, addr_add, Int.toNat_natCast, Nat.zero_add]
            refine cell_row (hO7.le _ _ hbb1) ?_
            rw [hsplit, List.append_assoc, List.getElem?_append_right (by omega), List.getElem?_append_left (by omega), hflT, show m * 16 + j - m * 16 = j by omega]
            exact hj
          have hO9 : Owns h1 h8 32 16 s8 (insO o L).length ((insO o L).flatMap Oc.cs) := by
            rw [hins, e2, ← e1]
            have := hO8
            rw [show L.length - ((m : Nat) : Int).toNat = L.length - m by omega] at this
            exact this
          conv => whnf
          exact hk _ _ (Hp.le_trans le_bo hO9.le) (RowS.of hO9 (ins_pos _ _))
  · have hge : ∀ y, L[m]? = some y → ltO y o = false := fun y hy => by
      have := (List.getElem?_eq_some_iff.1 hy).1
      omega
    have hne2 : ¬ (L[m]? = some o) := fun hh => by
      have := (List.getElem?_eq_some_iff.1 hh).1
      omega
    conv => whnf
    refine bsel_false ?_ ?_
    · simp; omega
    conv => whnf
    have hins := next m hk1 hlt hge
    rw [if_neg hne2] at hins
    have hbo2 := hbo1
    rw [hcs] at hbo2
    conv => whnf
    refine new_intro (o := rowO 32 []) (fun z h4 n_z le_z at_z ot_z => ?_)
    conv => whnf
    have hz : Owns h1 h4 32 16 (.slice (some ⟨z, 0, none⟩) 0 0) 0 [] := ⟨some z, ⟨rfl, .inr ⟨z, 0, [], rfl, rfl, Nat.le_refl _, rfl, at_z⟩⟩, le_z, fun c e => by cases e; exact n_z⟩
    have hlT : (L.take m).length = m := by rw [List.length_take]; omega
    have hflT := fl_len (L.take m)
    have hflD := fl_len (L.drop m)
    rw [hlT] at hflT
    rw [List.length_drop] at hflD
    have hone : ∀ (Q : List Oc), (Q.flatMap Oc.cs).all Value.oneCell' = true := fun Q => by
      rw [List.all_eq_true]
      intro v hv
      obtain ⟨q, _, hq⟩ := List.mem_flatMap.1 hv
      exact List.all_eq_true.1 (ocs_one q) v hq
    have hsplit : L.flatMap Oc.cs = (L.take m).flatMap Oc.cs ++ (L.drop m).flatMap Oc.cs := by rw [← List.flatMap_append, List.take_append_drop]
    first | refine need_intro (⟨by omega, by omega⟩) ?_ | refine must.mk (⟨by omega, by omega⟩) ?_
    conv => whnf
    refine bsel_false ?_ ?_
    · simp; omega
    conv => whnf
    refine Owns.appN (z := .agg z16.toArray) (news := (L.take m).flatMap Oc.cs) (bytes := 128) (by kernel_rfl) infRo (by kernel_rfl) (by kernel_rfl) (by kernel_rfl) rfl (by decide) rfl rfl rfl hz (by rw [hflT]; show m * 16 = (((m : Nat) : Int).toNat - 0) * 16; omega) (fun j v hj => ⟨_, rfl, ?_⟩) (fun e => by cases e) (hone _) (by show 0 + (((m : Nat) : Int).toNat - 0) ≤ 2 ^ 31; omega) fun s5 h5 hO5 => ?_
    · show h4.cell? (((⟨bb, 0, none⟩ : Addr).add (0 * 16)).add j) = _
      have hj2 := (List.getElem?_eq_some_iff.1 hj).1
      rw [addr_add, addr_add]
      refine cell_row (le_z _ _ hbb1) ?_
      rw [hsplit, List.append_assoc, List.getElem?_append_left (by omega)]
      simpa using hj
    have hO5 : Owns h1 h5 32 16 s5 m ((L.take m).flatMap Oc.cs) := by
      have hO5' := hO5
      rw [show 0 + (((m : Nat) : Int).toNat - 0) = m by omega] at hO5'
      exact hO5'
    conv => whnf
    refine ⟨_, loadA0 aggRo sizRo (hO5.le _ _ hbo2) rfl, ?_⟩
    conv => whnf
    refine new_intro (o := rowO 32 [uv a0, uv a1, uv a2, uv a3, uv a4, uv a5, uv a6, uv a7, uv a8, uv a9, uv b0, uv b1, uv b2, uv b3, uv b4, uv b5]) (fun y h6 n_y le_y at_y ot_y => ?_)
    conv => whnf
    rw [← hcs] at at_y
    refine Owns.app1 (z := .agg z16.toArray) (by kernel_rfl) infRo (by kernel_rfl) (by kernel_rfl) (by kernel_rfl) rfl (bytes := 128) (by decide) rfl rfl rfl (hO5.up le_y) at_y hol (ocs_one o) (by omega) fun s7 h7 hO7 => ?_
    conv => whnf
    first | refine need_intro (⟨by omega, by omega⟩) ?_ | refine must.mk (⟨by omega, by omega⟩) ?_
    conv => whnf
    have e1 : (L.take m).flatMap Oc.cs ++ o.cs ++ (L.drop m).flatMap Oc.cs = (L.take m ++ o :: L.drop m).flatMap Oc.cs := by simp
    have e2 : (L.take m ++ o :: L.drop m).length = m + 1 + (L.length - m) := by simp; omega
    refine bsel_intro (fun qc => ?_) (fun qc => ?_)
    · have qc : cap = m := by have := of_decide_eq_true qc; omega
      have hkl : L.drop m = [] := List.drop_eq_nil_of_le (by omega)
      conv => whnf
      refine Owns.appN (z := .agg z16.toArray) (news := (L.drop m).flatMap Oc.cs) (bytes := 128) (by kernel_rfl) infRo (by kernel_rfl) (by kernel_rfl) (by kernel_rfl) rfl (by decide) rfl rfl rfl hO7 (by rw [hflD]; show _ = (L.length - ((m : Nat) : Int).toNat) * 16; omega) (fun j v hj => by rw [hkl] at hj; simp at hj) (fun e => by cases e) (hone _) (by show m + 1 + (L.length - ((m : Nat) : Int).toNat) ≤ 2 ^ 31; omega) fun s8 h8 hO8 => ?_
      have hO9 : Owns h1 h8 32 16 s8 (insO o L).length ((insO o L).flatMap Oc.cs) := by
        rw [hins, e2, ← e1]
        have := hO8
        rw [show L.length - ((m : Nat) : Int).toNat = L.length - m by omega] at this
        exact this
      conv => whnf
      exact hk _ _ (Hp.le_trans le_bo hO9.le) (RowS.of hO9 (ins_pos _ _))
    · conv => whnf
      refine Owns.appN (z := .agg z16.toArray) (news := (L.drop m).flatMap Oc.cs) (bytes := 128) (by kernel_rfl) infRo (by kernel_rfl) (by kernel_rfl) (by kernel_rfl) rfl (by decide) rfl rfl rfl hO7 (by rw [hflD]; show _ = (L.length - ((m : Nat) : Int).toNat) * 16; omega) (fun j v hj => ⟨_, rfl, ?_⟩) (fun e => by cases e) (hone _) (by show m + 1 + (L.length - ((m : Nat) : Int).toNat) ≤ 2 ^ 31; omega) fun s8 h8 hO8 => ?_
      · show h7.cell? (((⟨bb, 0, none⟩ : Addr).add (((m : Int)).toNat * 16)).add j) = _
        have hj2 := (List.getElem?_eq_some_iff.1 hj).1
        rw [addr_add, addr_add, Int.toNat_natCast, Nat.zero_add]
        refine cell_row (hO7.le _ _ hbb1) ?_
        rw [hsplit, List.append_assoc, List.getElem?_append_right (by omega), List.getElem?_append_left (by omega), hflT, show m * 16 + j - m * 16 = j by omega]
        exact hj
      have hO9 : Owns h1 h8 32 16 s8 (insO o L).length ((insO o L).flatMap Oc.cs) := by
        rw [hins, e2, ← e1]
        have := hO8
        rw [show L.length - ((m : Nat) : Int).toNat = L.length - m by omega] at this
        exact this
      conv => whnf
      exact hk _ _ (Hp.le_trans le_bo hO9.le) (RowS.of hO9 (ins_pos _ _))
end
end Go.Proofs.YtciagjfemgfhgaaDoor
