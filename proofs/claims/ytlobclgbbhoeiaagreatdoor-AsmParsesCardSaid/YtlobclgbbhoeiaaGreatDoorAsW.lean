/-
  Instructions as text: the instruction of any line, the document's, walked (printed by a program).
-/
import Derived.Test.YtlobclgbbhoeiaaGreatDoorAsV
namespace Go.Proofs.YtlobclgbbhoeiaaGreatDoor
set_option linter.unusedSimpArgs false
set_option linter.unusedVariables false
open Go Go.Mid Go.RowKit
attribute [local irreducible] mid
section
set_option maxHeartbeats 8000000
set_option maxRecDepth 10000
variable {h : Hp} {K : Value → Hp → Prop}
theorem rreg_x (u : Str) (hu : u.length ≤ 2 ^ 40) (hk : K (zv ((Rg.findI u).getD (-1))) h) : X Tryz.prog 47 #[.string (bs u)] h K := by
  refine Rg.rfind_x u (by omega) h K ?_
  have e : Rg.refV u = (Rg.findI u).getD (-1) := by
    unfold Rg.refV
    rw [Rg.find_ref]
    cases Rg.refI u <;> rfl
  rw [e]; exact hk
theorem findI_nn {u : Str} {v : Int} (h : Rg.findI u = some v) : 0 ≤ v := by
  obtain ⟨k, rfl, _⟩ := Rg.find_some h
  exact Int.natCast_nonneg _
theorem rparse_x (s : Str) (hl : s.length ≤ 2 ^ 40) (hk : K (parsedV (parseA s)) h) : X Tryz.prog 13 #[.string (bs s)] h K := by
  refine X.forget ?_
  unfold parseA at hk
  have hsz : (bs s).size = s.length := bs_size s
  refine fnv (args := _) mixed [(2, 2), (6, 6), (48, 6), (99, 6), (103, 6), (107, 6), (122, 6), (135, 6), (147, 6), (166, 6)] [] [] Tryz.func13 rfl (by kernel_rfl) ?_
  conv => whnf
  refine bsel_intro (fun g1 => ?_) (fun g1 => ?_) <;> try simp only [bsL] at g1
  · rw [if_pos (by omega)] at hk
    conv => whnf
    exact ⟨h, Hp.le_refl _, hk⟩
  rw [if_neg (by omega)] at hk
  conv => whnf
  refine bsel_intro (fun g2 => ?_) (fun g2 => ?_) <;> try simp only [bsL] at g2
  · rw [if_pos (List.eq_nil_of_length_eq_zero (by omega))] at hk
    conv => whnf
    exact ⟨h, Hp.le_refl _, hk⟩
  rw [if_neg (fun e => g2 (by rw [e]; rfl))] at hk
  conv => whnf
  refine rsplit_x s (by omega) fun sl h1 hO => ?_
  have hlen : (sp [32] s).length ≤ 201 := Nat.le_trans (sp_length [32] s (by decide)) (by omega)
  have hwl : ∀ w ∈ sp [32] s, w.length ≤ 2 ^ 40 := fun w hw => Nat.le_trans (sp_word [32] (by decide) _ s (Nat.le_refl _) w hw) (by omega)
  obtain ⟨w, r, hsp⟩ := sp_first s
  rw [hsp] at hO hk hwl hlen
  replace hk : K (parsedV (if (w :: r).any (·.isEmpty) = true then .error 2 else lineR w r)) h := by rw [lineR_eq]; exact hk
  obtain ⟨bw, cap, rest, rfl, hcap, hw, _⟩ := hO.row (by simp)
  have hle := hO.le
  clear hO
  have hw0 : (((w :: r).map sv) ++ rest)[0]? = some (sv w) := rfl
  have w0l : w.length ≤ 2 ^ 40 := hwl w (by simp)
  obtain ⟨L, hL⟩ : ∃ L, L = w :: r := ⟨_, rfl⟩
  rw [← hL] at hw hk hwl hlen hcap ⊢
  have hL1 : L.length = r.length + 1 := by rw [hL]; rfl
  conv => whnf
  refine loop_at [5] [2] (fun q vs cs h' => h1 = h' ∧ cs = [some insn0] ∧ ∃ i : Nat, i ≤ L.length ∧ q = L.length - i ∧ vs = [.v (zv i)] ∧ ∀ x ∈ L.take i, x ≠ []) L.length ⟨rfl, rfl, 0, by omega, by omega, rfl, by simp⟩ ?_
  rintro q vs cs mm bx9 _ ⟨rfl, rfl, i, hi, rfl, rfl, hno⟩
  conv => whnf
  refine bsel_intro (fun q1 => ?_) (fun q1 => ?_) <;> try simp only [bsL] at q1
  · have hiL : i < L.length := by omega
    obtain ⟨x, hx⟩ : ∃ x, L[i]? = some x := ⟨_, List.getElem?_eq_getElem hiL⟩
    conv => whnf
    first | refine need_intro (⟨by omega, by omega⟩) ?_ | refine must.mk (⟨by omega, by omega⟩) ?_
    conv => whnf
    refine ⟨_, loadI aggStr hw rfl (by rw [List.getElem?_append_left (by rw [List.length_map]; exact hiL), List.getElem?_map, hx]; rfl), ?_⟩
    conv => whnf
    by_cases gx : x = []
    · have hany : L.any (·.isEmpty) = true := List.any_eq_true.2 ⟨x, List.mem_of_getElem? hx, by rw [gx]; rfl⟩
      rw [if_pos hany] at hk
      refine seq_true (gx) ?_
      conv => whnf
      exact ⟨h, hle, hk⟩
    · refine seq_false (gx) ?_
      conv => whnf
      first | refine ov_i64 (by omega) ?_ | refine ov_u64 (by omega) ?_ | refine ov_i64 (by decide) ?_ | refine ov_u64 (by decide) ?_ | refine ov_u8 (by omega) ?_ | refine ov_i32 (by omega) ?_ | refine ov_u32 (by omega) ?_
      conv => whnf
      refine ⟨L.length - (i + 1), by omega, rfl, rfl, i + 1, by omega, rfl, rfl, fun y hy => ?_⟩
      rw [List.take_add_one, hx] at hy
      rcases List.mem_append.1 hy with hy | hy
      · exact hno y hy
      · simp only [Option.toList_some, List.mem_singleton] at hy; subst hy; exact gx
  have hany : ¬ L.any (·.isEmpty) = true := by
    rw [List.any_eq_true]
    rintro ⟨x, hx, hx2⟩
    exact hno x (by rw [List.take_of_length_le (by omega)]; exact hx) (by simpa using hx2)
  rw [if_neg hany] at hk
  clear hno hany
  unfold lineR at hk
  conv => whnf
  first | refine need_intro (⟨by omega, by omega⟩) ?_ | refine must.mk (⟨by omega, by omega⟩) ?_
  conv => whnf
  refine ⟨_, loadI (j := 0) aggStr hw rfl (by rw [hL]; rfl), ?_⟩
  conv => whnf
  refine rfirst_x w ?_
  unfold firstV
  cases ho : opA w with
  | none =>
    rw [ho] at hk
    simp only at hk
    conv => whnf
    exact ⟨h, hle, hk⟩
  | some t =>
    obtain ⟨i0, aq, rl⟩ := t
    rw [ho] at hk
    simp only at hk
    have hf15 := fmtN_lt (i0 + 1 : Nat)
    generalize hf : fmtN (i0 + 1 : Nat) = f at hk hf15
    have hof := order_lt f hf15
    have hom := order_mem f hf15
    generalize hfs : orderS f = fs at hk hof hom
    have hbz : (bs fs).size = fs.length := bs_size fs
    conv => whnf
    refine rfind4_x _ f hf fun o' mk is h2 le2 => ?_
    have hw2 := le2 _ _ hw
    have hle2 : h.le h2 := Hp.le_trans hle le2
    clear hw hle le2
    conv => whnf
    refine rorder_x f hf15 ?_
    rw [hfs]
    conv => whnf
    first | refine ov_i64 (by omega) ?_ | refine ov_u64 (by omega) ?_ | refine ov_i64 (by decide) ?_ | refine ov_u64 (by decide) ?_ | refine ov_u8 (by omega) ?_ | refine ov_i32 (by omega) ?_ | refine ov_u32 (by omega) ?_
    conv => whnf
    by_cases gl : r.length = fs.length
    rotate_left
    · rw [if_pos gl] at hk
      refine bsel_true ?_ ?_
      · simp; omega
      conv => whnf
      exact ⟨h, hle2, hk⟩
    rw [if_neg (by simpa using gl)] at hk
    refine bsel_false ?_ ?_
    · simp; omega
    conv => whnf
    refine loop_at [11, 10] [2, 6] (fun q vs cs h' => h2 = h' ∧ ∃ (i : Nat) (y : Ins) (far : Bool), i ≤ fs.length ∧ q = fs.length - i ∧ vs = [.v (zv i), .v (.bool far)] ∧ cs = [some insn0, some y.cs] ∧ fieldsR (y, far) (fs.drop i) (r.drop i) = fieldsR (⟨(i0 + 1 : Nat), 0, 0, 0, 0, 0, aq, rl⟩, false) fs r ∧ -9223372036854775808 ≤ y.m ∧ y.m ≤ 9223372036854775807) fs.length ⟨rfl, 0, ⟨(i0 + 1 : Nat), 0, 0, 0, 0, 0, aq, rl⟩, false, by omega, by omega, rfl, rfl, rfl, (show (-9223372036854775808 : Int) ≤ 0 by decide), (show (0 : Int) ≤ 9223372036854775807 by decide)⟩ ?_
    rintro q vs cs mm2 bx9 _ ⟨rfl, i, y, far, hi, rfl, rfl, rfl, hR, m1, m2⟩
    conv => whnf
    refine bsel_intro (fun q1 => ?_) (fun q1 => ?_) <;> try simp only [bsL] at q1
    · have hiL : i < r.length := by omega
      obtain ⟨u, hu⟩ : ∃ u, r[i]? = some u := ⟨_, List.getElem?_eq_getElem hiL⟩
      obtain ⟨f', hf'⟩ : ∃ f', fs[i]? = some f' := ⟨_, List.getElem?_eq_getElem (by omega)⟩
      have hdr : r.drop i = u :: r.drop (i + 1) := by
        rw [List.drop_eq_getElem_cons hiL]
        congr 1
        exact (List.getElem?_eq_some_iff.1 hu).2
      have hdf : fs.drop i = f' :: fs.drop (i + 1) := by
        rw [List.drop_eq_getElem_cons (by omega)]
        congr 1
        exact (List.getElem?_eq_some_iff.1 hf').2
      have hul : u.length ≤ 2 ^ 40 := hwl u (by rw [hL]; simp [List.mem_of_getElem? hu])
      have hcm := hom f' (List.mem_of_getElem? hf')
      have hf2 : fs[((i : Nat) : Int).toNat]? = some f' := by rw [Int.toNat_natCast]; exact hf'
      rw [hdr, hdf, fieldsR_cons] at hR
      conv => whnf
      first | refine ov_i64 (by omega) ?_ | refine ov_u64 (by omega) ?_ | refine ov_i64 (by decide) ?_ | refine ov_u64 (by decide) ?_ | refine ov_u8 (by omega) ?_ | refine ov_i32 (by omega) ?_ | refine ov_u32 (by omega) ?_
      conv => whnf
      first | refine need_intro (⟨by omega, by omega⟩) ?_ | refine must.mk (⟨by omega, by omega⟩) ?_
      conv => whnf
      refine ⟨_, loadI (j := i + 1) aggStr hw2 rfl (by rw [List.getElem?_append_left (by rw [List.length_map]; omega), List.getElem?_map, hL, List.getElem?_cons_succ, hu]; rfl), ?_⟩
      conv => whnf
      conv => whnf
      rcases hcm with rfl | rfl | rfl | rfl | rfl | rfl | rfl
      · repeat (refine ch_intro (l := fs) 100 (by omega) hf2 ?_; (conv => whnf))
        refine rreg_x u (by omega) ?_
        have hF : fieldR (y, far) 100 u = (match Rg.findI u with | some i => .ok ({ y with a := i }, far) | none => .error 9) := rfl
        rw [hF] at hR
        cases hr : Rg.findI u with
        | none =>
          rw [hr] at hR
          have hR : fieldsR (⟨(i0 + 1 : Nat), 0, 0, 0, 0, 0, aq, rl⟩, false) fs r = .error 9 := hR.symm
          rw [hR] at hk
          conv => whnf
          exact ⟨h, hle2, hk⟩
        | some v =>
          rw [hr] at hR
          have hv := findI_nn hr
          have hR : fieldsR ({ y with a := v }, far) (fs.drop (i + 1)) (r.drop (i + 1)) = _ := hR
          conv => whnf
          refine bsel_false ?_ ?_
          · simp; omega
          conv => whnf
          repeat (refine ch_intro (l := fs) 100 (by omega) hf2 ?_; (conv => whnf))
          first | refine ov_i64 (by omega) ?_ | refine ov_u64 (by omega) ?_ | refine ov_i64 (by decide) ?_ | refine ov_u64 (by decide) ?_ | refine ov_u8 (by omega) ?_ | refine ov_i32 (by omega) ?_ | refine ov_u32 (by omega) ?_
          conv => whnf
          exact ⟨fs.length - (i + 1), by omega, rfl, i + 1, { y with a := v }, far, by omega, rfl, rfl, rfl, hR, m1, m2⟩
      · repeat (refine ch_intro (l := fs) 49 (by omega) hf2 ?_; (conv => whnf))
        refine rreg_x u (by omega) ?_
        have hF : fieldR (y, far) 49 u = (match Rg.findI u with | some i => .ok ({ y with b := i }, far) | none => .error 9) := rfl
        rw [hF] at hR
        cases hr : Rg.findI u with
        | none =>
          rw [hr] at hR
          have hR : fieldsR (⟨(i0 + 1 : Nat), 0, 0, 0, 0, 0, aq, rl⟩, false) fs r = .error 9 := hR.symm
          rw [hR] at hk
          conv => whnf
          exact ⟨h, hle2, hk⟩
        | some v =>
          rw [hr] at hR
          have hv := findI_nn hr
          have hR : fieldsR ({ y with b := v }, far) (fs.drop (i + 1)) (r.drop (i + 1)) = _ := hR
          conv => whnf
          refine bsel_false ?_ ?_
          · simp; omega
          conv => whnf
          repeat (refine ch_intro (l := fs) 49 (by omega) hf2 ?_; (conv => whnf))
          first | refine ov_i64 (by omega) ?_ | refine ov_u64 (by omega) ?_ | refine ov_i64 (by decide) ?_ | refine ov_u64 (by decide) ?_ | refine ov_u8 (by omega) ?_ | refine ov_i32 (by omega) ?_ | refine ov_u32 (by omega) ?_
          conv => whnf
          exact ⟨fs.length - (i + 1), by omega, rfl, i + 1, { y with b := v }, far, by omega, rfl, rfl, rfl, hR, m1, m2⟩
      · repeat (refine ch_intro (l := fs) 50 (by omega) hf2 ?_; (conv => whnf))
        refine rreg_x u (by omega) ?_
        have hF : fieldR (y, far) 50 u = (match Rg.findI u with | some i => .ok ({ y with c := i }, far) | none => .error 9) := rfl
        rw [hF] at hR
        cases hr : Rg.findI u with
        | none =>
          rw [hr] at hR
          have hR : fieldsR (⟨(i0 + 1 : Nat), 0, 0, 0, 0, 0, aq, rl⟩, false) fs r = .error 9 := hR.symm
          rw [hR] at hk
          conv => whnf
          exact ⟨h, hle2, hk⟩
        | some v =>
          rw [hr] at hR
          have hv := findI_nn hr
          have hR : fieldsR ({ y with c := v }, far) (fs.drop (i + 1)) (r.drop (i + 1)) = _ := hR
          conv => whnf
          refine bsel_false ?_ ?_
          · simp; omega
          conv => whnf
          repeat (refine ch_intro (l := fs) 50 (by omega) hf2 ?_; (conv => whnf))
          first | refine ov_i64 (by omega) ?_ | refine ov_u64 (by omega) ?_ | refine ov_i64 (by decide) ?_ | refine ov_u64 (by decide) ?_ | refine ov_u8 (by omega) ?_ | refine ov_i32 (by omega) ?_ | refine ov_u32 (by omega) ?_
          conv => whnf
          exact ⟨fs.length - (i + 1), by omega, rfl, i + 1, { y with c := v }, far, by omega, rfl, rfl, rfl, hR, m1, m2⟩
      · repeat (refine ch_intro (l := fs) 105 (by omega) hf2 ?_; (conv => whnf))
        refine rnumber_x u (by omega) ?_
        have hF : fieldR (y, far) 105 u = (match numA u with | some n => .ok ({ y with m := n }, far) | none => .error 2) := rfl
        rw [hF] at hR
        cases hr : numA u with
        | none =>
          rw [hr] at hR
          have hR : fieldsR (⟨(i0 + 1 : Nat), 0, 0, 0, 0, 0, aq, rl⟩, false) fs r = .error 2 := hR.symm
          rw [hR] at hk
          conv => whnf
          exact ⟨h, hle2, hk⟩
        | some v =>
          rw [hr] at hR
          obtain ⟨v1, v2⟩ := numA_rng hr
          simp only at hR
          rw [show okV (some v) = .tuple #[zv v, .bool true] from rfl]
          conv => whnf
          repeat (refine ch_intro (l := fs) 105 (by omega) hf2 ?_; (conv => whnf))
          first | refine ov_i64 (by omega) ?_ | refine ov_u64 (by omega) ?_ | refine ov_i64 (by decide) ?_ | refine ov_u64 (by decide) ?_ | refine ov_u8 (by omega) ?_ | refine ov_i32 (by omega) ?_ | refine ov_u32 (by omega) ?_
          conv => whnf
          exact ⟨fs.length - (i + 1), by omega, rfl, i + 1, { y with m := v }, far, by omega, rfl, rfl, rfl, hR, v1, v2⟩
      · repeat (refine ch_intro (l := fs) 117 (by omega) hf2 ?_; (conv => whnf))
        refine rnumber_x u (by omega) ?_
        have hF : fieldR (y, far) 117 u = (match numA u with | some n => if n < -524288 ∨ 524287 < n then .ok (y, true) else .ok ({ y with m := n * 4096 }, false) | none => .error 2) := rfl
        rw [hF] at hR
        cases hr : numA u with
        | none =>
          rw [hr] at hR
          have hR : fieldsR (⟨(i0 + 1 : Nat), 0, 0, 0, 0, 0, aq, rl⟩, false) fs r = .error 2 := hR.symm
          rw [hR] at hk
          conv => whnf
          exact ⟨h, hle2, hk⟩
        | some v =>
          rw [hr] at hR
          obtain ⟨v1, v2⟩ := numA_rng hr
          simp only at hR
          rw [show okV (some v) = .tuple #[zv v, .bool true] from rfl]
          conv => whnf
          repeat (refine ch_intro (l := fs) 117 (by omega) hf2 ?_; (conv => whnf))
          refine bsel_intro (fun t1 => ?_) (fun t1 => ?_) <;> try simp only [bsL] at t1
          · rw [if_pos (.inl (by omega))] at hR
            conv => whnf
            first | refine ov_i64 (by omega) ?_ | refine ov_u64 (by omega) ?_ | refine ov_i64 (by decide) ?_ | refine ov_u64 (by decide) ?_ | refine ov_u8 (by omega) ?_ | refine ov_i32 (by omega) ?_ | refine ov_u32 (by omega) ?_
            conv => whnf
            exact ⟨fs.length - (i + 1), by omega, rfl, i + 1, y, true, by omega, rfl, rfl, rfl, hR, m1, m2⟩
          conv => whnf
          by_cases t2 : 524287 < v
          · rw [if_pos (.inr t2)] at hR
            refine bsel_false ?_ ?_
            · simp; omega
            conv => whnf
            first | refine ov_i64 (by omega) ?_ | refine ov_u64 (by omega) ?_ | refine ov_i64 (by decide) ?_ | refine ov_u64 (by decide) ?_ | refine ov_u8 (by omega) ?_ | refine ov_i32 (by omega) ?_ | refine ov_u32 (by omega) ?_
            conv => whnf
            exact ⟨fs.length - (i + 1), by omega, rfl, i + 1, y, _, by omega, rfl, rfl, rfl, by rw [decide_eq_true t2]; exact hR, m1, m2⟩
          rw [if_neg (show ¬ (v < -524288 ∨ 524287 < v) by omega)] at hR
          refine bsel_true ?_ ?_
          · simp; omega
          conv => whnf
          first | refine ov_i64 (by omega) ?_ | refine ov_u64 (by omega) ?_ | refine ov_i64 (by decide) ?_ | refine ov_u64 (by decide) ?_ | refine ov_u8 (by omega) ?_ | refine ov_i32 (by omega) ?_ | refine ov_u32 (by omega) ?_
          conv => whnf
          first | refine ov_i64 (by omega) ?_ | refine ov_u64 (by omega) ?_ | refine ov_i64 (by decide) ?_ | refine ov_u64 (by decide) ?_ | refine ov_u8 (by omega) ?_ | refine ov_i32 (by omega) ?_ | refine ov_u32 (by omega) ?_
          conv => whnf
          exact ⟨fs.length - (i + 1), by omega, rfl, i + 1, { y with m := v * 4096 }, _, by omega, rfl, rfl, rfl, by rw [decide_eq_false t2]; exact hR, (show _ ≤ v * 4096 by omega), (show v * 4096 ≤ _ by omega)⟩
      · repeat (refine ch_intro (l := fs) 99 (by omega) hf2 ?_; (conv => whnf))
        refine rnumber_x u (by omega) ?_
        have hF : fieldR (y, far) 99 u = (match numA u with | some n => if n < 0 ∨ 4095 < n then .ok (y, true) else .ok ({ y with s := n }, false) | none => .error 2) := rfl
        rw [hF] at hR
        cases hr : numA u with
        | none =>
          rw [hr] at hR
          have hR : fieldsR (⟨(i0 + 1 : Nat), 0, 0, 0, 0, 0, aq, rl⟩, false) fs r = .error 2 := hR.symm
          rw [hR] at hk
          conv => whnf
          exact ⟨h, hle2, hk⟩
        | some v =>
          rw [hr] at hR
          obtain ⟨v1, v2⟩ := numA_rng hr
          simp only at hR
          rw [show okV (some v) = .tuple #[zv v, .bool true] from rfl]
          conv => whnf
          repeat (refine ch_intro (l := fs) 99 (by omega) hf2 ?_; (conv => whnf))
          refine bsel_intro (fun t1 => ?_) (fun t1 => ?_) <;> try simp only [bsL] at t1
          · rw [if_pos (.inl (by omega))] at hR
            conv => whnf
            first | refine ov_i64 (by omega) ?_ | refine ov_u64 (by omega) ?_ | refine ov_i64 (by decide) ?_ | refine ov_u64 (by decide) ?_ | refine ov_u8 (by omega) ?_ | refine ov_i32 (by omega) ?_ | refine ov_u32 (by omega) ?_
            conv => whnf
            exact ⟨fs.length - (i + 1), by omega, rfl, i + 1, y, true, by omega, rfl, rfl, rfl, hR, m1, m2⟩
          conv => whnf
          by_cases t2 : 4095 < v
          · rw [if_pos (.inr t2)] at hR
            refine bsel_false ?_ ?_
            · simp; omega
            conv => whnf
            first | refine ov_i64 (by omega) ?_ | refine ov_u64 (by omega) ?_ | refine ov_i64 (by decide) ?_ | refine ov_u64 (by decide) ?_ | refine ov_u8 (by omega) ?_ | refine ov_i32 (by omega) ?_ | refine ov_u32 (by omega) ?_
            conv => whnf
            exact ⟨fs.length - (i + 1), by omega, rfl, i + 1, y, _, by omega, rfl, rfl, rfl, by rw [decide_eq_true t2]; exact hR, m1, m2⟩
          rw [if_neg (show ¬ (v < 0 ∨ 4095 < v) by omega)] at hR
          refine bsel_true ?_ ?_
          · simp; omega
          conv => whnf
          first | refine ov_i64 (by omega) ?_ | refine ov_u64 (by omega) ?_ | refine ov_i64 (by decide) ?_ | refine ov_u64 (by decide) ?_ | refine ov_u8 (by omega) ?_ | refine ov_i32 (by omega) ?_ | refine ov_u32 (by omega) ?_
          conv => whnf
          exact ⟨fs.length - (i + 1), by omega, rfl, i + 1, { y with s := v }, _, by omega, rfl, rfl, rfl, by rw [decide_eq_false t2]; exact hR, m1, m2⟩
      · repeat (refine ch_intro (l := fs) 110 (by omega) hf2 ?_; (conv => whnf))
        refine rnumber_x u (by omega) ?_
        have hF : fieldR (y, far) 110 u = (match numA u with | some n => if n < 0 ∨ 31 < n then .ok (y, true) else .ok ({ y with b := n }, far) | none => .error 2) := rfl
        rw [hF] at hR
        cases hr : numA u with
        | none =>
          rw [hr] at hR
          have hR : fieldsR (⟨(i0 + 1 : Nat), 0, 0, 0, 0, 0, aq, rl⟩, false) fs r = .error 2 := hR.symm
          rw [hR] at hk
          conv => whnf
          exact ⟨h, hle2, hk⟩
        | some v =>
          rw [hr] at hR
          obtain ⟨v1, v2⟩ := numA_rng hr
          simp only at hR
          rw [show okV (some v) = .tuple #[zv v, .bool true] from rfl]
          conv => whnf
          repeat (refine ch_intro (l := fs) 110 (by omega) hf2 ?_; (conv => whnf))
          cases far with
          | true =>
            conv => whnf
            refine bsel_intro (fun t1 => ?_) (fun t1 => ?_) <;> try simp only [bsL] at t1
            · conv => whnf
              refine bsel_intro (fun t2 => ?_) (fun t2 => ?_) <;> try simp only [bsL] at t2
              · rw [if_neg (show ¬ (v < 0 ∨ 31 < v) by omega)] at hR
                conv => whnf
                first | refine ov_i64 (by omega) ?_ | refine ov_u64 (by omega) ?_ | refine ov_i64 (by decide) ?_ | refine ov_u64 (by decide) ?_ | refine ov_u8 (by omega) ?_ | refine ov_i32 (by omega) ?_ | refine ov_u32 (by omega) ?_
                conv => whnf
                exact ⟨fs.length - (i + 1), by omega, rfl, i + 1, { y with b := v }, true, by omega, rfl, rfl, rfl, hR, m1, m2⟩
              · rw [if_pos (.inr (by omega))] at hR
                conv => whnf
                first | refine ov_i64 (by omega) ?_ | refine ov_u64 (by omega) ?_ | refine ov_i64 (by decide) ?_ | refine ov_u64 (by decide) ?_ | refine ov_u8 (by omega) ?_ | refine ov_i32 (by omega) ?_ | refine ov_u32 (by omega) ?_
                conv => whnf
                exact ⟨fs.length - (i + 1), by omega, rfl, i + 1, y, true, by omega, rfl, rfl, rfl, hR, m1, m2⟩
            · rw [if_pos (.inl (by omega))] at hR
              conv => whnf
              first | refine ov_i64 (by omega) ?_ | refine ov_u64 (by omega) ?_ | refine ov_i64 (by decide) ?_ | refine ov_u64 (by decide) ?_ | refine ov_u8 (by omega) ?_ | refine ov_i32 (by omega) ?_ | refine ov_u32 (by omega) ?_
              conv => whnf
              exact ⟨fs.length - (i + 1), by omega, rfl, i + 1, y, true, by omega, rfl, rfl, rfl, hR, m1, m2⟩
          | false =>
            conv => whnf
            refine bsel_intro (fun t1 => ?_) (fun t1 => ?_) <;> try simp only [bsL] at t1
            · rw [if_pos (.inl (by omega))] at hR
              conv => whnf
              refine bsel_false ?_ ?_
              · simp; omega
              conv => whnf
              first | refine ov_i64 (by omega) ?_ | refine ov_u64 (by omega) ?_ | refine ov_i64 (by decide) ?_ | refine ov_u64 (by decide) ?_ | refine ov_u8 (by omega) ?_ | refine ov_i32 (by omega) ?_ | refine ov_u32 (by omega) ?_
              conv => whnf
              exact ⟨fs.length - (i + 1), by omega, rfl, i + 1, y, true, by omega, rfl, rfl, rfl, hR, m1, m2⟩
            conv => whnf
            refine bsel_true ?_ ?_
            · simp; omega
            conv => whnf
            by_cases t2 : 31 < v
            · rw [if_pos (.inr t2)] at hR
              refine bsel_false ?_ ?_
              · simp; omega
              conv => whnf
              first | refine ov_i64 (by omega) ?_ | refine ov_u64 (by omega) ?_ | refine ov_i64 (by decide) ?_ | refine ov_u64 (by decide) ?_ | refine ov_u8 (by omega) ?_ | refine ov_i32 (by omega) ?_ | refine ov_u32 (by omega) ?_
              conv => whnf
              exact ⟨fs.length - (i + 1), by omega, rfl, i + 1, y, _, by omega, rfl, rfl, rfl, by rw [decide_eq_true t2]; exact hR, m1, m2⟩
            rw [if_neg (show ¬ (v < 0 ∨ 31 < v) by omega)] at hR
            refine bsel_true ?_ ?_
            · simp; omega
            conv => whnf
            first | refine ov_i64 (by omega) ?_ | refine ov_u64 (by omega) ?_ | refine ov_i64 (by decide) ?_ | refine ov_u64 (by decide) ?_ | refine ov_u8 (by omega) ?_ | refine ov_i32 (by omega) ?_ | refine ov_u32 (by omega) ?_
            conv => whnf
            exact ⟨fs.length - (i + 1), by omega, rfl, i + 1, { y with b := v }, _, by omega, rfl, rfl, rfl, by rw [decide_eq_false t2]; exact hR, m1, m2⟩
    have hir : i = r.length := by omega
    rw [List.drop_of_length_le (by omega), List.drop_of_length_le (by omega)] at hR
    have hR : fieldsR (⟨(i0 + 1 : Nat), 0, 0, 0, 0, 0, aq, rl⟩, false) fs r = .ok (y, far) := hR.symm
    rw [hR] at hk
    have hk : K (parsedV (if far = true ∨ y.chk ≠ 0 then .error 3 else .ok y)) h := hk
    cases far with
    | true =>
      rw [if_pos (.inl rfl)] at hk
      conv => whnf
      exact ⟨h, hle2, hk⟩
    | false =>
      conv => whnf
      refine rcheck_x y.op y.a y.b y.c y.m y.s y.aq y.rl m1 m2 ?_
      have hc0 : checkF (fmtN y.op) y.a y.b y.c y.m y.s y.aq y.rl = y.chk := rfl
      rw [hc0]
      generalize y.chk = e at hk ⊢
      conv => whnf
      refine bsel_intro (fun ge => ?_) (fun ge => ?_) <;> try simp only [bsL] at ge
      · rw [if_pos (.inr (by omega))] at hk
        conv => whnf
        exact ⟨h, hle2, hk⟩
      · rw [if_neg (by rintro (h | h); cases h; exact h (by omega))] at hk
        conv => whnf
        exact ⟨h, hle2, hk⟩
end
end Go.Proofs.YtlobclgbbhoeiaaGreatDoor
