/-
  A cache is copied.
-/
import Derived.Test.YteapmakpbmmleaaTlb7
namespace Go.Proofs.Yteapmakpbmmleaa
set_option linter.unusedSimpArgs false
set_option linter.unusedVariables false
open Go Go.Mid Go.RowKit
attribute [local irreducible] mid structOk
theorem cloneKN_x (h : Hp) (K : Value → Hp → Prop) (hk : K (.slice none 0 0) h) : X Try.prog 22 #[.slice none 0 0] h K := by
  refine fnv (args := _) mixed [] [] [] Try.func22 rfl (by kernel_rfl) ?_
  conv => whnf
  exact hk
theorem nodup_take {L : List En} (hd : (L.map keyI).Nodup) {j : Nat} (hj : j < L.length) : ∀ x ∈ L.take j, keyI x ≠ keyI L[j] := by
  intro x hx hh
  obtain ⟨i, hi⟩ := List.getElem?_of_mem hx
  have hi2 := (List.getElem?_eq_some_iff.1 hi).1
  rw [List.length_take] at hi2
  have hij : i < j := by omega
  rw [List.getElem?_take_of_lt hij, List.getElem?_eq_getElem (by omega)] at hi
  cases hi
  have := List.pairwise_iff_getElem.1 hd i j (by simp; omega) (by simpa using hj) hij
  simp only [List.getElem_map] at this
  exact this hh
set_option maxHeartbeats 8000000 in
set_option maxRecDepth 10000 in
theorem cloneT_x {c : Nat} {size : Int} {L : List En} (hg : Good size L) (h : Hp) (K : Value → Hp → Prop) (hT : TlbH h c size L)
    (hk : ∀ c' h', h.le h' → TlbH (news h h') c' size L → K (.pointer (some ⟨c', 0, none⟩)) h') :
    X Try.prog 16 #[.pointer (some ⟨c, 0, none⟩)] h K := by
  obtain ⟨m, b, om, age, ob, h0, h1, h2, h3, h4⟩ := hT
  have hsz := hg.sz
  have hlen := hg.len
  have hms : ∃ es cl, om = .map es cl := by obtain ⟨l, cl, e, _⟩ := h3; exact ⟨_, cl, e⟩
  obtain ⟨es, cl, hom⟩ := hms
  have hlenM : lenH Try.prog 52 h (.map (some m)) = some (.int .i64 es.size) := by
    unfold lenH; rw [mapU]; simp only [h2, hom]
  have hrd : ∃ sa sc, age = .slice sa L.length sc ∧ ∀ (i : Nat) (e : En), L[i]? = some e → ∃ bb rest, sa = some ⟨bb, 0, none⟩ ∧ h bb = some (rowO 58 ((L.map keyI).flatMap Ky.cells ++ rest)) := by
    obtain ⟨g1, ⟨_, e, g2⟩ | ⟨bb, cap, rest, e1, e2, g2, g3, g4⟩⟩ := h4
    · refine ⟨none, 0, by rw [e, g2], fun i e hi => ?_⟩
      obtain rfl := List.eq_nil_of_length_eq_zero g2
      simp at hi
    · exact ⟨_, cap, e2, fun i e hi => ⟨bb, rest, rfl, g4⟩⟩
  have hclone : ∀ (hh : Hp) (K' : Value → Hp → Prop), h.le hh → (∀ sa7 sc7 h' ob', hh.le h' → (∀ x, ob' = some x → hh x = none) → Gr h' 58 3 (.slice sa7 L.length sc7) L.length ((L.map keyI).flatMap Ky.cells) ob' → K' (.slice sa7 L.length sc7) h') → X Try.prog 22 #[age] hh K' := by
    intro hh K' hle hK
    obtain ⟨g1, ⟨_, e, g2⟩ | ⟨bb, cap, rest, e1, e2, g2, g3, g4⟩⟩ := h4
    · subst e
      have := hK none 0 hh none (Hp.le_refl _) (fun _ hx => by cases hx) ⟨g1, .inl ⟨rfl, by rw [g2], g2⟩⟩
      rw [g2] at this
      exact cloneKN_x _ _ this
    · subst e2
      refine cloneK_x ⟨bb, 0, none⟩ (L.map keyI) L.length cap (List.length_map _) hh K' (by omega) (fun j v hj => ?_) (fun s h' b' l1 l2 l3 => by
        rw [List.length_map] at l3
        obtain ⟨a7, c7, rfl⟩ := l3.shape
        exact hK a7 c7 h' (some b') l1 (fun x hx => by cases hx; exact l2) l3)
      rw [addr_add, Nat.zero_add]
      exact cell_row (hle _ _ g4) (by rw [List.getElem?_append_left (List.getElem?_eq_some_iff.1 hj).1]; exact hj)
  obtain ⟨sa, sc, rfl, hrow⟩ := hrd
  refine fnp (args := _) mixed [(5, 5)] [] [11] [(3, [0, 1, 2, 3, 4, 5, 6, 7, 8, 10, 11, 12, 13, 14, 9, 15, 16, 17])] Try.func16 rfl (by kernel_rfl) ?_
  conv => whnf
  refine ⟨fun h' => h.le h', fun _ _ a b => Hp.le_trans a b, Hp.le_refl h, ?_⟩
  conv => whnf
  refine ⟨_, fun h' hh => loadC0 aggI (hh _ _ h1) rfl, ?_⟩
  conv => whnf
  refine ⟨_, loadC (i := 1) aggM h1 rfl, ?_⟩
  conv => whnf
  refine ⟨_, hlenM, ?_⟩
  conv => whnf
  refine ⟨_, loadC (i := 2) aggS h1 rfl, ?_⟩
  conv => whnf
  refine hclone h _ (Hp.le_refl h) (fun sa7 sc7 h7 ob7 hle7 hn7 hg7 => ?_)
  refine ⟨hle7, ?_⟩
  conv => whnf
  refine new_intro (o := .map #[] 0) (fun m9 H9 n_m9 le_m9 at_m9 ot_m9 => ?_)
  conv => whnf
  refine new_intro (o := rowO 55 [.int .i64 size, .map (some m9), .slice sa7 L.length sc7]) (fun c9 H0 n_c9 le_c9 at_c9 ot_c9 => ?_)
  conv => whnf
  have hleH : h.le H0 := Hp.le_trans hle7 (Hp.le_trans le_m9 le_c9)
  have hm0 : h m9 = none := none_le hle7 n_m9
  have hc0 : h c9 = none := none_le (Hp.le_trans hle7 le_m9) n_c9
  have hmc : m9 ≠ c9 := fun e => by subst e; rw [at_m9] at n_c9; cases n_c9
  have hob : ∀ x, ob7 = some x → x ≠ m9 ∧ h x = none := fun x hx => And.intro (a := x ≠ m9) (b := h x = none) (fun e => by
    subst e
    obtain ⟨_, ⟨e, _⟩ | ⟨_, _, _, e, _, _, _, e2⟩⟩ := hg7
    · rw [hx] at e; cases e
    · rw [hx] at e; cases e; rw [n_m9] at e2; cases e2) (hn7 x hx)
  have hne : ∀ x y, h x = some y → x ≠ m9 := fun x y e hh => by subst hh; rw [hm0] at e; cases e
  refine ⟨_, loadC (i := 2) aggS (hleH _ _ h1) rfl, ?_⟩
  conv => whnf
  refine loop_at [30] [] (fun r vs _ h' => ∃ j : Nat, j ≤ L.length ∧ r = L.length - j ∧ vs = [.v (.int .i64 j)] ∧ (∀ x, x ≠ m9 → h' x = H0 x) ∧ ∃ om', h' m9 = some om' ∧ MapO Ky.v (lookE (L.take j)) om') L.length ⟨0, by omega, by omega, rfl, fun _ _ => rfl, _, le_c9 _ _ at_m9, MapO.congr MapO.nil fun a => rfl⟩ ?_
  rintro r vs cs mm bx h' ⟨j, hj, rfl, rfl, hag, om', hm', hmo⟩
  have hle' : h.le h' := fun x o e => (hag x (hne x o e)).trans (hleH _ _ e)
  conv => whnf
  refine bsel_intro (fun q1 => ?_) (fun q1 => ?_) <;> try simp only [decide_eq_true_eq, decide_eq_false_iff_not, beq_iff_eq, beq_eq_false_iff_ne, ne_eq, Bool.not_eq_true', Bool.not_eq_false', bne_iff_ne, bne_eq_false_iff_eq, Bool.not_eq_true, Bool.not_eq_false, Bool.and_eq_true, Bool.or_eq_true] at q1
  · have hjl : j < L.length := by omega
    have hget : L[j]? = some L[j] := List.getElem?_eq_getElem hjl
    have heL : L[j] ∈ L := List.getElem_mem hjl
    have hro := hrow j _ hget
    obtain ⟨bb, rest, rfl, hbb⟩ := hro
    have hsn : ∀ k, putF (lookE (L.take j)) (keyI L[j]) (some L[j].v) k = lookE (L.take (j + 1)) k := fun k => by
      rw [List.take_succ_eq_append_getElem hjl, lookE_snoc (nodup_take hg.dist hjl)]
    conv => whnf
    first | refine need_intro (by omega) ?_ | refine must.mk (by omega) ?_
    conv => whnf
    refine ⟨_, loadK (k := keyI L[j]) (hle' _ _ hbb) (by show (L.map keyI)[j]? = _; rw [List.getElem?_map, hget]; rfl), ?_⟩
    conv => whnf
    refine ⟨_, loadC (i := 1) aggM ((hag _ (Ne.symm hmc)).trans at_c9) rfl, ?_⟩
    conv => whnf
    refine ⟨_, loadC (i := 1) aggM (hle' _ _ h1) rfl, ?_⟩
    conv => whnf
    refine ⟨_, MapO.look mapU enZ kyT (hle' _ _ h2) h3 (keyI L[j]) false, ?_⟩
    conv => whnf
    rw [lookE_mem hg.dist heL]
    conv => whnf
    have hob_ := MapO.upd mapU kyT hm' hmo (keyI L[j]) L[j].v
    obtain ⟨om5, hupd, k5⟩ := hob_
    refine wr_intro (by exact hupd) (fun H5 at_H5 ot_H5 => ?_)
    try (conv => whnf)
    refine ⟨trivial, ?_⟩
    conv => whnf
    first | refine ov_i64 (by omega) ?_ | refine ov_u64 (by omega) ?_ | refine ov_i64 (by decide) ?_ | refine ov_u64 (by decide) ?_ | refine ov_u8 (by omega) ?_ | refine ov_i32 (by omega) ?_ | refine ov_u32 (by omega) ?_
    conv => whnf
    exact ⟨L.length - (j + 1), by omega, j + 1, by omega, rfl, rfl, fun x hx => (ot_H5 x hx).trans (hag x hx), om5, at_H5, MapO.congr k5 hsn⟩
  · obtain rfl : j = L.length := by omega
    rw [List.take_length] at hmo
    conv => whnf
    refine hk _ _ hle' ⟨m9, ob7.getD 0, om', .slice sa7 L.length sc7, ob7, fun x hx => (by rw [hx]; rfl), ?_, ?_, hmo, ?_⟩
    · rw [news_at hc0]; exact (hag _ (Ne.symm hmc)).trans at_c9
    · rw [news_at hm0]; exact hm'
    · exact ((hg7.le le_m9).le le_c9).agree fun x hx => by rw [news_at (hob x hx).2]; exact hag x (hob x hx).1
end Go.Proofs.Yteapmakpbmmleaa
