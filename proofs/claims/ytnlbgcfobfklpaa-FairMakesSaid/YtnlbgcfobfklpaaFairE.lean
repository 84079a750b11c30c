/-
  FairMakes, walked.
-/
import Derived.Test.YtnlbgcfobfklpaaFairD
namespace Go.Proofs.Ytnlbgcfobfklpaa
open Go Go.Mid Go.RowKit
attribute [local irreducible] X MLoop mid
theorem picksL_at (k : Int) (ws rs : List Int) (j : Nat) (hj : j < rs.length) : (picksL k ws rs)[j]? = some (chooseL k (afterL k ws (rs.take j)) rs[j]) := by
  have h1 := picksL_take k rs ws (j + 1)
  rw [List.take_succ_eq_append_getElem hj, picksL_snoc] at h1
  have h2 : (picksL k ws rs)[j]? = ((picksL k ws rs).take (j + 1))[j]? := by rw [List.getElem?_take_of_lt (by omega)]
  rw [h2, h1]
  have : (picksL k ws (rs.take j)).length = j := by rw [picksL_length, List.length_take]; omega
  rw [List.getElem?_append_right (by omega), this, Nat.sub_self]; rfl
theorem ints_eq (s1 s2 : Value) (l : List Int) (h : Hp) (K : Value → Hp → Prop) (hl : l.length ≤ 2 ^ 40) (hr1 : Rd Try.prog 3 1 h s1 (iv l)) (hr2 : Rd Try.prog 3 1 h s2 (iv l))
    (hk : K (.bool true) h) : X Try.prog 13 #[s1, s2] h K :=
  ints_x s1 s2 l l h K hl hl hr1 hr2 (by rw [decide_eq_true rfl]; exact hk)
theorem rd_cells {h : Hp} {base : Option Addr} {l : List Int} (f : ∀ i x, l[i]? = some x → ∃ a, base = some a ∧ loadH Try.prog 3 h (a.add (i * 1)) = some (.int .i64 x)) : ∀ i, i < l.length → ∃ a, base = some a ∧ h.cell? (a.add i) = some (.int .i64 (l.getD i 0)) := by
  intro i hi
  obtain ⟨a, e1, e2⟩ := f i _ (List.getElem?_eq_getElem hi)
  rw [cellH, Nat.mul_one] at e2
  exact ⟨a, e1, by rw [e2, List.getD_eq_getElem?_getD, List.getElem?_eq_getElem hi]; rfl⟩
theorem fair_yes (base : Option Addr) (l : List Int) (cap : Nat) (n k : Int) (h : Hp) (K : Value → Hp → Prop) (hlen : l.length ≤ 2 ^ 20) (hc : ∀ i, i < l.length → ∃ a, base = some a ∧ h.cell? (a.add i) = some (.int .i64 (l.getD i 0)))
    (h1 : 1 ≤ n ∧ n ≤ 8 ∧ 1 ≤ k ∧ okUpto l k n.toNat) (hk : K (.bool true) h) : X Try.prog 6 #[.slice base l.length cap, .int .i64 n, .int .i64 k] h K :=
  fair_x base l cap n k h K hlen hc fun b hb => by rw [hb.2 h1]; exact hk
theorem rfair_yes (base : Option Addr) (l : List Int) (cap : Nat) (n k : Int) (h : Hp) (K : Value → Hp → Prop) (hlen : l.length ≤ 2 ^ 20) (hkb : k ≤ 9223372036854775807) (hc : ∀ i, i < l.length → ∃ a, base = some a ∧ h.cell? (a.add i) = some (.int .i64 (l.getD i 0)))
    (h1 : 1 ≤ n ∧ n ≤ 8 ∧ 1 ≤ k ∧ okUpto l k n.toNat) (hk : K (.bool true) h) : X Try.prog 7 #[.slice base l.length cap, .int .i64 n, .int .i64 k] h K :=
  rfair_x base l cap n k h K hlen hkb hc fun b hb => by rw [hb.2 ⟨h1.1, h1.2.1, h1.2.2.1, (fair_same l n k h1.2.2.1).1 h1.2.2.2⟩]; exact hk
set_option maxHeartbeats 1600000 in
set_option maxRecDepth 10000 in
theorem makes_bad (base : Option Addr) (cap : Nat) (raw : List Int) (n k : Int) (h : Hp) (K : Value → Hp → Prop) (hraw : ∀ r ∈ raw, 0 ≤ r ∧ r < 256) (hbad : n < 1 ∨ 8 < n ∨ k < n)
    (hrd : ∀ i r, raw[i]? = some r → ∃ a, base = some a ∧ h.cell? (a.add i) = some (.int .u8 r))
    (hk : K (.bool true) h) :
    X Try.prog 4 #[.slice base raw.length cap, .int .i64 n, .int .i64 k] h K := by
  refine X.forget ?_
  refine fnv (args := [.slice base raw.length cap, .int .i64 n, .int .i64 k]) mixed [] [] [16] Try.func4 rfl (by kernel_rfl) ?_
  conv => whnf
  refine next0_x 1 _ _ ?_
  conv => whnf
  refine waits0_x _ _ ?_
  conv => whnf
  refine bsel_intro (fun h1 => ?_) (fun h1 => ?_) <;> simp only [decide_eq_true_eq, decide_eq_false_iff_not] at h1
  · conv => whnf
    refine live_x _ _ ?_
    conv => whnf
    exact ⟨h, Hp.le_refl h, hk⟩
  conv => whnf
  refine make_x base cap raw n k h _ (by omega) hraw hrd (fun _ => ?_) (fun q1 q2 q3 => by omega)
  conv => whnf
  refine new_x n k h _ (fun _ => ?_) (fun q1 q2 q3 => by omega)
  conv => whnf
  refine bsel_intro (fun h2 => ?_) (fun h2 => ?_) <;> simp only [decide_eq_true_eq, decide_eq_false_iff_not] at h2
  · conv => whnf
    refine live_x _ _ ?_
    conv => whnf
    exact ⟨h, Hp.le_refl h, hk⟩
  conv => whnf
  refine bsel_intro (fun h3 => ?_) (fun h3 => ?_) <;> simp only [decide_eq_true_eq, decide_eq_false_iff_not] at h3
  · conv => whnf
    refine live_x _ _ ?_
    conv => whnf
    exact ⟨h, Hp.le_refl h, hk⟩
  conv => whnf
  refine bsel_intro (fun h4 => ?_) (fun h4 => ?_) <;> simp only [decide_eq_true_eq, decide_eq_false_iff_not] at h4
  · conv => whnf
    refine live_x _ _ ?_
    conv => whnf
    exact ⟨h, Hp.le_refl h, hk⟩
  omega
set_option maxHeartbeats 1600000 in
set_option maxRecDepth 10000 in
theorem makes_good (base : Option Addr) (cap : Nat) (raw : List Int) (m : Nat) (k : Int) (h : Hp) (K : Value → Hp → Prop) (hkm : k ≤ 9223372036854775807) (hraw : ∀ r ∈ raw, 0 ≤ r ∧ r < 256) (q1 : 1 ≤ m) (q2 : m ≤ 8) (q3 : (m : Int) ≤ k)
    (hrd : ∀ i r, raw[i]? = some r → ∃ a, base = some a ∧ h.cell? (a.add i) = some (.int .u8 r))
    (hk : K (.bool true) h) :
    X Try.prog 4 #[.slice base raw.length cap, .int .i64 m, .int .i64 k] h K := by
  refine X.forget ?_
  refine fnv (args := [.slice base raw.length cap, .int .i64 m, .int .i64 k]) mixed [] [] [16] Try.func4 rfl (by kernel_rfl) ?_
  conv => whnf
  refine next0_x 1 _ _ ?_
  conv => whnf
  refine waits0_x _ _ ?_
  conv => whnf
  refine bsel_intro (fun h1 => ?_) (fun h1 => ?_) <;> simp only [decide_eq_true_eq, decide_eq_false_iff_not] at h1
  · conv => whnf
    refine live_x _ _ ?_
    conv => whnf
    exact ⟨h, Hp.le_refl h, hk⟩
  conv => whnf
  refine make_x base cap raw m k h _ (by omega) hraw hrd (fun q => by omega) (fun _ _ _ s1 h1' hle1 hr1 => ?_)
  rw [Int.toNat_natCast] at hr1
  obtain ⟨b1, c1, rfl, f1⟩ := rdI hr1
  conv => whnf
  refine new_x m k h1' _ (fun q => by omega) (fun _ _ _ b c hb hc hcb => ?_)
  have hle2 : h1'.le ((h1'.set b (rowO 3 (iv (List.replicate m 0)))).set c (rowO 44 [.int .i64 k, .slice (some ⟨b, 0, none⟩) m m])) := Hp.le_keep (Hp.le_keep (Hp.le_refl _) hb) hc
  have hch2 : Ch ((h1'.set b (rowO 3 (iv (List.replicate m 0)))).set c (rowO 44 [.int .i64 k, .slice (some ⟨b, 0, none⟩) m m])) c b k (List.replicate m 0) := by
    refine ⟨?_, ?_⟩
    · rw [Hp.set_same, List.length_replicate]
    · rw [Hp.set_other _ _ (Ne.symm hcb), Hp.set_same]
  conv => whnf
  refine bsel_intro (fun h3 => ?_) (fun h3 => ?_) <;> simp only [decide_eq_true_eq, decide_eq_false_iff_not] at h3
  · omega
  conv => whnf
  refine bsel_intro (fun h3 => ?_) (fun h3 => ?_) <;> simp only [decide_eq_true_eq, decide_eq_false_iff_not] at h3
  · omega
  conv => whnf
  refine bsel_intro (fun h3 => ?_) (fun h3 => ?_) <;> simp only [decide_eq_true_eq, decide_eq_false_iff_not] at h3
  · omega
  conv => whnf
  refine rmake_x base cap raw m k ((h1'.set b (rowO 3 (iv (List.replicate m 0)))).set c (rowO 44 [.int .i64 k, .slice (some ⟨b, 0, none⟩) m m])) _ (by omega) hraw (by omega) (by omega) (by omega) hkm (fun i r hi => ?_) (fun s3 h3 g hle3 hg3 hfr hr3 => ?_)
  · obtain ⟨a, e1, e2⟩ := hrd i r hi
    exact ⟨a, e1, cell_le (Hp.le_trans hle1 hle2) e2⟩
  have hsame := picks_same k m (by omega) raw.length raw rfl (fun r hr => (hraw r hr).1)
  rw [← hsame.2] at hr3
  have hgb : g b = none := hfr b _ hch2.2
  have hgc : g c = none := hfr c _ hch2.1
  obtain ⟨bp, cp, rfl, fp⟩ := rdI hr3
  have hl0 : (List.replicate m (0 : Int)).length = m := by simp
  have hpl := picksL_length k raw (List.replicate m 0)
  conv => whnf
  refine loop_at [13] [] (fun r vs _ h' => ∃ j : Nat, j ≤ raw.length ∧ r = raw.length - j ∧ vs = [.v (.int .i64 j)] ∧ h1'.le h' ∧ g.le h' ∧ Ch h' c b k (afterL k (List.replicate m 0) (raw.take j))) raw.length
    ⟨0, by omega, by omega, rfl, Hp.le_trans hle2 hle3, hg3, hch2.le hle3⟩ ?_
  rintro r vs cs mm bx h' ⟨j, hj, rfl, rfl, hl1, hlg, hch⟩
  conv => whnf
  refine bsel_intro (fun h4 => ?_) (fun h4 => ?_) <;> simp only [decide_eq_true_eq, decide_eq_false_iff_not] at h4
  · have hjr : j < raw.length := by omega
    have hget : raw[j]? = some raw[j] := List.getElem?_eq_getElem hjr
    have hpj := picksL_at k (List.replicate m 0) raw j hjr
    have haf := afterL_snoc k (List.replicate m 0) (raw.take j) raw[j]
    rw [← List.take_succ_eq_append_getElem hjr] at haf
    have hlw := afterL_length k (raw.take j) (List.replicate m 0)
    have hbd := afterL_le k m (raw.take j)
    rw [List.length_take] at hbd
    obtain ⟨ap, rfl, hap⟩ := fp j _ hpj
    obtain ⟨a, rfl, ha⟩ := hrd j _ hget
    conv => whnf
    refine ⟨fun h'' => h1'.le h'' ∧ g.le h'', ⟨hl1, hlg⟩, ?_⟩
    conv => whnf
    refine need_intro ⟨by omega, by omega⟩ ?_
    conv => whnf
    refine ⟨.int .u8 raw[j], fun h'' hh => ?_, ?_⟩
    · show loadH Try.prog 5 h'' (a.add (j * 1)) = _
      rw [loadH_cell agg5, Nat.mul_one]
      exact cell_le (Hp.le_trans hle1 hh.1) ha
    conv => whnf
    refine next_x c b k _ raw[j] h' _ (hraw _ (List.getElem_mem hjr)) (by omega) (fun x hx => by have := hbd x hx; omega) hch ?_
    refine ⟨⟨Hp.le_keep hl1 hb, Hp.le_keep hlg hgb⟩, ?_⟩
    conv => whnf
    refine need_intro ⟨by omega, by rw [hpl]; omega⟩ ?_
    conv => whnf
    refine ⟨_, fun h'' hh => loadH_le hh.2 hap, ?_⟩
    conv => whnf
    have hbeq : (chooseL k (afterL k (List.replicate m 0) (raw.take j)) raw[j] != chooseL k (afterL k (List.replicate m 0) (raw.take j)) raw[j]) = false := by simp
    rw [hbeq]
    conv => whnf
    refine ⟨raw.length - (j + 1), by omega, j + 1, by omega, rfl, ?_, Hp.le_keep hl1 hb, Hp.le_keep hlg hgb, ⟨?_, ?_⟩⟩
    · show [MV.v (.int .i64 (IntKind.i64.wrap (j + 1)))] = _
      rw [IntWalk.i64_in _ (by omega)]; rfl
    · rw [Hp.set_other _ _ hcb, haf, nextW_length]; exact hch.1
    · rw [Hp.set_same, haf]; rfl
  · obtain rfl : j = raw.length := by omega
    rw [List.take_length] at hch
    have hlw := afterL_length k raw (List.replicate m 0)
    have hrp := hr1.le hl1
    have hrw := hr3.le hlg
    have hfine := made_fair (k := k) (n := m) (by omega) (by omega) raw (fun r hr => (hraw r hr).1)
    conv => whnf
    refine ints_eq _ _ _ h' _ (by omega) hrp hrw ?_
    conv => whnf
    refine waits_x c b k _ h' _ (by omega) hch (fun s4 h4 hle4 hr4 => ?_)
    conv => whnf
    refine rwaits_x _ _ m h4 _ (by omega) (by omega) (hrw.le hle4) (fun s5 h5 hle5 hr5 => ?_)
    conv => whnf
    rw [hsame.1] at hr4
    have hcl1 := rd_cells (h := h5) (base := b1) (l := picksL k (List.replicate m 0) raw) fun i x hx => by
      obtain ⟨a, e1, e2⟩ := f1 i x hx
      exact ⟨a, e1, loadH_le (Hp.le_trans hl1 (Hp.le_trans hle4 hle5)) e2⟩
    have hcl2 := rd_cells (h := h5) (base := bp) (l := picksL k (List.replicate m 0) raw) fun i x hx => by
      obtain ⟨a, e1, e2⟩ := fp i x hx
      exact ⟨a, e1, loadH_le (Hp.le_trans hlg (Hp.le_trans hle4 hle5)) e2⟩
    have hall : 1 ≤ (m : Int) ∧ (m : Int) ≤ 8 ∧ 1 ≤ k ∧ okUpto (picksL k (List.replicate m 0) raw) k (m : Int).toNat := ⟨by omega, by omega, by omega, hfine⟩
    refine ints_eq s4 s5 _ h5 _ (by rw [rwaits_length]; omega) (hr4.le hle5) hr5 ?_
    conv => whnf
    refine fair_yes b1 (picksL k (List.replicate m 0) raw) c1 m k h5 _ (by omega) hcl1 hall ?_
    conv => whnf
    refine rfair_yes bp (picksL k (List.replicate m 0) raw) cp m k h5 _ (by omega) hkm hcl2 hall ?_
    conv => whnf
    refine live_x _ _ ?_
    conv => whnf
    exact ⟨h, Hp.le_trans hle1 (Hp.le_trans hl1 (Hp.le_trans hle4 hle5)), hk⟩
theorem makes_x (base : Option Addr) (cap : Nat) (raw : List Int) (n k : Int) (h : Hp) (K : Value → Hp → Prop) (hkm : k ≤ 9223372036854775807) (hraw : ∀ r ∈ raw, 0 ≤ r ∧ r < 256)
    (hrd : ∀ i r, raw[i]? = some r → ∃ a, base = some a ∧ h.cell? (a.add i) = some (.int .u8 r))
    (hk : K (.bool true) h) :
    X Try.prog 4 #[.slice base raw.length cap, .int .i64 n, .int .i64 k] h K := by
  by_cases hbad : n < 1 ∨ 8 < n ∨ k < n
  · exact makes_bad base cap raw n k h K hraw hbad hrd hk
  · obtain ⟨m, rfl⟩ : ∃ m : Nat, n = m := ⟨n.toNat, by omega⟩
    exact makes_good base cap raw m k h K hkm hraw (by omega) (by omega) (by omega) hrd hk
theorem makes_law (base : Option Addr) (cap : Nat) (raw : List Int) (n k : Int) (w : World) (hkm : k ≤ 9223372036854775807) (hraw : ∀ r ∈ raw, 0 ≤ r ∧ r < 256)
    (hrd : ∀ i r, raw[i]? = some r → ∃ a, base = some a ∧ w.cell? (a.add i) = some (.int .u8 r)) :
    Calls Try.prog 4 #[.slice base raw.length cap, .int .i64 n, .int .i64 k] w fun e w' => e = .returned (.bool true) ∧ Below w.heap.size w w' :=
  X.law (makes_x base cap raw n k (whole w) _ hkm hraw (fun i r hi => by
    obtain ⟨a, e1, e2⟩ := hrd i r hi
    exact ⟨a, e1, e2⟩) ⟨rfl, Hp.le_refl _⟩)
end Go.Proofs.Ytnlbgcfobfklpaa
