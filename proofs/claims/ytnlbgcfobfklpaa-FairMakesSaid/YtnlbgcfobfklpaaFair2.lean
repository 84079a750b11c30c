/-
  Whether picks are fair, as the document tells it.
-/
import Derived.Test.YtnlbgcfobfklpaaFair1
namespace Go.Proofs.Ytnlbgcfobfklpaa
open Go Go.Mid Go.RowKit
attribute [local irreducible] X MLoop mid
/-- h is among the picks from 'from' up to 'upto' -/
def among (l : List Int) (h : Int) (a b : Nat) : Prop := ∃ i, a ≤ i ∧ i < b ∧ l.getD i 0 = h
def okWin (l : List Int) (n : Nat) (k : Nat) (m : Nat) : Prop := ∀ a, a < m → ∀ h : Nat, h < n → among l h a (a + k)
set_option maxRecDepth 10000 in
theorem rfair_x (base : Option Addr) (l : List Int) (cap : Nat) (n k : Int) (h : Hp) (K : Value → Hp → Prop) (hlen : l.length ≤ 2 ^ 20) (hkb : k ≤ 9223372036854775807)
    (hc : ∀ i, i < l.length → ∃ a, base = some a ∧ h.cell? (a.add i) = some (.int .i64 (l.getD i 0)))
    (hk : ∀ b : Bool, (b = true ↔ 1 ≤ n ∧ n ≤ 8 ∧ 1 ≤ k ∧ okWin l n.toNat k.toNat ((l.length : Int) - k + 1).toNat) → K (.bool b) h) :
    X Try.prog 7 #[.slice base l.length cap, .int .i64 n, .int .i64 k] h K := by
  refine fnv (args := [.slice base l.length cap, .int .i64 n, .int .i64 k]) mixed [] [] [] Try.func7 rfl (by kernel_rfl) ?_
  conv => whnf
  refine bsel_intro (fun h1 => ?_) (fun h1 => ?_)
  · conv => whnf
    exact hk false (by simp at h1; simp; omega)
  conv => whnf
  refine bsel_intro (fun h2 => ?_) (fun h2 => ?_)
  · conv => whnf
    exact hk false (by simp at h2; simp; omega)
  conv => whnf
  refine bsel_intro (fun h3 => ?_) (fun h3 => ?_)
  · conv => whnf
    exact hk false (by simp at h3; simp; omega)
  simp only [decide_eq_false_iff_not] at h1 h2 h3
  conv => whnf
  have hw0 : IntKind.i64.wrap ((l.length : Int) - k) = (l.length : Int) - k := IntWalk.i64_in _ (by omega)
  refine loop_at [7] [] (fun r vs _ h' => h = h' ∧ ∃ m : Nat, m ≤ ((l.length : Int) - k + 1).toNat ∧ r = ((l.length : Int) - k + 1).toNat - m ∧ vs = [.v (.int .i64 m)] ∧ okWin l n.toNat k.toNat m) ((l.length : Int) - k + 1).toNat ⟨rfl, 0, by omega, by omega, rfl, fun m' hm' => by omega⟩ ?_
  rintro r vs cs mm bx _ ⟨rfl, m, hm, rfl, rfl, hok⟩
  conv => whnf
  refine bsel_intro (fun h4 => ?_) (fun h4 => ?_)
  · simp only [decide_eq_true_eq, hw0] at h4
    conv => whnf
    refine loop_at [8] [] (fun r vs _ h' => h = h' ∧ ∃ j : Nat, j ≤ n.toNat ∧ r = n.toNat - j ∧ vs = [.v (.int .i64 j)] ∧ ∀ g : Nat, g < j → among l g m (m + k.toNat)) n.toNat
      ⟨rfl, 0, by omega, by omega, rfl, fun g hg => by omega⟩ ?_
    rintro r vs cs mm2 bx2 _ ⟨rfl, j, hj, rfl, rfl, hg⟩
    conv => whnf
    refine bsel_intro (fun h5 => ?_) (fun h5 => ?_)
    · simp only [decide_eq_true_eq] at h5
      conv => whnf
      have hw1 : IntKind.i64.wrap ((m : Int) + k) = (m : Int) + k := IntWalk.i64_in _ (by omega)
      refine loop_at [10, 9] [] (fun r vs _ h' => h = h' ∧ ∃ i : Nat, m ≤ i ∧ i ≤ m + k.toNat ∧ r = m + k.toNat - i ∧ ∃ f : Bool, vs = [.v (.int .i64 i), .v (.bool f)] ∧ (f = true ↔ among l j m i)) k.toNat
        ⟨rfl, m, by omega, by omega, by omega, false, rfl, by simp [among]; intro i h1 h2; omega⟩ ?_
      rintro r vs cs mm3 bx3 _ ⟨rfl, i, hi1, hi2, rfl, f, rfl, hf⟩
      conv => whnf
      refine bsel_intro (fun h6 => ?_) (fun h6 => ?_)
      · simp only [decide_eq_true_eq, hw1] at h6
        conv => whnf
        have hsn : among l j m (i + 1) ↔ among l j m i ∨ l.getD i 0 = j := by
          unfold among
          constructor
          · rintro ⟨q, q1, q2, q3⟩
            by_cases hq : q = i
            · subst hq; exact .inr q3
            · exact .inl ⟨q, q1, by omega, q3⟩
          · rintro (⟨q, q1, q2, q3⟩ | q3)
            · exact ⟨q, q1, by omega, q3⟩
            · exact ⟨i, hi1, by omega, q3⟩
        obtain ⟨x, rfl, hcx⟩ := hc i (by omega)
        cases f
        · conv => whnf
          refine need_intro ⟨by omega, by omega⟩ ?_
          conv => whnf
          refine ⟨.int .i64 (l.getD i 0), ?_, ?_⟩
          · show loadH Try.prog 3 h (x.add (i * 1)) = _
            rw [cellH, Nat.mul_one]; exact hcx
          conv => whnf
          refine ⟨m + k.toNat - (i + 1), by omega, rfl, i + 1, by omega, by omega, by omega, (l.getD i 0 == (j : Int)), ?_, ?_⟩
          · show [MV.v _, MV.v _] = _
            congr 1
            exact vint (IntWalk.i64_in _ (by omega))
          · rw [hsn]; simp at hf ⊢; intro q; exact absurd q hf
        · conv => whnf
          refine ⟨m + k.toNat - (i + 1), by omega, rfl, i + 1, by omega, by omega, by omega, true, ?_, ?_⟩
          · show [MV.v _, MV.v _] = _
            congr 1
            exact vint (IntWalk.i64_in _ (by omega))
          · rw [hsn]; simp at hf ⊢; exact .inl hf
      · simp only [decide_eq_false_iff_not, hw1] at h6
        obtain rfl : i = m + k.toNat := by omega
        conv => whnf
        cases f
        · conv => whnf
          refine hk false ⟨fun hh => (by cases hh), fun hh => ?_⟩
          exact absurd (hh.2.2.2 m (by omega) j (by omega)) (by simpa using hf)
        · conv => whnf
          refine ⟨n.toNat - (j + 1), by omega, rfl, j + 1, by omega, rfl, ?_, fun g hg' => ?_⟩
          · show [MV.v _] = _
            congr 1
            exact vint (IntWalk.i64_in _ (by omega))
          · by_cases hgj : g = j
            · subst hgj; exact hf.1 rfl
            · exact hg g (by omega)
    · simp only [decide_eq_false_iff_not] at h5
      obtain rfl : j = n.toNat := by omega
      conv => whnf
      refine ⟨((l.length : Int) - k + 1).toNat - (m + 1), by omega, rfl, m + 1, by omega, rfl, ?_, fun m' hm' g hg' => ?_⟩
      · show [MV.v _] = _
        congr 1
        exact vint (IntWalk.i64_in _ (by omega))
      · by_cases hmm : m' = m
        · subst hmm; exact hg g hg'
        · exact hok m' (by omega) g hg'
  · simp only [decide_eq_false_iff_not, hw0] at h4
    obtain rfl : m = ((l.length : Int) - k + 1).toNat := by omega
    conv => whnf
    exact hk true ⟨fun _ => ⟨by omega, by omega, by omega, hok⟩, fun _ => rfl⟩
end Go.Proofs.Ytnlbgcfobfklpaa
