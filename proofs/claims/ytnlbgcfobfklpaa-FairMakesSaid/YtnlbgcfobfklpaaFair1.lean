/-
  Whether picks are fair (package fair), over the middle layer.
-/
import Derived.Test.YtnlbgcfobfklpaaMidV
import Derived.Test.YtnlbgcfobfklpaaProg
import Derived.KernelRfl
import Derived.IntWalk
namespace Go.Proofs.Ytnlbgcfobfklpaa
open Go Go.Mid Go.RowKit
attribute [local irreducible] X MLoop mid
theorem mixed : Try.prog.follows .mixedOrders = true := by kernel_rfl
theorem cellH (h : Hp) (a : Addr) : loadH Try.prog 3 h a = h.cell? a := by
  have : isAggT Try.prog 3 = some false := by kernel_rfl
  unfold loadH; rw [this]
/-- how long since h -/
def gone (h : Int) (l : List Int) : Nat := l.foldl (fun g p => if p = h then 0 else g + 1) 0
theorem gone_snoc (h : Int) (l : List Int) (j : Nat) (hj : j < l.length) : gone h (l.take (j + 1)) = if l.getD j 0 = h then 0 else gone h (l.take j) + 1 := by
  unfold gone
  rw [List.take_succ_eq_append_getElem hj, List.foldl_append]
  simp [hj]
theorem gone_le (h : Int) : ∀ (l : List Int), gone h l ≤ l.length := by
  intro l
  have : ∀ (l : List Int) (g : Nat), l.foldl (fun g p => if p = h then 0 else g + 1) g ≤ g + l.length := by
    intro l
    induction l with
    | nil => intro g; simp
    | cons p l ih => intro g; simp only [List.foldl_cons, List.length_cons]; have h1 := ih 0; have h2 := ih (g + 1); split <;> omega
  have := this l 0
  unfold gone; omega
def okUpto (l : List Int) (k : Int) (m : Nat) : Prop := ∀ m' : Nat, m' < m → ∀ j, j ≤ l.length → (gone m' (l.take j) : Int) < k
theorem vint {a b : Int} (h : a = b) : MV.v (.int .i64 a) = MV.v (.int .i64 b) := by rw [h]
set_option maxRecDepth 10000 in
theorem fair_x (base : Option Addr) (l : List Int) (cap : Nat) (n k : Int) (h : Hp) (K : Value → Hp → Prop) (hlen : l.length ≤ 2 ^ 20)
    (hc : ∀ i, i < l.length → ∃ a, base = some a ∧ h.cell? (a.add i) = some (.int .i64 (l.getD i 0)))
    (hk : ∀ b : Bool, (b = true ↔ 1 ≤ n ∧ n ≤ 8 ∧ 1 ≤ k ∧ okUpto l k n.toNat) → K (.bool b) h) :
    X Try.prog 6 #[.slice base l.length cap, .int .i64 n, .int .i64 k] h K := by
  refine fnv (args := [.slice base l.length cap, .int .i64 n, .int .i64 k]) mixed [] [] [] Try.func6 rfl (by kernel_rfl) ?_
  conv => whnf
  refine bsel_intro (fun h1 => ?_) (fun h1 => ?_)
  · conv => whnf
    exact hk false (by simp at h1; simp; omega)
  conv => whnf
  refine bsel_intro (fun h2 => ?_) (fun h2 => ?_)
  · conv => whnf
    exact hk false (by simp at h2; simp; omega)
  conv => whnf
  refine bsel_intro (fun h3 => ?_) (fun h3 => ?_)
  · conv => whnf
    exact hk false (by simp at h3; simp; omega)
  simp only [decide_eq_false_iff_not] at h1 h2 h3
  conv => whnf
  refine loop_at [22] [] (fun r vs _ h' => h = h' ∧ ∃ m : Nat, m ≤ n.toNat ∧ r = n.toNat - m ∧ vs = [.v (.int .i64 m)] ∧ okUpto l k m) n.toNat ⟨rfl, 0, by omega, by omega, rfl, fun m' hm' => by omega⟩ ?_
  rintro r vs cs mm bx _ ⟨rfl, m, hm, rfl, rfl, hok⟩
  conv => whnf
  refine bsel_intro (fun h4 => ?_) (fun h4 => ?_)
  · simp only [decide_eq_true_eq] at h4
    conv => whnf
    refine loop_at [27, 8] [] (fun r vs _ h' => h = h' ∧ ∃ j : Nat, j ≤ l.length ∧ r = l.length - j ∧ vs = [.v (.int .i64 j), .v (.int .i64 (gone m (l.take j)))] ∧ ∀ j', j' ≤ j → (gone m (l.take j') : Int) < k) l.length
      ⟨rfl, 0, by omega, by omega, rfl, fun j' hj' => by obtain rfl : j' = 0 := by omega
                                                         simp [gone]; omega⟩ ?_
    rintro r vs cs mm2 bx2 _ ⟨rfl, j, hj, rfl, rfl, hg⟩
    conv => whnf
    refine bsel_intro (fun h5 => ?_) (fun h5 => ?_)
    · simp only [decide_eq_true_eq] at h5
      obtain ⟨x, rfl, hcx⟩ := hc j (by omega)
      conv => whnf
      refine need_intro ⟨by omega, by omega⟩ ?_
      conv => whnf
      refine ⟨.int .i64 (l.getD j 0), ?_, ?_⟩
      · show loadH Try.prog 3 h (x.add (j * 1)) = _
        rw [cellH, Nat.mul_one]; exact hcx
      have hsn := gone_snoc m l j (by omega)
      have hgl := gone_le m (l.take j)
      rw [List.length_take] at hgl
      conv => whnf
      refine bsel_intro (fun h6 => ?_) (fun h6 => ?_)
      · simp only [beq_iff_eq] at h6
        conv => whnf
        rw [if_pos h6] at hsn
        refine bsel_intro (fun h7 => ?_) (fun h7 => ?_)
        · simp only [decide_eq_true_eq] at h7
          omega
        conv => whnf
        refine ⟨l.length - (j + 1), by omega, rfl, j + 1, by omega, rfl, ?_, fun j' hj' => ?_⟩
        · show [MV.v _, MV.v _] = _
          rw [hsn]
          congr 1
          exact vint (IntWalk.i64_in _ (by omega))
        · by_cases hjj : j' = j + 1
          · subst hjj; rw [hsn]; omega
          · exact hg j' (by omega)
      · simp only [beq_eq_false_iff_ne, ne_eq] at h6
        conv => whnf
        rw [if_neg h6] at hsn
        have hw : IntKind.i64.wrap ((gone m (l.take j) : Int) + 1) = (gone m (l.take j) : Int) + 1 := IntWalk.i64_in _ (by omega)
        refine bsel_intro (fun h7 => ?_) (fun h7 => ?_)
        · simp only [decide_eq_true_eq, hw] at h7
          conv => whnf
          refine hk false ⟨fun hh => (by cases hh), fun hh => ?_⟩
          have := hh.2.2.2 m (by omega) (j + 1) (by omega)
          rw [hsn] at this; omega
        simp only [decide_eq_false_iff_not, hw] at h7
        conv => whnf
        refine ⟨l.length - (j + 1), by omega, rfl, j + 1, by omega, rfl, ?_, fun j' hj' => ?_⟩
        · show [MV.v _, MV.v _] = _
          rw [hsn]
          congr 1
          · exact vint (IntWalk.i64_in _ (by omega))
          · congr 1
            exact vint hw
        · by_cases hjj : j' = j + 1
          · subst hjj; rw [hsn]; omega
          · exact hg j' (by omega)
    · simp only [decide_eq_false_iff_not] at h5
      obtain rfl : j = l.length := by omega
      conv => whnf
      refine ⟨n.toNat - (m + 1), by omega, rfl, m + 1, by omega, rfl, ?_, fun m' hm' j' hj' => ?_⟩
      · show [MV.v _] = _
        congr 1
        exact vint (IntWalk.i64_in _ (by omega))
      · by_cases hmm : m' = m
        · subst hmm; exact hg j' hj'
        · exact hok m' (by omega) j' hj'
  · simp only [decide_eq_false_iff_not] at h4
    obtain rfl : m = n.toNat := by omega
    conv => whnf
    exact hk true ⟨fun _ => ⟨by omega, by omega, by omega, hok⟩, fun _ => rfl⟩
end Go.Proofs.Ytnlbgcfobfklpaa
