/-
  Sorting of heats: SortFunc.
-/
import Derived.Test.YtciagjfemgfhgaaGreatDoorPdqI
namespace Go.Proofs.YtciagjfemgfhgaaGreatDoor
set_option linter.unusedSimpArgs false
set_option linter.unusedVariables false
open Go Go.Mid Go.RowKit
open Go.Sort (PermIn SortedIn SWO pdq)
attribute [local irreducible] mid
section
variable {α : Type} [Inhabited α] {lt : α → α → Bool}
theorem perm_list {d d' : Array α} (p : PermIn 0 d.size d d') : d'.toList.Perm d.toList := by
  obtain ⟨h1, _, h3⟩ := p
  have e1 : d.extract 0 d.size = d := by simp
  have e2 : d'.extract 0 d.size = d' := by rw [← h1]; simp
  rw [e1, e2] at h3
  exact h3
theorem sorted_list {d : Array α} {n : Nat} (hn : d.size = n) (s : SortedIn lt 0 n d) : d.toList.Pairwise (fun x z => lt z x = false) := by
  rw [List.pairwise_iff_getElem]
  intro i j hi hj hij
  have := s i j (Nat.zero_le _) hij (by rw [← hn]; simpa using hj)
  rw [getElem!_pos d i (by simpa using hi), getElem!_pos d j (by simpa using hj)] at this
  simpa using this
end
section
set_option maxHeartbeats 8000000
set_option maxRecDepth 10000
variable {h : Hp} {K : Value → Hp → Prop}
variable {α : Type} [Inhabited α]
variable {enc : α → List Value} {lt : α → α → Bool} {y : Value}
theorem insertionE0_x (base : Option Addr) (cap : Nat) (hk : K (.tuple #[]) h) : X Tryz.prog 66 #[.slice base 0 cap, .int .i64 0, .int .i64 0, y] h K := by
  refine fnv (args := _) mixed [] [] [] Tryz.func66 rfl (by kernel_rfl) ?_; conv => whnf
  (first | refine ov_c (by simp only [loK, hiK]; omega) ?_ | refine ov_c (by decide) ?_); conv => whnf
  refine loop_step ?_; conv => whnf
  exact hk
theorem pdqE0_x (base : Option Addr) (cap : Nat) (lim : Int) (hk : K (.tuple #[]) h) : X Tryz.prog 48 #[.slice base 0 cap, .int .i64 0, .int .i64 0, .int .i64 lim, y] h K := by
  refine fnv (args := _) mixed [] [] [] Tryz.func48 rfl (by kernel_rfl) ?_; conv => whnf
  refine loop_step ?_; conv => whnf
  (first | refine ov_c (by simp only [loK, hiK]; omega) ?_ | refine ov_c (by decide) ?_); conv => whnf
  refine insertionE0_x base cap ?_
  conv => whnf
  exact hk
/-- slices.SortFunc of heats of one's own. -/
theorem sortE_x (S : Srt1 enc lt y) (W : SWO lt) {k : Hp} {s : Value} {L : List α} (hO : Owns k h 50 16 s L.length (L.flatMap enc)) (hL : L.length < 2 ^ 30)
    (hk : ∀ (L' : List α) (h' : Hp), L'.Perm L → L'.Pairwise (fun x z => lt z x = false) → Owns k h' 50 16 s L'.length (L'.flatMap enc) → K (.tuple #[]) h') : X Tryz.prog 30 #[s, y] h K := by
  by_cases hn : L = []
  · subst hn
    obtain ⟨a, c, rfl⟩ := hO.shape
    refine fnv (args := _) mixed [] [] [] Tryz.func30 rfl (by kernel_rfl) ?_; conv => whnf
    (first | refine ov_c (by simp only [loK, hiK]; omega) ?_ | refine ov_c (by decide) ?_); conv => whnf
    refine blenN_x 0 (by decide) ?_
    conv => whnf
    refine pdqE0_x a c _ ?_
    conv => whnf
    exact hk [] h (List.Perm.refl _) List.Pairwise.nil hO
  · have hpos : 0 < L.length := List.length_pos_iff.2 hn
    obtain ⟨ob, g, hle, hno⟩ := hO
    obtain ⟨hl, ⟨_, _, e⟩ | ⟨b, cap, rest, rfl, rfl, hcap, hrest, hb⟩⟩ := g
    · omega
    have hkb := hno b rfl
    have hlim : Go.Sort.bitsLen L.length ≤ 64 := Nat.le_trans ((Go.Sort.bitsLen_le_iff L.length 30).2 hL) (by decide)
    have hb' : h b = some (RowD 50 enc L.toArray rest) := hb
    have P := Go.Sort.pdq_sorts lt W L.toArray 0 L.length (Go.Sort.bitsLen L.length) true true (Nat.zero_le _) (by simp) (Or.inl rfl)
    refine fnv (args := _) mixed [] [] [] Tryz.func30 rfl (by kernel_rfl) ?_; conv => whnf
    (first | refine ov_c (by simp only [loK, hiK]; omega) ?_ | refine ov_c (by decide) ?_); conv => whnf
    refine blenN_x L.length hL ?_
    conv => whnf
    refine pdqE_x S W hL hcap L.length 0 L.length (Go.Sort.bitsLen L.length) (by omega) hb' (by simp) (Nat.zero_le _) (Nat.le_refl _) hlim (Or.inl rfl) fun h' hb2 k2 => ?_
    generalize pdq lt L.toArray 0 L.length (Go.Sort.bitsLen L.length) true true = d at *
    have hsz : d.size = L.length := by rw [P.1.1]; simp
    have hln : d.toList.length = L.length := by simp [hsz]
    have hp : d.toList.Perm L := perm_list (by simpa using P.1)
    conv => whnf
    refine hk d.toList h' hp (sorted_list hsz P.2) ⟨some b, ⟨?_, .inr ⟨b, cap, rest, rfl, ?_, ?_, ?_, hb2⟩⟩, fun c o e => k2 c o (fun hc => by subst hc; rw [hkb] at e; cases e) (hle _ _ e), hno⟩
    · rw [flat_length S.len]
    · rw [hln]
    · rw [hln]; exact hcap
    · rw [hln]; exact hrest
end
end Go.Proofs.YtciagjfemgfhgaaGreatDoor
