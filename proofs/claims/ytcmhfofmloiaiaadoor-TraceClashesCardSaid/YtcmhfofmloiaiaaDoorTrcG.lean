/-
  Clashes: whether two events clash.
-/
import Derived.Test.YtcmhfofmloiaiaaDoorTrcF
namespace Go.Proofs.YtcmhfofmloiaiaaDoor
set_option linter.unusedSimpArgs false
set_option linter.unusedVariables false
open Go Go.Mid Go.RowKit
attribute [local irreducible] mid
section
set_option maxHeartbeats 8000000
set_option maxRecDepth 10000
variable {h : Hp} {K : Value → Hp → Prop}
def clashB (a b : Ev) : Bool := decide (0 ≤ a.hart ∧ 0 ≤ b.hart ∧ a.hart ≠ b.hart ∧ ¬ a.to < b.from_ ∧ ¬ b.to < a.from_) && (timedB a && timedB b) && (writesB a.ask a.ans || writesB b.ask b.ans) && meetB a.ask b.ask
theorem clash_x (a b : Ev) (ha : a.ok) (hb : b.ok) (hk : K (.bool (clashB a b)) h) : X Tryd.prog 10 #[.agg a.cs.toArray, .agg b.cs.toArray] h K := by
  refine X.forget ?_
  have hk' : ∀ (h' : Hp) (t : Bool), t = clashB a b → h.le h' → (∃ g : Hp, g.le h' ∧ K (.bool t) g) := fun h' t e hle => ⟨h, hle, e ▸ hk⟩
  clear hk
  unfold clashB at hk'
  refine fnv (args := _) mixed [] [] [] Tryd.func10 rfl (by kernel_rfl) ?_
  conv => whnf
  refine new_intro (o := rowO 42 a.cs) (fun x h1 n_x le_x at_x ot_x => ?_)
  conv => whnf
  refine new_intro (o := rowO 42 b.cs) (fun y h2 n_y le_y at_y ot_y => ?_)
  conv => whnf
  have hle := Hp.le_trans le_x le_y
  have x2 := le_y _ _ at_x
  refine ⟨_, loadC (i := 0) aggIn x2 rfl, ?_⟩
  conv => whnf
  refine bsel_intro (fun q1 => ?_) (fun q1 => ?_) <;> try simp only [decide_eq_true_eq, decide_eq_false_iff_not, beq_iff_eq, beq_eq_false_iff_ne, ne_eq, Bool.not_eq_true', Bool.not_eq_false', bne_iff_ne, bne_eq_false_iff_eq, Bool.not_eq_true, Bool.not_eq_false, Bool.and_eq_true, Bool.or_eq_true, bs_size] at q1
  · conv => whnf
    exact hk' _ _ (by rw [decide_eq_false (fun hh => by omega)]; rfl) hle
  conv => whnf
  refine ⟨_, loadC (i := 0) aggIn at_y rfl, ?_⟩
  conv => whnf
  refine bsel_intro (fun q2 => ?_) (fun q2 => ?_) <;> try simp only [decide_eq_true_eq, decide_eq_false_iff_not, beq_iff_eq, beq_eq_false_iff_ne, ne_eq, Bool.not_eq_true', Bool.not_eq_false', bne_iff_ne, bne_eq_false_iff_eq, Bool.not_eq_true, Bool.not_eq_false, Bool.and_eq_true, Bool.or_eq_true, bs_size] at q2
  · conv => whnf
    exact hk' _ _ (by rw [decide_eq_false (fun hh => by omega)]; rfl) hle
  conv => whnf
  refine ⟨_, loadC (i := 0) aggIn x2 rfl, ?_⟩
  conv => whnf
  refine ⟨_, loadC (i := 0) aggIn at_y rfl, ?_⟩
  conv => whnf
  refine bsel_intro (fun q3 => ?_) (fun q3 => ?_) <;> try simp only [decide_eq_true_eq, decide_eq_false_iff_not, beq_iff_eq, beq_eq_false_iff_ne, ne_eq, Bool.not_eq_true', Bool.not_eq_false', bne_iff_ne, bne_eq_false_iff_eq, Bool.not_eq_true, Bool.not_eq_false, Bool.and_eq_true, Bool.or_eq_true, bs_size] at q3
  · conv => whnf
    exact hk' _ _ (by rw [decide_eq_false (fun hh => by omega)]; rfl) hle
  conv => whnf
  refine ⟨_, loadA0 aggEv sizEv x2 (ev_len a), ?_⟩
  conv => whnf
  refine timed_x a ?_
  conv => whnf
  refine bsel_intro (fun q4 => ?_) (fun q4 => ?_)
  · have q4 : timedB a = false := by simpa using q4
    conv => whnf
    exact hk' _ _ (by rw [q4]; simp) hle
  have q4 : timedB a = true := by simpa using q4
  conv => whnf
  refine ⟨_, loadA0 aggEv sizEv at_y (ev_len b), ?_⟩
  conv => whnf
  refine timed_x b ?_
  conv => whnf
  refine bsel_intro (fun q5 => ?_) (fun q5 => ?_)
  · have q5 : timedB b = false := by simpa using q5
    conv => whnf
    exact hk' _ _ (by rw [q5]; simp) hle
  have q5 : timedB b = true := by simpa using q5
  conv => whnf
  rw [q4, q5] at hk'
  refine ⟨_, loadA0 aggEv sizEv x2 (ev_len a), ?_⟩
  conv => whnf
  refine ewrites_x a ?_
  conv => whnf
  refine bsel_intro (fun q6 => ?_) (fun q6 => ?_)
  · have q6 : writesB a.ask a.ans = false := by simpa using q6
    conv => whnf
    refine ⟨_, loadA0 aggEv sizEv at_y (ev_len b), ?_⟩
    conv => whnf
    refine ewrites_x b ?_
    conv => whnf
    refine bsel_intro (fun q7 => ?_) (fun q7 => ?_)
    · have q7 : writesB b.ask b.ans = false := by simpa using q7
      conv => whnf
      exact hk' _ _ (by rw [q6, q7]; simp) hle
    · have q7 : writesB b.ask b.ans = true := by simpa using q7
      have hw : (writesB a.ask a.ans || writesB b.ask b.ans) = true := by rw [q7, Bool.or_true]
      conv => whnf
      refine ⟨_, loadC (i := 64) aggIn x2 rfl, ?_⟩
      conv => whnf
      refine ⟨_, loadC (i := 62) aggIn at_y rfl, ?_⟩
      conv => whnf
      refine bsel_intro (fun q8 => ?_) (fun q8 => ?_) <;> try simp only [decide_eq_true_eq, decide_eq_false_iff_not, beq_iff_eq, beq_eq_false_iff_ne, ne_eq, Bool.not_eq_true', Bool.not_eq_false', bne_iff_ne, bne_eq_false_iff_eq, Bool.not_eq_true, Bool.not_eq_false, Bool.and_eq_true, Bool.or_eq_true, bs_size] at q8
      · conv => whnf
        exact hk' _ _ (by rw [decide_eq_false (fun hh => by omega)]; rfl) hle
      conv => whnf
      refine ⟨_, loadC (i := 64) aggIn at_y rfl, ?_⟩
      conv => whnf
      refine ⟨_, loadC (i := 62) aggIn x2 rfl, ?_⟩
      conv => whnf
      refine bsel_intro (fun q9 => ?_) (fun q9 => ?_) <;> try simp only [decide_eq_true_eq, decide_eq_false_iff_not, beq_iff_eq, beq_eq_false_iff_ne, ne_eq, Bool.not_eq_true', Bool.not_eq_false', bne_iff_ne, bne_eq_false_iff_eq, Bool.not_eq_true, Bool.not_eq_false, Bool.and_eq_true, Bool.or_eq_true, bs_size] at q9
      · conv => whnf
        exact hk' _ _ (by rw [decide_eq_false (fun hh => by omega)]; rfl) hle
      have q0 : decide (0 ≤ a.hart ∧ 0 ≤ b.hart ∧ a.hart ≠ b.hart ∧ ¬ a.to < b.from_ ∧ ¬ b.to < a.from_) = true := decide_eq_true ⟨by omega, by omega, q3, q8, q9⟩
      rw [q0] at hk'
      conv => whnf
      refine ⟨_, loadP (k := 1) (x := a.ask.cs) aggAk sizAk x2 rfl rfl, ?_⟩
      conv => whnf
      refine ⟨_, loadP (k := 1) (x := b.ask.cs) aggAk sizAk at_y rfl rfl, ?_⟩
      conv => whnf
      refine meet_x a.ask b.ask ha.ask hb.ask ?_
      conv => whnf
      exact hk' _ _ (by simp [hw]) hle
  · have q6 : writesB a.ask a.ans = true := by simpa using q6
    have hw : (writesB a.ask a.ans || writesB b.ask b.ans) = true := by rw [q6, Bool.true_or]
    conv => whnf
    refine ⟨_, loadC (i := 64) aggIn x2 rfl, ?_⟩
    conv => whnf
    refine ⟨_, loadC (i := 62) aggIn at_y rfl, ?_⟩
    conv => whnf
    refine bsel_intro (fun q8 => ?_) (fun q8 => ?_) <;> try simp only [decide_eq_true_eq, decide_eq_false_iff_not, beq_iff_eq, beq_eq_false_iff_ne, ne_eq, Bool.not_eq_true', Bool.not_eq_false', bne_iff_ne, bne_eq_false_iff_eq, Bool.not_eq_true, Bool.not_eq_false, Bool.and_eq_true, Bool.or_eq_true, bs_size] at q8
    · conv => whnf
      exact hk' _ _ (by rw [decide_eq_false (fun hh => by omega)]; rfl) hle
    conv => whnf
    refine ⟨_, loadC (i := 64) aggIn at_y rfl, ?_⟩
    conv => whnf
    refine ⟨_, loadC (i := 62) aggIn x2 rfl, ?_⟩
    conv => whnf
    refine bsel_intro (fun q9 => ?_) (fun q9 => ?_) <;> try simp only [decide_eq_true_eq, decide_eq_false_iff_not, beq_iff_eq, beq_eq_false_iff_ne, ne_eq, Bool.not_eq_true', Bool.not_eq_false', bne_iff_ne, bne_eq_false_iff_eq, Bool.not_eq_true, Bool.not_eq_false, Bool.and_eq_true, Bool.or_eq_true, bs_size] at q9
    · conv => whnf
      exact hk' _ _ (by rw [decide_eq_false (fun hh => by omega)]; rfl) hle
    have q0 : decide (0 ≤ a.hart ∧ 0 ≤ b.hart ∧ a.hart ≠ b.hart ∧ ¬ a.to < b.from_ ∧ ¬ b.to < a.from_) = true := decide_eq_true ⟨by omega, by omega, q3, q8, q9⟩
    rw [q0] at hk'
    conv => whnf
    refine ⟨_, loadP (k := 1) (x := a.ask.cs) aggAk sizAk x2 rfl rfl, ?_⟩
    conv => whnf
    refine ⟨_, loadP (k := 1) (x := b.ask.cs) aggAk sizAk at_y rfl rfl, ?_⟩
    conv => whnf
    refine meet_x a.ask b.ask ha.ask hb.ask ?_
    conv => whnf
    exact hk' _ _ (by simp [hw]) hle
theorem rclash_x (a b : Ev) (ha : a.ok) (hb : b.ok) (hk : K (.bool (clashB a b)) h) : X Tryd.prog 6 #[.agg a.cs.toArray, .agg b.cs.toArray] h K := by
  refine X.forget ?_
  have hk' : ∀ (h' : Hp) (t : Bool), t = clashB a b → h.le h' → (∃ g : Hp, g.le h' ∧ K (.bool t) g) := fun h' t e hle => ⟨h, hle, e ▸ hk⟩
  clear hk
  unfold clashB at hk'
  refine fnv (args := _) mixed [] [] [] Tryd.func6 rfl (by kernel_rfl) ?_
  conv => whnf
  refine new_intro (o := rowO 42 a.cs) (fun x h1 n_x le_x at_x ot_x => ?_)
  conv => whnf
  refine new_intro (o := rowO 42 b.cs) (fun y h2 n_y le_y at_y ot_y => ?_)
  conv => whnf
  have hle := Hp.le_trans le_x le_y
  have x2 := le_y _ _ at_x
  refine ⟨_, loadC (i := 0) aggIn x2 rfl, ?_⟩
  conv => whnf
  refine bsel_intro (fun q1 => ?_) (fun q1 => ?_) <;> try simp only [decide_eq_true_eq, decide_eq_false_iff_not, beq_iff_eq, beq_eq_false_iff_ne, ne_eq, Bool.not_eq_true', Bool.not_eq_false', bne_iff_ne, bne_eq_false_iff_eq, Bool.not_eq_true, Bool.not_eq_false, Bool.and_eq_true, Bool.or_eq_true, bs_size] at q1
  · conv => whnf
    exact hk' _ _ (by rw [decide_eq_false (fun hh => by omega)]; rfl) hle
  conv => whnf
  refine ⟨_, loadC (i := 0) aggIn at_y rfl, ?_⟩
  conv => whnf
  refine bsel_intro (fun q2 => ?_) (fun q2 => ?_) <;> try simp only [decide_eq_true_eq, decide_eq_false_iff_not, beq_iff_eq, beq_eq_false_iff_ne, ne_eq, Bool.not_eq_true', Bool.not_eq_false', bne_iff_ne, bne_eq_false_iff_eq, Bool.not_eq_true, Bool.not_eq_false, Bool.and_eq_true, Bool.or_eq_true, bs_size] at q2
  · conv => whnf
    exact hk' _ _ (by rw [decide_eq_false (fun hh => by omega)]; rfl) hle
  conv => whnf
  refine ⟨_, loadC (i := 0) aggIn x2 rfl, ?_⟩
  conv => whnf
  refine ⟨_, loadC (i := 0) aggIn at_y rfl, ?_⟩
  conv => whnf
  refine bsel_intro (fun q3 => ?_) (fun q3 => ?_) <;> try simp only [decide_eq_true_eq, decide_eq_false_iff_not, beq_iff_eq, beq_eq_false_iff_ne, ne_eq, Bool.not_eq_true', Bool.not_eq_false', bne_iff_ne, bne_eq_false_iff_eq, Bool.not_eq_true, Bool.not_eq_false, Bool.and_eq_true, Bool.or_eq_true, bs_size] at q3
  · conv => whnf
    exact hk' _ _ (by rw [decide_eq_false (fun hh => by omega)]; rfl) hle
  conv => whnf
  refine ⟨_, loadA0 aggEv sizEv x2 (ev_len a), ?_⟩
  conv => whnf
  refine rtimed_x a ?_
  conv => whnf
  refine bsel_intro (fun q4 => ?_) (fun q4 => ?_)
  · have q4 : timedB a = false := by simpa using q4
    conv => whnf
    exact hk' _ _ (by rw [q4]; simp) hle
  have q4 : timedB a = true := by simpa using q4
  conv => whnf
  refine ⟨_, loadA0 aggEv sizEv at_y (ev_len b), ?_⟩
  conv => whnf
  refine rtimed_x b ?_
  conv => whnf
  refine bsel_intro (fun q5 => ?_) (fun q5 => ?_)
  · have q5 : timedB b = false := by simpa using q5
    conv => whnf
    exact hk' _ _ (by rw [q5]; simp) hle
  have q5 : timedB b = true := by simpa using q5
  conv => whnf
  rw [q4, q5] at hk'
  refine ⟨_, loadC (i := 64) aggIn x2 rfl, ?_⟩
  conv => whnf
  refine ⟨_, loadC (i := 62) aggIn at_y rfl, ?_⟩
  conv => whnf
  refine bsel_intro (fun q8 => ?_) (fun q8 => ?_) <;> try simp only [decide_eq_true_eq, decide_eq_false_iff_not, beq_iff_eq, beq_eq_false_iff_ne, ne_eq, Bool.not_eq_true', Bool.not_eq_false', bne_iff_ne, bne_eq_false_iff_eq, Bool.not_eq_true, Bool.not_eq_false, Bool.and_eq_true, Bool.or_eq_true, bs_size] at q8
  · conv => whnf
    exact hk' _ _ (by rw [decide_eq_false (fun hh => by omega)]; rfl) hle
  conv => whnf
  refine ⟨_, loadC (i := 64) aggIn at_y rfl, ?_⟩
  conv => whnf
  refine ⟨_, loadC (i := 62) aggIn x2 rfl, ?_⟩
  conv => whnf
  refine bsel_intro (fun q9 => ?_) (fun q9 => ?_) <;> try simp only [decide_eq_true_eq, decide_eq_false_iff_not, beq_iff_eq, beq_eq_false_iff_ne, ne_eq, Bool.not_eq_true', Bool.not_eq_false', bne_iff_ne, bne_eq_false_iff_eq, Bool.not_eq_true, Bool.not_eq_false, Bool.and_eq_true, Bool.or_eq_true, bs_size] at q9
  · conv => whnf
    exact hk' _ _ (by rw [decide_eq_false (fun hh => by omega)]; rfl) hle
  have q0 : decide (0 ≤ a.hart ∧ 0 ≤ b.hart ∧ a.hart ≠ b.hart ∧ ¬ a.to < b.from_ ∧ ¬ b.to < a.from_) = true := decide_eq_true ⟨by omega, by omega, q3, q8, q9⟩
  rw [q0] at hk'
  conv => whnf
  refine ⟨_, loadP (k := 1) (x := a.ask.cs) aggAk sizAk x2 rfl rfl, ?_⟩
  conv => whnf
  refine ⟨_, loadP (k := 20) (x := a.ans.cs) aggAn sizAn x2 rfl rfl, ?_⟩
  conv => whnf
  refine rwrites_x a.ask a.ans ?_
  conv => whnf
  refine bsel_intro (fun q6 => ?_) (fun q6 => ?_)
  · have q6 : writesB a.ask a.ans = false := by simpa using q6
    conv => whnf
    refine ⟨_, loadP (k := 1) (x := b.ask.cs) aggAk sizAk at_y rfl rfl, ?_⟩
    conv => whnf
    refine ⟨_, loadP (k := 20) (x := b.ans.cs) aggAn sizAn at_y rfl rfl, ?_⟩
    conv => whnf
    refine rwrites_x b.ask b.ans ?_
    conv => whnf
    refine bsel_intro (fun q7 => ?_) (fun q7 => ?_)
    · have q7 : writesB b.ask b.ans = false := by simpa using q7
      conv => whnf
      exact hk' _ _ (by rw [q6, q7]; simp) hle
    · have q7 : writesB b.ask b.ans = true := by simpa using q7
      have hw : (writesB a.ask a.ans || writesB b.ask b.ans) = true := by rw [q7, Bool.or_true]
      conv => whnf
      refine ⟨_, loadP (k := 1) (x := a.ask.cs) aggAk sizAk x2 rfl rfl, ?_⟩
      conv => whnf
      refine rlines_x a.ask ha.ask fun s h3 hO => ?_
      obtain ⟨base, cap, rfl, f⟩ := rdU (hO.rd aggU)
      have y3 := hO.le _ _ at_y
      have hle3 := Hp.le_trans hle hO.le
      have hla := linesA_len a.ask ha.ask
      have hm : meetB a.ask b.ask = decide (∃ v ∈ linesA a.ask, decide (v ∈ linesA b.ask) = true) := rfl
      generalize linesA a.ask = L at *
      conv => whnf
      refine loop_at [6] [] (fun r vs cs h' => h3.le h' ∧ ∃ i : Nat, i ≤ L.length ∧ r = L.length - i ∧ vs = [.v (.int .i64 i)] ∧ ∀ j x, j < i → L[j]? = some x → x ∉ linesA b.ask) L.length ⟨Hp.le_refl _, 0, by omega, by omega, rfl, fun j x hj => by omega⟩ ?_
      rintro r vs cs mm bx h4 ⟨le4, i, hi, rfl, rfl, hg⟩
      have y4 := le4 _ _ y3
      conv => whnf
      refine bsel_intro (fun qi => ?_) (fun qi => ?_) <;> try simp only [decide_eq_true_eq, decide_eq_false_iff_not, beq_iff_eq, beq_eq_false_iff_ne, ne_eq, Bool.not_eq_true', Bool.not_eq_false', bne_iff_ne, bne_eq_false_iff_eq, Bool.not_eq_true, Bool.not_eq_false, Bool.and_eq_true, Bool.or_eq_true, bs_size] at qi
      · have hiL : i < L.length := by omega
        obtain ⟨z, hz⟩ : ∃ z, L[i]? = some z := ⟨_, List.getElem?_eq_getElem hiL⟩
        obtain ⟨a3, rfl, e2⟩ := f i z hz
        have e3 := loadH_le le4 e2
        conv => whnf
        refine ⟨_, loadP (k := 1) (x := b.ask.cs) aggAk sizAk y4 rfl rfl, ?_⟩
        conv => whnf
        first | refine need_intro (⟨by omega, by omega⟩) ?_ | refine must.mk (⟨by omega, by omega⟩) ?_
        conv => whnf
        refine ⟨_, e3, ?_⟩
        conv => whnf
        refine touches_x b.ask hb.ask z ?_
        refine ⟨trivial, ?_⟩
        conv => whnf
        refine bsel_intro (fun qt => ?_) (fun qt => ?_)
        · have qt := of_decide_eq_true qt
          conv => whnf
          exact hk' _ _ (by rw [hw, hm, decide_eq_true ⟨z, List.mem_of_getElem? hz, decide_eq_true qt⟩]; rfl) (Hp.le_trans hle3 le4)
        · have qt := of_decide_eq_false qt
          conv => whnf
          first | refine ov_i64 (by omega) ?_ | refine ov_u64 (by omega) ?_ | refine ov_i64 (by decide) ?_ | refine ov_u64 (by decide) ?_ | refine ov_u8 (by omega) ?_ | refine ov_i32 (by omega) ?_ | refine ov_u32 (by omega) ?_
          conv => whnf
          refine ⟨L.length - (i + 1), by omega, le4, i + 1, by omega, rfl, rfl, fun j y hj hy => ?_⟩
          by_cases e : j = i
          · subst e; rw [hz] at hy; cases hy; exact qt
          · exact hg j y (by omega) hy
      · conv => whnf
        exact hk' _ _ (by
          rw [hm, decide_eq_false (fun ⟨v, hv, hv2⟩ => by
            obtain ⟨j, hj, e⟩ := List.getElem_of_mem hv
            exact hg j v (by omega) (by rw [List.getElem?_eq_getElem hj, e]) (of_decide_eq_true hv2)), Bool.and_false]) (Hp.le_trans hle3 le4)
  · have q6 : writesB a.ask a.ans = true := by simpa using q6
    have hw : (writesB a.ask a.ans || writesB b.ask b.ans) = true := by rw [q6, Bool.true_or]
    conv => whnf
    refine ⟨_, loadP (k := 1) (x := a.ask.cs) aggAk sizAk x2 rfl rfl, ?_⟩
    conv => whnf
    refine rlines_x a.ask ha.ask fun s h3 hO => ?_
    obtain ⟨base, cap, rfl, f⟩ := rdU (hO.rd aggU)
    have y3 := hO.le _ _ at_y
    have hle3 := Hp.le_trans hle hO.le
    have hla := linesA_len a.ask ha.ask
    have hm : meetB a.ask b.ask = decide (∃ v ∈ linesA a.ask, decide (v ∈ linesA b.ask) = true) := rfl
    generalize linesA a.ask = L at *
    conv => whnf
    refine loop_at [6] [] (fun r vs cs h' => h3.le h' ∧ ∃ i : Nat, i ≤ L.length ∧ r = L.length - i ∧ vs = [.v (.int .i64 i)] ∧ ∀ j x, j < i → L[j]? = some x → x ∉ linesA b.ask) L.length ⟨Hp.le_refl _, 0, by omega, by omega, rfl, fun j x hj => by omega⟩ ?_
    rintro r vs cs mm bx h4 ⟨le4, i, hi, rfl, rfl, hg⟩
    have y4 := le4 _ _ y3
    conv => whnf
    refine bsel_intro (fun qi => ?_) (fun qi => ?_) <;> try simp only [decide_eq_true_eq, decide_eq_false_iff_not, beq_iff_eq, beq_eq_false_iff_ne, ne_eq, Bool.not_eq_true', Bool.not_eq_false', bne_iff_ne, bne_eq_false_iff_eq, Bool.not_eq_true, Bool.not_eq_false, Bool.and_eq_true, Bool.or_eq_true, bs_size] at qi
    · have hiL : i < L.length := by omega
      obtain ⟨z, hz⟩ : ∃ z, L[i]? = some z := ⟨_, List.getElem?_eq_getElem hiL⟩
      obtain ⟨a3, rfl, e2⟩ := f i z hz
      have e3 := loadH_le le4 e2
      conv => whnf
      refine ⟨_, loadP (k := 1) (x := b.ask.cs) aggAk sizAk y4 rfl rfl, ?_⟩
      conv => whnf
      first | refine need_intro (⟨by omega, by omega⟩) ?_ | refine must.mk (⟨by omega, by omega⟩) ?_
      conv => whnf
      refine ⟨_, e3, ?_⟩
      conv => whnf
      refine touches_x b.ask hb.ask z ?_
      refine ⟨trivial, ?_⟩
      conv => whnf
      refine bsel_intro (fun qt => ?_) (fun qt => ?_)
      · have qt := of_decide_eq_true qt
        conv => whnf
        exact hk' _ _ (by rw [hw, hm, decide_eq_true ⟨z, List.mem_of_getElem? hz, decide_eq_true qt⟩]; rfl) (Hp.le_trans hle3 le4)
      · have qt := of_decide_eq_false qt
        conv => whnf
        first | refine ov_i64 (by omega) ?_ | refine ov_u64 (by omega) ?_ | refine ov_i64 (by decide) ?_ | refine ov_u64 (by decide) ?_ | refine ov_u8 (by omega) ?_ | refine ov_i32 (by omega) ?_ | refine ov_u32 (by omega) ?_
        conv => whnf
        refine ⟨L.length - (i + 1), by omega, le4, i + 1, by omega, rfl, rfl, fun j y hj hy => ?_⟩
        by_cases e : j = i
        · subst e; rw [hz] at hy; cases hy; exact qt
        · exact hg j y (by omega) hy
    · conv => whnf
      exact hk' _ _ (by
        rw [hm, decide_eq_false (fun ⟨v, hv, hv2⟩ => by
          obtain ⟨j, hj, e⟩ := List.getElem_of_mem hv
          exact hg j v (by omega) (by rw [List.getElem?_eq_getElem hj, e]) (of_decide_eq_true hv2)), Bool.and_false]) (Hp.le_trans hle3 le4)
end
end Go.Proofs.YtcmhfofmloiaiaaDoor
