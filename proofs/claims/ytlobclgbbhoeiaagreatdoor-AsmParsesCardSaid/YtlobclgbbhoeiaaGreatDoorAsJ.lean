/-
  Instructions as text: the instruction of a line (under way).
-/
import Derived.Test.YtlobclgbbhoeiaaGreatDoorAsI
import Derived.Test.YtlobclgbbhoeiaaGreatDoorLibQ
namespace Go.Proofs.YtlobclgbbhoeiaaGreatDoor
set_option linter.unusedSimpArgs false
set_option linter.unusedVariables false
open Go Go.Mid Go.RowKit
attribute [local irreducible] mid
section
set_option maxHeartbeats 8000000
set_option maxRecDepth 10000
variable {h : Hp} {K : Value → Hp → Prop} {E : List PanicEntry → Hp → Prop}
/-- It returns: what was deferred recovers nothing. -/
theorem dl_ret {a b : Nat} {args : Array Value} {KK : FrameMode → Hp → Prop} (ea : args = #[.pointer (some ⟨a, 0, none⟩), .pointer (some ⟨b, 0, none⟩)]) (hk : KK .returning h) :
    callable Tryz.prog 37 = true ∧ XD Tryz.prog 37 args .returning h fun u' h' => settle u' ≠ .run ∧ KK (settle u') h' :=
  ⟨by kernel_rfl, XD.arg ea (parse1_ret ⟨settle_ret, hk⟩)⟩
/-- It panics with a stop: that is recovered. -/
theorem dl_pan {a b : Nat} {args : Array Value} {xl : List Value} {ev : Value} {n : Int} {KK : FrameMode → Hp → Prop} (ea : args = #[.pointer (some ⟨a, 0, none⟩), .pointer (some ⟨b, 0, none⟩)]) (hab : a ≠ b) (hx : h a = some (oIn xl)) (he : h b = some (rowO 26 [ev])) (hxs : xl.length = 8)
    (hk : ∀ h', h' a = some (oIn insn0) → h' b = some (oEr n) → (∀ c, c ≠ a → c ≠ b → h' c = h c) → KK .returning h') :
    callable Tryz.prog 37 = true ∧ XD Tryz.prog 37 args (.panicking [{ v := stopV n, recovered := false }]) h fun u' h' => settle u' ≠ .run ∧ KK (settle u') h' :=
  ⟨by kernel_rfl, XD.arg ea (parse1_pan (r := []) hab hx he hxs fun h' a1 b1 o1 => by
    rw [settle_rec (v := stopV n) (r := []) rfl]
    exact ⟨by simp, hk h' a1 b1 o1⟩)⟩
abbrev zv (n : Int) : Value := .int .i64 n
theorem sp_first (s : Str) : ∃ w r, sp [32] s = w :: r := by
  cases h : sp [32] s with
  | nil => exact absurd h (sp_ne _ _)
  | cons w r => exact ⟨w, r, rfl⟩
theorem sp_length (sep s : Str) (hs : sep ≠ []) : (sp sep s).length ≤ s.length + 1 := by
  rw [sp_len sep s hs]
  have h1 : 1 ≤ (bs sep).size := by rw [bs_size]; exact List.length_pos_iff.2 hs
  have := Lib.countB_le (bs sep) h1 _ (bs s) (Nat.le_refl _)
  rw [bs_size] at this
  omega
theorem sp_word (sep : Str) (hs : sep ≠ []) : ∀ (n : Nat) (s : Str), s.length ≤ n → ∀ w ∈ sp sep s, w.length ≤ s.length := by
  intro n
  induction n with
  | zero =>
    intro s hn w hw
    obtain rfl : s = [] := List.length_eq_zero_iff.1 (by omega)
    rw [sp_miss (Lib.index_long (Nat.zero_le _) hs)] at hw
    rw [List.mem_singleton.1 hw]
    exact Nat.le_refl _
  | succ n ih =>
    intro s hn w hw
    by_cases hm : Lib.index s sep = -1
    · rw [sp_miss hm] at hw
      rw [List.mem_singleton.1 hw]
      exact Nat.le_refl _
    · have hg := Lib.index_ge s sep
      have hl := List.length_pos_iff.2 hs
      obtain ⟨i, hi⟩ : ∃ i : Nat, Lib.index s sep = i := ⟨(Lib.index s sep).toNat, by omega⟩
      rw [sp_hit hs hi] at hw
      rcases List.mem_cons.1 hw with rfl | hw
      · rw [List.length_take]; omega
      · have h1 : (s.drop (i + sep.length)).length = s.length - (i + sep.length) := List.length_drop
        have := ih (s.drop (i + sep.length)) (by omega) w hw
        omega
/-- A line that has no word that is an op. -/
theorem parse_noop (hm : Mx h) (s : Str) (hs : s.length ≤ 200) (h0 : s ≠ []) (hw : ∀ w ∈ sp [32] s, w ≠ []) (w : Str) (r : List Str) (hsp : sp [32] s = w :: r) (hop : opA w = none)
    (hk : ∀ h', h.le h' → K (.tuple #[.agg insn0.toArray, .int .i64 9]) h') : XE Tryz.prog 12 #[.string (bs s)] h K E := by
  have hlen : (sp [32] s).length ≤ 2 ^ 40 := Nat.le_trans (sp_length [32] s (by decide)) (by omega)
  have hwl : w.length ≤ 2 ^ 40 := Nat.le_trans (sp_word [32] (by decide) _ s (Nat.le_refl _) w (by rw [hsp]; simp)) (by omega)
  refine fnd (args := _) mixed [] [] [] [(999998, [13, 16, 23, 25, 27, 29, 31, 33, 35, 39])] Tryz.func12 rfl (by kernel_rfl) ?_; conv => whnf
  refine new_intro (o := oIn insn0) (fun bx h1 n_bx le_bx at_bx ot_bx => ?_); conv => whnf
  refine new_intro (o := oEr 0) (fun be h2 n_be le_be at_be ot_be => ?_); conv => whnf
  refine ⟨rfl, ?_⟩
  have a2 : h2 bx = some (oIn insn0) := le_be _ _ at_bx
  have hne : bx ≠ be := fun e => by rw [e, n_be] at at_bx; cases at_bx
  have l2 : h.le h2 := Hp.le_trans le_bx le_be
  conv => whnf
  rw [bs_size]
  refine bsel_false (by simp; omega) ?_; conv => whnf
  refine seq_false (h0) ?_; conv => whnf
  refine split_x (hm.le l2) s [32] (by omega) (by decide) fun bw h3 n_bw e3 => ?_
  have l3 : h.le h3 := fun c o hc => by
    have h9 := l2 _ _ hc
    rw [e3, Hp.set_other _ _ (fun e => by rw [e, n_bw] at h9; cases h9)]; exact h9
  have w3 : h3 bw = some (rowO 9 ((w :: r).map sv)) := by rw [e3, Hp.set_same, hsp]
  have a3 : h3 bx = some (oIn insn0) := by rw [e3, Hp.set_other _ _ (fun e => by rw [e, n_bw] at a2; cases a2)]; exact a2
  have b3 : h3 be = some (oEr 0) := by rw [e3, Hp.set_other _ _ (fun e => by have h9 := at_be; rw [e, n_bw] at h9; cases h9)]; exact at_be
  rw [hsp]
  rw [hsp] at hw hlen
  clear e3
  conv => whnf
  refine loop_at [25] [] (fun q vs cs h' => h3 = h' ∧ ∃ i : Nat, i ≤ (w :: r).length ∧ q = (w :: r).length - i ∧ vs = [.v (zv i)]) (w :: r).length ⟨rfl, 0, by omega, by omega, rfl⟩ ?_
  rintro q vs cs mm bx9 _ ⟨rfl, i, hi, rfl, rfl⟩
  conv => whnf
  refine bsel_intro (fun q1 => ?_) (fun q1 => ?_) <;> try simp only [bsL] at q1
  · have hiL : i < (w :: r).length := by omega
    obtain ⟨x, hx⟩ : ∃ x, (w :: r)[i]? = some x := ⟨_, List.getElem?_eq_getElem hiL⟩
    conv => whnf
    (first | refine need_intro (⟨by omega, by omega⟩) ?_ | refine must.mk (⟨by omega, by omega⟩) ?_); conv => whnf
    refine ⟨_, loadI aggStr w3 rfl (by rw [List.getElem?_map, hx]; rfl), ?_⟩; conv => whnf
    refine seq_false (hw x (List.mem_of_getElem? hx)) ?_
    conv => whnf
    (first | refine ov_c (by simp only [loK, hiK]; omega) ?_ | refine ov_c (by decide) ?_); conv => whnf
    exact ⟨(w :: r).length - (i + 1), by omega, rfl, i + 1, by omega, rfl, rfl⟩
  · conv => whnf
    (first | refine need_intro (⟨by omega, by simp only [List.length_cons]; omega⟩) ?_ | refine must.mk (⟨by omega, by simp only [List.length_cons]; omega⟩) ?_); conv => whnf
    refine ⟨_, loadI (j := 0) aggStr w3 rfl rfl, ?_⟩; conv => whnf
    refine op_x w hwl (fun i aq rl e => by rw [hop] at e; cases e) (fun _ => ?_)
    conv => whnf
    refine dl_pan rfl hne a3 b3 rfl fun h4 a4 b4 o4 => ?_
    conv => whnf
    refine ⟨_, loadA0 aggAi sizAi a4 rfl, ?_⟩; conv => whnf
    refine ⟨_, loadC0 aggAe b4 rfl, ?_⟩; conv => whnf
    refine hk h4 fun c o hc => ?_
    have c1 : c ≠ bx := fun e => by rw [e, n_bx] at hc; cases hc
    have c2 : c ≠ be := fun e => by have := le_bx _ _ hc; rw [e, n_be] at this; cases this
    rw [o4 c c1 c2]
    exact l3 _ _ hc
end
end Go.Proofs.YtlobclgbbhoeiaaGreatDoor
