/-
  The row of harts, and the picks of numbers, as the document tells them.
-/
import Derived.Test.YtnlbgcfobfklpaaFair9
namespace Go.Proofs.Ytnlbgcfobfklpaa
open Go Go.Mid Go.RowKit
attribute [local irreducible] X MLoop mid
/-- Of those up to m that are not in l: the first that waits longest; -1: there is none. -/
def bestL (ws l : List Int) : Nat → Int
  | 0 => -1
  | m + 1 => if ¬ (m : Int) ∈ l ∧ (bestL ws l m < 0 ∨ ws.getD (bestL ws l m).toNat 0 < ws.getD m 0) then m else bestL ws l m
theorem bestL_lt (ws l : List Int) : ∀ m : Nat, -1 ≤ bestL ws l m ∧ bestL ws l m < m
  | 0 => by simp [bestL]
  | m + 1 => by
    have := bestL_lt ws l m
    unfold bestL
    split <;> omega
def rrow (ws : List Int) : Nat → List Int
  | 0 => []
  | j + 1 => rrow ws j ++ [bestL ws (rrow ws j) ws.length]
theorem rrow_length (ws : List Int) : ∀ j, (rrow ws j).length = j
  | 0 => rfl
  | j + 1 => by simp [rrow, rrow_length ws j]
set_option maxHeartbeats 8000000 in
set_option maxRecDepth 10000 in
theorem rrow_x (s : Value) (ws : List Int) (h : Hp) (K : Value → Hp → Prop) (hn : ws.length ≤ 8)
    (hr : Rd Try.prog 3 1 h s (iv ws))
    (hk : ∀ s h', h.le h' → Rd Try.prog 3 1 h' s (iv (rrow ws ws.length)) → K s h') : X Try.prog 18 #[s] h K := by
  obtain ⟨base, cap, rfl, f⟩ := rdI hr
  refine fnv (args := [.slice base ws.length cap]) mixed [] [] [] Try.func18 rfl (by kernel_rfl) ?_
  conv => whnf
  intro b hb
  conv => whnf
  refine loop_at [3] [] (fun r vs _ h' => ∃ (j : Nat) (s' : Value) (ob : Option Nat), j ≤ ws.length ∧ r = ws.length - j ∧ vs = [.v s'] ∧ h.le h' ∧ Gr h' 3 1 s' j (iv (rrow ws j)) ob ∧ ∀ b', ob = some b' → h b' = none) ws.length
    ⟨0, .slice (some ⟨b, 0, none⟩) 0 0, some b, by omega, by omega, rfl, Hp.le_set hb, ⟨rfl, .inr ⟨b, 0, [], rfl, rfl, Nat.le_refl _, rfl, Hp.set_same _ _ _⟩⟩, fun b' hb' => by cases hb'; exact hb⟩ ?_
  rintro r vs cs mm bx h' ⟨j, s', ob, hj, rfl, rfl, hle, hgr, hob⟩
  have hrl := rrow_length ws j
  obtain ⟨base2, cap2, rfl, f2⟩ := rdI (hgr.rd agg3)
  conv => whnf
  refine bsel_intro (fun h4 => ?_) (fun h4 => ?_) <;> simp only [decide_eq_true_eq, decide_eq_false_iff_not] at h4
  · conv => whnf
    refine loop_at [5, 4] [] (fun r vs _ h2 => h' = h2 ∧ ∃ i : Nat, i ≤ ws.length ∧ r = ws.length - i ∧ vs = [.v (.int .i64 i), .v (.int .i64 (bestL ws (rrow ws j) i))]) ws.length
      ⟨rfl, 0, by omega, by omega, rfl⟩ ?_
    rintro r vs cs mm2 bx2 _ ⟨rfl, i, hi, rfl, rfl⟩
    have hbl := bestL_lt ws (rrow ws j) i
    conv => whnf
    refine bsel_intro (fun h5 => ?_) (fun h5 => ?_) <;> simp only [decide_eq_true_eq, decide_eq_false_iff_not] at h5
    · have hil : i < ws.length := by omega
      have hgd : ws.getD i 0 = ws[i] := by rw [List.getD_eq_getElem?_getD, List.getElem?_eq_getElem hil]; rfl
      conv => whnf
      refine loop_at [7, 6] [] (fun r vs _ h2 => h' = h2 ∧ ∃ q : Nat, q ≤ j ∧ r = j - q ∧ ∃ u : Bool, vs = [.v (.int .i64 q), .v (.bool u)] ∧ (u = true ↔ (i : Int) ∈ (rrow ws j).take q)) j
        ⟨rfl, 0, by omega, by omega, false, rfl, by simp⟩ ?_
      rintro r vs cs mm3 bx3 _ ⟨rfl, q, hq, rfl, u, rfl, hu⟩
      conv => whnf
      refine bsel_intro (fun h6 => ?_) (fun h6 => ?_) <;> simp only [decide_eq_true_eq, decide_eq_false_iff_not] at h6
      · have hql : q < (rrow ws j).length := by omega
        have htk := List.take_succ_eq_append_getElem hql
        obtain ⟨a2, rfl, ha2⟩ := f2 q _ (List.getElem?_eq_getElem hql)
        cases u
        · conv => whnf
          refine need_intro ⟨by omega, by omega⟩ ?_
          conv => whnf
          refine ⟨_, ha2, ?_⟩
          conv => whnf
          refine ⟨j - (q + 1), by omega, rfl, q + 1, by omega, rfl, ((rrow ws j)[q] == (i : Int)), ?_, ?_⟩
          · show [MV.v (.int .i64 (IntKind.i64.wrap (q + 1))), MV.v (.bool ((rrow ws j)[q] == (i : Int)))] = _
            rw [IntWalk.i64_in _ (by omega)]; rfl
          · rw [htk, List.mem_append]
            have : ¬ (i : Int) ∈ (rrow ws j).take q := fun hh => by have := hu.2 hh; cases this
            simp only [beq_iff_eq, this, false_or, List.mem_singleton]
            exact eq_comm
        · conv => whnf
          refine ⟨j - (q + 1), by omega, rfl, q + 1, by omega, rfl, true, ?_, ?_⟩
          · show [MV.v (.int .i64 (IntKind.i64.wrap (q + 1))), MV.v (.bool true)] = _
            rw [IntWalk.i64_in _ (by omega)]; rfl
          · rw [htk, List.mem_append]
            exact ⟨fun _ => .inl (hu.1 rfl), fun _ => rfl⟩
      · obtain rfl : q = j := by omega
        rw [List.take_of_length_le (by omega)] at hu
        have hbs : bestL ws (rrow ws q) (i + 1) = if ¬ (i : Int) ∈ rrow ws q ∧ (bestL ws (rrow ws q) i < 0 ∨ ws.getD (bestL ws (rrow ws q) i).toNat 0 < ws.getD i 0) then (i : Int) else bestL ws (rrow ws q) i := rfl
        conv => whnf
        cases u
        · have hni : ¬ (i : Int) ∈ rrow ws q := fun hh => by have := hu.2 hh; cases this
          conv => whnf
          refine bsel_intro (fun h7 => ?_) (fun h7 => ?_) <;> simp only [decide_eq_true_eq, decide_eq_false_iff_not] at h7
          · rw [if_pos ⟨hni, .inl h7⟩] at hbs
            conv => whnf
            refine ⟨ws.length - (i + 1), by omega, rfl, i + 1, by omega, rfl, ?_⟩
            show [MV.v (.int .i64 (IntKind.i64.wrap (i + 1))), MV.v (.int .i64 i)] = _
            rw [IntWalk.i64_in _ (by omega), hbs]; rfl
          · have hb0 : (bestL ws (rrow ws q) i).toNat < ws.length := by omega
            have hgb : ws.getD (bestL ws (rrow ws q) i).toNat 0 = ws[(bestL ws (rrow ws q) i).toNat] := by rw [List.getD_eq_getElem?_getD, List.getElem?_eq_getElem hb0]; rfl
            obtain ⟨a1, rfl, ha1⟩ := f i _ (List.getElem?_eq_getElem hil)
            obtain ⟨a3, e3, ha3⟩ := f (bestL ws (rrow ws q) i).toNat _ (List.getElem?_eq_getElem hb0)
            cases e3
            conv => whnf
            refine need_intro ⟨by omega, by omega⟩ ?_
            conv => whnf
            refine ⟨_, loadH_le hle ha1, ?_⟩
            conv => whnf
            refine need_intro ⟨by omega, by omega⟩ ?_
            conv => whnf
            refine ⟨_, loadH_le hle ha3, ?_⟩
            conv => whnf
            refine bsel_intro (fun h8 => ?_) (fun h8 => ?_) <;> simp only [decide_eq_true_eq, decide_eq_false_iff_not] at h8
            · rw [if_pos ⟨hni, .inr (by rw [hgb, hgd]; exact h8)⟩] at hbs
              conv => whnf
              refine ⟨ws.length - (i + 1), by omega, rfl, i + 1, by omega, rfl, ?_⟩
              show [MV.v (.int .i64 (IntKind.i64.wrap (i + 1))), MV.v (.int .i64 i)] = _
              rw [IntWalk.i64_in _ (by omega), hbs]; rfl
            · rw [if_neg (fun hh => by rcases hh.2 with hh | hh; exact h7 hh; rw [hgb, hgd] at hh; exact h8 hh)] at hbs
              conv => whnf
              refine ⟨ws.length - (i + 1), by omega, rfl, i + 1, by omega, rfl, ?_⟩
              show [MV.v (.int .i64 (IntKind.i64.wrap (i + 1))), MV.v (.int .i64 (bestL ws (rrow ws q) i))] = _
              rw [IntWalk.i64_in _ (by omega), hbs]; rfl
        · rw [if_neg (fun hh => hh.1 (hu.1 rfl))] at hbs
          conv => whnf
          refine ⟨ws.length - (i + 1), by omega, rfl, i + 1, by omega, rfl, ?_⟩
          show [MV.v (.int .i64 (IntKind.i64.wrap (i + 1))), MV.v (.int .i64 (bestL ws (rrow ws q) i))] = _
          rw [IntWalk.i64_in _ (by omega), hbs]; rfl
    · obtain rfl : i = ws.length := by omega
      conv => whnf
      intro x hx
      conv => whnf
      refine app30 (h := h'.set x (rowO 3 [.int .i64 (bestL ws (rrow ws j) ws.length)])) rfl rfl rfl (hgr.fresh hx) (Hp.set_same _ _ _) rfl (by omega) (fun s3 h3 ob3 hg3 ht => ?_)
      have t1 := ht.le (Hp.le_trans hle (Hp.le_set hx)) hob
      conv => whnf
      refine ⟨ws.length - (j + 1), by omega, j + 1, s3, ob3, by omega, rfl, rfl, t1.1, ?_, t1.2⟩
      rw [rrow, iv, List.map_append]
      exact hg3
  · obtain rfl : j = ws.length := by omega
    conv => whnf
    exact hk _ h' hle (hgr.rd agg3)
end Go.Proofs.Ytnlbgcfobfklpaa
