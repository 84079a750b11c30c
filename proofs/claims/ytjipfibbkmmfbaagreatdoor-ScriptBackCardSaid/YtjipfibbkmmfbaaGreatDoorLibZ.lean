/-
  strings.Builder, over the middle layer.
-/
import Derived.Test.YtjipfibbkmmfbaaGreatDoorLib0
/-! strings.Builder, over the middle layer. -/
namespace Go.Proofs.YtjipfibbkmmfbaaGreatDoor
set_option linter.unusedSimpArgs false
set_option linter.unusedVariables false
open Go Go.Mid Go.RowKit
attribute [local irreducible] mid
section
set_option maxHeartbeats 8000000
set_option maxRecDepth 10000
abbrev bcs (l : Str) : List Value := l.map byV
/-- The first cell of a builder. -/
def blt (b : Nat) (u : Bool) : Value := .pointer (bif u then some ⟨b, 0, none⟩ else none)
/-- b is a builder that holds l, in a row of its own, block ob. -/
def Bd (el : TypeId) (h : Hp) (b : Nat) (l : Str) (ob : Option Nat) : Prop := ∃ u s, h b = some (rowO el [blt b u, s]) ∧ Gr h 5 1 s l.length (bcs l) ob ∧ ∀ x, ob = some x → x ≠ b
/-- What a call has turned, that has a builder. -/
def Bt (h h' : Hp) (b : Nat) (ob ob' : Option Nat) : Prop := (∀ c o, h c = some o → c ≠ b → ob ≠ some c → h' c = some o) ∧ (∀ c, ob' = some c → ob = some c ∨ h c = none) ∧ ∀ c, h' c = none → h c = none
theorem Bt.le {h0 h h' : Hp} {b : Nat} {ob ob' : Option Nat} (t : Bt h h' b ob ob') (hle : h0.le h) (hb : h0 b = none) (ho : ∀ c, ob = some c → h0 c = none) : h0.le h' ∧ ∀ c, ob' = some c → h0 c = none :=
  ⟨fun c o e => t.1 c o (hle c o e) (Hp.ne hb e) (fun hh => by rw [ho c hh] at e; cases e), fun c hc => (t.2.1 c hc).elim (ho c) (Hp.none_le hle)⟩
theorem Bt.refl (h : Hp) (b : Nat) (ob : Option Nat) : Bt h h b ob ob := ⟨fun _ _ e _ _ => e, fun _ e => .inl e, fun _ e => e⟩
theorem Bt.trans {h h1 h2 : Hp} {b : Nat} {ob ob1 ob2 : Option Nat} (t : Bt h h1 b ob ob1) (t' : Bt h1 h2 b ob1 ob2) : Bt h h2 b ob ob2 := by
  refine ⟨fun c o e hc ho => ?_, fun c e => ?_, fun c e => t.2.2 c (t'.2.2 c e)⟩
  · refine t'.1 c o (t.1 c o e hc ho) hc (fun hh => ?_)
    rcases t.2.1 c hh with h3 | h3
    · exact ho h3
    · rw [h3] at e; cases e
  · rcases t'.2.1 c e with h3 | h3
    · exact t.2.1 c h3
    · exact .inr (t.2.2 c h3)
theorem Bt.own {h : Hp} {b : Nat} {ob : Option Nat} {o o' : Obj} (hb : h b = some o) : Bt h (h.set b o') b ob ob := ⟨fun c x e hc _ => by rw [Hp.set_other _ _ hc]; exact e, fun _ e => .inl e, fun c e => by
  unfold Hp.set at e
  split at e
  · cases e
  · exact e⟩
theorem Bt.turn {h h' : Hp} {b : Nat} {ob ob' : Option Nat} (t : Turn h h' ob ob') : Bt h h' b ob ob' := by
  rcases t with ⟨rfl, rfl⟩ | ⟨c, o, rfl, rfl, hn⟩
  · exact Bt.refl _ _ _
  · refine ⟨fun d x e _ ho => ?_, fun d e => ?_, fun d e => ?_⟩
    · rw [Hp.set_other _ _ (fun hh => ?_)]
      · exact e
      · subst hh
        rcases hn with hn | hn
        · rw [hn] at e; cases e
        · exact ho hn
    · cases e
      rcases hn with hn | hn
      · exact .inr hn
      · exact .inl hn
    · unfold Hp.set at e
      split at e
      · cases e
      · exact e
theorem aggB : isAggT Tryz.prog 46 = some false := by kernel_rfl
theorem sizB : sizeT Tryz.prog 46 = some 1 := by kernel_rfl
theorem aggY : isAggT Tryz.prog 39 = some false := by kernel_rfl
theorem sizY : sizeT Tryz.prog 39 = some 1 := by kernel_rfl
variable {h : Hp} {K : Value → Hp → Prop}
theorem blt_cells (b : Nat) (u : Bool) : (blt b u).cells.toList = [blt b u] := rfl
theorem copyCheck_x {el : TypeId} (hv0 : liesAt Tryz.prog Tryz.prog.depth el (2 / Tryz.prog.cellsOf el) 0 48 1 = true) (b : Nat) (u : Bool) (s : Value) (hb : h b = some (rowO el [blt b u, s])) (hk : ∀ h', h' = h.set b (rowO el [blt b true, s]) → K (.tuple #[]) h') :
    X Tryz.prog 46 #[.pointer (some ⟨b, 0, none⟩)] h K := by
  have hi : Tryz.prog.info? 48 = some Tryz.prog.types[48] := by kernel_rfl
  have hz : Tryz.prog.types[48].size ≠ 0 := by rw [show Tryz.prog.types[48].size = 2 by kernel_rfl]; decide
  refine fnv (args := _) mixed [] [] [] Tryz.func46 rfl (by kernel_rfl) ?_; conv => whnf
  refine ⟨_, loadC0 aggB hb rfl, ?_⟩; conv => whnf
  cases u with
  | false =>
    conv => whnf
    refine sem_toU (by kernel_rfl) (by kernel_rfl) hi hz rfl rfl hb (Nat.zero_lt_succ 1) ?_
    conv => whnf
    refine sem_extern (xs := #[.pointer (some ⟨b, 0, none⟩)]) rfl rfl rfl Tryz.func59 (by kernel_rfl) (by kernel_rfl) (by kernel_rfl) (ext := Extern.AbiNoEscape.same) (by kernel_rfl) ?_
    show mid Tryz.prog (Pure.pure (Value.pointer (some ⟨b, 0, none⟩))) h _
    refine mid_pure ?_
    conv => whnf
    refine sem_ofU (by kernel_rfl) (by kernel_rfl) hi rfl rfl hb hv0 ?_
    conv => whnf
    refine ⟨_, storeC (i := 0) sizB hb (Nat.zero_lt_succ 1) rfl rfl, ?_⟩
    conv => whnf
    exact hk _ rfl
  | true =>
    conv => whnf
    refine ⟨_, loadC0 aggB hb rfl, ?_⟩; conv => whnf
    refine sem_neqSelf rfl rfl rfl (by kernel_rfl) hi ?_
    conv => whnf
    rw [Hp.set_self hb] at hk
    exact hk h rfl
theorem Gr.val {h : Hp} {el size : Nat} {s : Value} {n : Nat} {cs : List Value} {ob : Option Nat} (g : Gr h el size s n cs ob) : s.cells.toList = [s] ∧ s.oneCell' = true := by
  obtain ⟨_, ⟨_, rfl, _⟩ | ⟨b, cap, rest, _, rfl, _⟩⟩ := g <;> exact ⟨rfl, rfl⟩
/-- A builder takes a string. -/
theorem writeString_x {el : TypeId} (hv0 : liesAt Tryz.prog Tryz.prog.depth el (2 / Tryz.prog.cellsOf el) 0 48 1 = true) (b : Nat) (l x : Str) (ob : Option Nat) (hB : Bd el h b l ob) (hlen : l.length + x.length ≤ 2 ^ 30) (hk : ∀ h' ob', Bd el h' b (l ++ x) ob' → Bt h h' b ob ob' → K (.tuple #[.int .i64 x.length, .nilIface]) h') :
    X Tryz.prog 28 #[.pointer (some ⟨b, 0, none⟩), .string (bs x)] h K := by
  obtain ⟨u, s, hb, hg, hne⟩ := hB
  have hi : Tryz.prog.info? 5 = some Tryz.prog.types[5] := by kernel_rfl
  refine fnv (args := _) mixed [] [] [] Tryz.func28 rfl (by kernel_rfl) ?_; conv => whnf
  refine copyCheck_x hv0 b u s hb fun h1 e1 => ?_
  have hb1 : h1 b = some (rowO el [blt b true, s]) := by rw [e1]; exact Hp.set_same _ _ _
  have hg1 : Gr h1 5 1 s l.length (bcs l) ob := by rw [e1]; exact hg.set hne
  have ht1 : Bt h h1 b ob ob := by rw [e1]; exact Bt.own hb
  clear e1
  conv => whnf
  refine ⟨_, loadC (i := 1) aggY hb1 rfl, ?_⟩; conv => whnf
  refine appStr (z := .int .u8 0) (by kernel_rfl) (by kernel_rfl) hi (by kernel_rfl) (by kernel_rfl) (by kernel_rfl) rfl rfl rfl rfl hg1 (by rw [bs_size]; omega) fun s' h2 ob' hg2 ht => ?_
  have hkeep := ht.keep hb1 hne
  have hv := Gr.val hg2
  conv => whnf
  refine ⟨_, storeC (i := 1) sizY hkeep.1 (Nat.lt_succ_self 1) hv.1 hv.2, ?_⟩
  conv => whnf
  have hg3 : Gr (h2.set b (rowO el [blt b true, s'])) 5 1 s' (l ++ x).length (bcs (l ++ x)) ob' := by
    rw [show bcs (l ++ x) = bcs l ++ bcs x from List.map_append, List.length_append, ← bs_size x]
    exact hg2.set hkeep.2
  have := hk (h2.set b (rowO el [blt b true, s'])) ob' ⟨true, s', Hp.set_same _ _ _, hg3, hkeep.2⟩ (ht1.trans ((Bt.turn ht).trans (Bt.own hkeep.1)))
  rw [← bs_size x] at this
  exact this
theorem string_x {el : TypeId} (b : Nat) (l : Str) (ob : Option Nat) (hB : Bd el h b l ob) (h0 : l ≠ []) (hlen : l.length ≤ 2 ^ 31) (hk : ∀ h', (∀ c o, h c = some o → ob ≠ some c → h' c = some o) → K (.string (bs l)) h') :
    X Tryz.prog 15 #[.pointer (some ⟨b, 0, none⟩)] h K := by
  obtain ⟨u, s, hb, hg, hne⟩ := hB
  obtain ⟨hl, ⟨_, _, e0⟩ | ⟨g, cap, rest, rfl, rfl, hcap, hrest, hgb⟩⟩ := hg
  · exact absurd (List.eq_nil_of_length_eq_zero e0) h0
  have hpos : 0 < l.length := List.length_pos_iff.2 h0
  have hget : ∀ j x, l[j]? = some x → h.cell? ⟨g, j, none⟩ = some (byV x) := fun j x hj => by
    have hlt := (List.getElem?_eq_some_iff.1 hj).1
    refine cell_row hgb ?_
    rw [List.getElem?_append_left (by simp; omega), List.getElem?_map, hj]; rfl
  have hsz : l.length ≤ (bcs l ++ rest).toArray.size := by simp
  have hne' : g ≠ b := hne g rfl
  have hfr : h.freeze ⟨g, 0, none⟩ l.length = h.set g (.cells (bcs l ++ rest).toArray 5 (0, 0 + l.length)) := by
    unfold Hp.freeze
    simp only [hgb]
    rw [if_pos (by rfl)]
  have hfz : (h.freeze ⟨g, 0, none⟩ l.length) b = some (rowO el [blt b u, .slice (some ⟨g, 0, none⟩) l.length cap]) := by rw [hfr, Hp.set_other _ _ (Ne.symm hne')]; exact hb
  have hfo : ∀ c o, h c = some o → some g ≠ some c → (h.freeze ⟨g, 0, none⟩ l.length) c = some o := fun c o e hc => by
    rw [hfr, Hp.set_other _ _ (fun hh => hc (by rw [hh]))]; exact e
  refine fnv (args := _) mixed [] [] [11] Tryz.func15 rfl (by kernel_rfl) ?_; conv => whnf
  refine ⟨fun h' => h' b = some (rowO el [blt b u, .slice (some ⟨g, 0, none⟩) l.length cap]), hb, ?_⟩
  conv => whnf
  refine ⟨_, loadC (i := 1) aggY hb rfl, ?_⟩; conv => whnf
  refine sem_sliceData rfl rfl (by omega) ?_
  refine ⟨hb, ?_⟩
  conv => whnf
  refine ⟨_, fun h' hh => loadC (i := 1) aggY hh rfl, ?_⟩; conv => whnf
  refine sem_unsafeString rfl rfl rfl (by kernel_rfl) (by kernel_rfl) hgb h0 hsz (by omega) hget ?_
  refine ⟨hfz, ?_⟩
  conv => whnf
  exact hk _ hfo
end
end Go.Proofs.YtjipfibbkmmfbaaGreatDoor
/-! strings.Builder: a byte. -/
namespace Go.Proofs.YtjipfibbkmmfbaaGreatDoor
set_option linter.unusedSimpArgs false
set_option linter.unusedVariables false
open Go Go.Mid Go.RowKit
attribute [local irreducible] mid
section
set_option maxHeartbeats 8000000
set_option maxRecDepth 10000
variable {h : Hp} {K : Value → Hp → Prop}
/-- A builder takes a byte. -/
theorem writeByte_x {el : TypeId} (hv0 : liesAt Tryz.prog Tryz.prog.depth el (2 / Tryz.prog.cellsOf el) 0 48 1 = true) (b : Nat) (l : Str) (c : UInt8) (ob : Option Nat) (hB : Bd el h b l ob) (hlen : l.length ≤ 2 ^ 30) (hk : ∀ h' ob', Bd el h' b (l ++ [c]) ob' → Bt h h' b ob ob' → K .nilIface h') :
    X Tryz.prog 30 #[.pointer (some ⟨b, 0, none⟩), byV c] h K := by
  obtain ⟨u, s, hb, hg, hne⟩ := hB
  have hi : Tryz.prog.info? 5 = some Tryz.prog.types[5] := by kernel_rfl
  refine fnv (args := _) mixed [] [] [] Tryz.func30 rfl (by kernel_rfl) ?_; conv => whnf
  refine copyCheck_x hv0 b u s hb fun h1 e1 => ?_
  have hb1 : h1 b = some (rowO el [blt b true, s]) := by rw [e1]; exact Hp.set_same _ _ _
  have hg1 : Gr h1 5 1 s l.length (bcs l) ob := by rw [e1]; exact hg.set hne
  have ht1 : Bt h h1 b ob ob := by rw [e1]; exact Bt.own hb
  clear e1
  conv => whnf
  refine ⟨_, loadC (i := 1) aggY hb1 rfl, ?_⟩; conv => whnf
  refine new_intro (o := rowO 5 [byV c]) (fun y h2 n_y le_y at_y ot_y => ?_); conv => whnf
  have hb2 : h2 b = some (rowO el [blt b true, s]) := le_y b _ hb1
  have hg2 : Gr h2 5 1 s l.length (bcs l) ob := hg1.le le_y
  have ht2 : Bt h1 h2 b ob ob := ⟨fun d o e _ _ => le_y d o e, fun _ e => .inl e, fun d e => by
    cases e2 : h1 d with
    | none => rfl
    | some o => rw [le_y d o e2] at e; cases e⟩
  refine appOne (z := .int .u8 0) (by kernel_rfl) hi (by kernel_rfl) (by kernel_rfl) (by kernel_rfl) rfl (bytes := 1) (by decide) rfl rfl rfl hg2 at_y rfl rfl hlen fun s' h3 ob' hg3 ht => ?_
  have hkeep := ht.keep hb2 hne
  have hv := Gr.val hg3
  conv => whnf
  refine ⟨_, storeC (i := 1) sizY hkeep.1 (Nat.lt_succ_self 1) hv.1 hv.2, ?_⟩
  conv => whnf
  have hg4 : Gr (h3.set b (rowO el [blt b true, s'])) 5 1 s' (l ++ [c]).length (bcs (l ++ [c])) ob' := by
    rw [show bcs (l ++ [c]) = bcs l ++ [byV c] from List.map_append, List.length_append]
    exact hg3.set hkeep.2
  exact hk (h3.set b (rowO el [blt b true, s'])) ob' ⟨true, s', Hp.set_same _ _ _, hg4, hkeep.2⟩ (ht1.trans (ht2.trans ((Bt.turn ht).trans (Bt.own hkeep.1))))
end
end Go.Proofs.YtjipfibbkmmfbaaGreatDoor
