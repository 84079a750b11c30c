/-
  strings.Builder, beside what is known.
-/
import Derived.Test.YtjipfibbkmmfbaaGreatDoorLibV
import Derived.Test.YtjipfibbkmmfbaaGreatDoorLibZ
/-! strings.Builder, beside what is known. -/
namespace Go.Proofs.YtjipfibbkmmfbaaGreatDoor
set_option linter.unusedSimpArgs false
set_option linter.unusedVariables false
open Go Go.Mid Go.RowKit
attribute [local irreducible] mid
section
set_option maxHeartbeats 8000000
set_option maxRecDepth 10000
variable {h : Hp} {K : Value → Hp → Prop}
/-- h knows k; beside it lies a builder, b, that holds l. -/
def Bds (el : TypeId) (k h : Hp) (b : Nat) (l : Str) : Prop := ∃ ob, Bd el h b l ob ∧ k.le h ∧ k b = none ∧ (∀ c, ob = some c → k c = none) ∧ (l = [] → ob = none)
theorem Bds.of {el : TypeId} {k h : Hp} {b : Nat} (hle : k.le h) (hb : k b = none) (hat : h b = some (rowO el [.pointer none, .slice none 0 0])) : Bds el k h b [] :=
  ⟨none, ⟨false, _, hat, Gr.nil, fun c e => by cases e⟩, hle, hb, fun c e => (by cases e), fun _ => rfl⟩
theorem Bds.le {el : TypeId} {k h : Hp} {b : Nat} {l : Str} (w : Bds el k h b l) : k.le h := by
  obtain ⟨ob, _, hle, _⟩ := w
  exact hle
theorem Bds.weak {el : TypeId} {k k2 h : Hp} {b : Nat} {l : Str} (w : Bds el k h b l) (hle : k2.le k) : Bds el k2 h b l := by
  obtain ⟨ob, h1, h2, h3, h4, h5⟩ := w
  exact ⟨ob, h1, Hp.le_trans hle h2, Hp.none_le hle h3, fun c hc => Hp.none_le hle (h4 c hc), h5⟩
theorem Bds.up {el : TypeId} {k h h' : Hp} {b : Nat} {l : Str} (w : Bds el k h b l) (hle : h.le h') : Bds el k h' b l := by
  obtain ⟨ob, ⟨u, s, e1, e2, e3⟩, h2, h3, h4, h5⟩ := w
  exact ⟨ob, ⟨u, s, hle _ _ e1, e2.le hle, e3⟩, Hp.le_trans h2 hle, h3, h4, h5⟩
theorem Bds.at {el : TypeId} {k h : Hp} {b : Nat} {l : Str} (w : Bds el k h b l) : ∃ o, h b = some o := by
  obtain ⟨ob, ⟨u, s, e1, _⟩, _⟩ := w
  exact ⟨_, e1⟩
theorem Bds.new {el : TypeId} {k h h' : Hp} {b c : Nat} {o : Obj} {l : Str} (w : Bds el k h b l) (hc : h c = none) (hle : h.le h') (hat : h' c = some o) : Bds el (k.set c o) h' b l := by
  obtain ⟨ob, ⟨u, s, e1, e2, e3⟩, h2, h3, h4, h5⟩ := w
  have hbc := Hp.ne hc e1
  refine ⟨ob, ⟨u, s, hle _ _ e1, e2.le hle, e3⟩, Hp.set_le (Hp.le_trans h2 hle) hat, by rw [Hp.set_other _ _ hbc]; exact h3, fun d hd => ?_, h5⟩
  have : d ≠ c := fun e => by
    subst e
    obtain ⟨_, ⟨e, _⟩ | ⟨y, _, _, e, _, _, _, hy⟩⟩ := e2
    · rw [e] at hd; cases hd
    · rw [e] at hd; cases hd; rw [hy] at hc; cases hc
  rw [Hp.set_other _ _ this]; exact h4 d hd
theorem Bds.newE {el : TypeId} {k h h' : Hp} {b c : Nat} {o : Obj} {l : Str} (w : Bds el k h b l) (hc : h c = none) (hle : h.le h') (hat : h' c = some o) : ∃ k1, Bds el k1 h' b l ∧ k1 c = some o ∧ k.le k1 :=
  ⟨_, w.new hc hle hat, Hp.set_same _ _ _, Hp.le_set' (Hp.none_le w.le hc)⟩
theorem Bds.setL {el : TypeId} {k h : Hp} {b m : Nat} {l : Str} {c : Loop} {o : Obj} (w : Bds el k h b l) (hm : h m = some (.loop c)) (hk : k m = none) : Bds el k (h.set m o) b l := by
  obtain ⟨ob, ⟨u, s, e1, e2, e3⟩, h2, h3, h4, h5⟩ := w
  have hbm : b ≠ m := fun e => by subst e; rw [hm] at e1; cases e1
  exact ⟨ob, ⟨u, s, by rw [Hp.set_other _ _ hbm]; exact e1, e2.set (e2.off hm (fun el l e => by cases e)), e3⟩, Hp.le_keep h2 hk, h3, h4, h5⟩
theorem Bds.know {el : TypeId} {k h : Hp} {b m : Nat} {l : Str} {c : Loop} (w : Bds el k h b l) (hm : h m = some (.loop c)) : Bds el (k.set m (.loop c)) h b l := by
  obtain ⟨ob, ⟨u, s, e1, e2, e3⟩, h2, h3, h4, h5⟩ := w
  have hbm : b ≠ m := fun e => by subst e; rw [hm] at e1; cases e1
  refine ⟨ob, ⟨u, s, e1, e2, e3⟩, Hp.set_le h2 hm, by rw [Hp.set_other _ _ hbm]; exact h3, fun d hd => ?_, h5⟩
  rw [Hp.set_other _ _ (e2.off hm (fun el l e => by cases e) d hd)]
  exact h4 d hd
theorem Bds.ws {el : TypeId} {k : Hp} {b : Nat} {l : Str} (hv0 : liesAt Tryz.prog Tryz.prog.depth el (2 / Tryz.prog.cellsOf el) 0 48 1 = true) (w : Bds el k h b l) (x : Str) (hx : x ≠ []) (hlen : l.length + x.length ≤ 2 ^ 30)
    (hk : ∀ h', Bds el k h' b (l ++ x) → K (.tuple #[.int .i64 x.length, .nilIface]) h') : X Tryz.prog 28 #[.pointer (some ⟨b, 0, none⟩), .string (bs x)] h K := by
  obtain ⟨ob, h1, h2, h3, h4, h5⟩ := w
  refine writeString_x hv0 b l x ob h1 hlen fun h' ob' hB ht => ?_
  have := ht.le h2 h3 h4
  exact hk h' ⟨ob', hB, this.1, h3, this.2, fun e => absurd (List.append_eq_nil_iff.1 e).2 hx⟩
theorem string0_x {el : TypeId} (b : Nat) (u : Bool) (hb : h b = some (rowO el [blt b u, .slice none 0 0])) (hk : K (.string (bs [])) h) :
    X Tryz.prog 15 #[.pointer (some ⟨b, 0, none⟩)] h K := by
  refine fnv (args := _) mixed [] [] [11] Tryz.func15 rfl (by kernel_rfl) ?_; conv => whnf
  refine ⟨fun h' => h' b = some (rowO el [blt b u, .slice none 0 0]), hb, ?_⟩
  conv => whnf
  refine ⟨_, loadC (i := 1) aggY hb rfl, ?_⟩; conv => whnf
  refine sem_sliceData0 rfl rfl ?_
  refine ⟨hb, ?_⟩
  conv => whnf
  refine ⟨_, fun h' hh => loadC (i := 1) aggY hh rfl, ?_⟩; conv => whnf
  refine sem_unsafeString0 rfl rfl rfl ?_
  refine ⟨hb, ?_⟩
  conv => whnf
  exact hk
theorem Bds.str {el : TypeId} {k : Hp} {b : Nat} {l : Str} (w : Bds el k h b l) (hlen : l.length ≤ 2 ^ 31) (hk : ∀ h', k.le h' → K (.string (bs l)) h') :
    X Tryz.prog 15 #[.pointer (some ⟨b, 0, none⟩)] h K := by
  obtain ⟨ob, h1, h2, h3, h4, h5⟩ := w
  by_cases hl : l = []
  · subst hl
    have := h5 rfl
    subst this
    obtain ⟨u, s, e1, ⟨_, ⟨_, rfl, _⟩ | ⟨_, _, _, e, _⟩⟩, e3⟩ := h1
    · exact string0_x b u e1 (hk _ h2)
    · cases e
  · refine string_x b l ob h1 hl hlen fun h' hkeep => hk h' fun c o e => hkeep c o (h2 c o e) fun e2 => ?_
    rw [h4 c e2] at e; cases e
theorem liesB : liesAt Tryz.prog Tryz.prog.depth 48 (2 / Tryz.prog.cellsOf 48) 0 48 1 = true := by kernel_rfl
end
end Go.Proofs.YtjipfibbkmmfbaaGreatDoor
/-! strings.Builder, beside what is known: a byte. -/
namespace Go.Proofs.YtjipfibbkmmfbaaGreatDoor
set_option linter.unusedSimpArgs false
set_option linter.unusedVariables false
open Go Go.Mid Go.RowKit
attribute [local irreducible] mid
section
set_option maxHeartbeats 8000000
set_option maxRecDepth 10000
variable {h : Hp} {K : Value → Hp → Prop}
theorem Bds.wb {el : TypeId} {k : Hp} {b : Nat} {l : Str} (hv0 : liesAt Tryz.prog Tryz.prog.depth el (2 / Tryz.prog.cellsOf el) 0 48 1 = true) (w : Bds el k h b l) (x : UInt8) (hlen : l.length ≤ 2 ^ 30)
    (hk : ∀ h', Bds el k h' b (l ++ [x]) → K .nilIface h') : X Tryz.prog 30 #[.pointer (some ⟨b, 0, none⟩), byV x] h K := by
  obtain ⟨ob, h1, h2, h3, h4, h5⟩ := w
  refine writeByte_x hv0 b l x ob h1 hlen fun h' ob' hB ht => ?_
  have := ht.le h2 h3 h4
  exact hk h' ⟨ob', hB, this.1, h3, this.2, fun e => absurd (List.append_eq_nil_iff.1 e).2 (by simp)⟩
end
end Go.Proofs.YtjipfibbkmmfbaaGreatDoor
