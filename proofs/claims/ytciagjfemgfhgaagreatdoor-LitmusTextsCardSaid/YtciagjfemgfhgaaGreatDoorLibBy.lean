/-
  strings.Builder: a byte.
-/
import Derived.Test.YtciagjfemgfhgaaGreatDoorLibB
namespace Go.Proofs.YtciagjfemgfhgaaGreatDoor
set_option linter.unusedSimpArgs false
set_option linter.unusedVariables false
open Go Go.Mid Go.RowKit
attribute [local irreducible] mid
section
set_option maxHeartbeats 8000000
set_option maxRecDepth 10000
variable {h : Hp} {K : Value → Hp → Prop}
/-- A builder takes a byte. -/
theorem writeByte_x {el : TypeId} (hv0 : liesAt Tryz.prog Tryz.prog.depth el (2 / Tryz.prog.cellsOf el) 0 54 1 = true) (b : Nat) (l : Str) (c : UInt8) (ob : Option Nat) (hB : Bd el h b l ob) (hlen : l.length ≤ 2 ^ 30) (hk : ∀ h' ob', Bd el h' b (l ++ [c]) ob' → Bt h h' b ob ob' → K .nilIface h') :
    X Tryz.prog 19 #[.pointer (some ⟨b, 0, none⟩), byV c] h K := by
  obtain ⟨u, s, hb, hg, hne⟩ := hB
  have hi : Tryz.prog.info? 5 = some Tryz.prog.types[5] := by kernel_rfl
  refine fnv (args := _) mixed [] [] [] Tryz.func19 rfl (by kernel_rfl) ?_
  conv => whnf
  refine copyCheck_x hv0 b u s hb fun h1 e1 => ?_
  have hb1 : h1 b = some (rowO el [blt b true, s]) := by rw [e1]; exact Hp.set_same _ _ _
  have hg1 : Gr h1 5 1 s l.length (bcs l) ob := by rw [e1]; exact hg.set hne
  have ht1 : Bt h h1 b ob ob := by rw [e1]; exact Bt.own hb
  clear e1
  conv => whnf
  refine ⟨_, loadC (i := 1) aggY hb1 rfl, ?_⟩
  conv => whnf
  refine new_intro (o := rowO 5 [byV c]) (fun y h2 n_y le_y at_y ot_y => ?_)
  conv => whnf
  have hb2 : h2 b = some (rowO el [blt b true, s]) := le_y b _ hb1
  have hg2 : Gr h2 5 1 s l.length (bcs l) ob := hg1.le le_y
  have ht2 : Bt h1 h2 b ob ob := ⟨fun d o e _ _ => le_y d o e, fun _ e => .inl e, fun d e => by
    cases e2 : h1 d with
    | none => rfl
    | some o => rw [le_y d o e2] at e; cases e⟩
  refine appOne (z := .int .u8 0) (by kernel_rfl) hi (by kernel_rfl) (by kernel_rfl) (by kernel_rfl) rfl (bytes := 1) (by decide) rfl rfl rfl hg2 at_y rfl rfl hlen fun s' h3 ob' hg3 ht => ?_
  have hkeep := ht.keep hb2 hne
  have hv := Gr.val hg3
  conv => whnf
  refine ⟨_, storeC (i := 1) sizY hkeep.1 (Nat.lt_succ_self 1) hv.1 hv.2, ?_⟩
  conv => whnf
  have hg4 : Gr (h3.set b (rowO el [blt b true, s'])) 5 1 s' (l ++ [c]).length (bcs (l ++ [c])) ob' := by
    rw [show bcs (l ++ [c]) = bcs l ++ [byV c] from List.map_append, List.length_append]
    exact hg3.set hkeep.2
  exact hk (h3.set b (rowO el [blt b true, s'])) ob' ⟨true, s', Hp.set_same _ _ _, hg4, hkeep.2⟩ (ht1.trans (ht2.trans ((Bt.turn ht).trans (Bt.own hkeep.1))))
end
end Go.Proofs.YtciagjfemgfhgaaGreatDoor
