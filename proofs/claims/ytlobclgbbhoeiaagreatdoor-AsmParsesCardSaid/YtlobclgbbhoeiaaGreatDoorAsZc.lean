/-
  Instructions as text: the document's orders and names (printed by a program).
-/
import Derived.Test.YtlobclgbbhoeiaaGreatDoorAsJ
/-! Instructions as text: the document's orders and names (printed by a program). -/
namespace Go.Proofs.YtlobclgbbhoeiaaGreatDoor
set_option linter.unusedSimpArgs false
set_option linter.unusedVariables false
open Go Go.Mid Go.RowKit
attribute [local irreducible] mid
/-- The document's names of the formats. -/
def fmtS : List Str := [[], [82], [73], [83], [66], [85], [74], [83, 104, 105, 102, 116], [83, 104, 105, 102, 116, 87], [67, 115, 114], [67, 115, 114, 73], [65], [76, 114], [66, 97, 114, 101], [83, 102, 101, 110, 99, 101]]
section
set_option maxHeartbeats 8000000
set_option maxRecDepth 10000
variable {h : Hp} {K : Value → Hp → Prop}
theorem rorder0_x (hk : K (.string (bs (orderS 0))) h) : X Tryz.prog 32 #[.string (bs [])] h K := by
  refine fnv (args := _) mixed [] [] [] Tryz.func32 rfl (by kernel_rfl) ?_; conv => whnf
  iterate 13 (refine seq_false (by decide) ?_; conv => whnf)
  exact hk
theorem rorder1_x (hk : K (.string (bs (orderS 1))) h) : X Tryz.prog 32 #[.string (bs [82])] h K := by
  refine fnv (args := _) mixed [] [] [] Tryz.func32 rfl (by kernel_rfl) ?_; conv => whnf
  refine seq_true (rfl) ?_; conv => whnf
  exact hk
theorem rorder2_x (hk : K (.string (bs (orderS 2))) h) : X Tryz.prog 32 #[.string (bs [73])] h K := by
  refine fnv (args := _) mixed [] [] [] Tryz.func32 rfl (by kernel_rfl) ?_; conv => whnf
  refine seq_false ((by decide)) ?_; conv => whnf
  refine seq_true (rfl) ?_; conv => whnf
  exact hk
theorem rorder3_x (hk : K (.string (bs (orderS 3))) h) : X Tryz.prog 32 #[.string (bs [83])] h K := by
  refine fnv (args := _) mixed [] [] [] Tryz.func32 rfl (by kernel_rfl) ?_; conv => whnf
  iterate 4 (refine seq_false (by decide) ?_; conv => whnf)
  refine seq_true (rfl) ?_; conv => whnf
  exact hk
theorem rorder4_x (hk : K (.string (bs (orderS 4))) h) : X Tryz.prog 32 #[.string (bs [66])] h K := by
  refine fnv (args := _) mixed [] [] [] Tryz.func32 rfl (by kernel_rfl) ?_; conv => whnf
  iterate 5 (refine seq_false (by decide) ?_; conv => whnf)
  refine seq_true (rfl) ?_; conv => whnf
  exact hk
theorem rorder5_x (hk : K (.string (bs (orderS 5))) h) : X Tryz.prog 32 #[.string (bs [85])] h K := by
  refine fnv (args := _) mixed [] [] [] Tryz.func32 rfl (by kernel_rfl) ?_; conv => whnf
  iterate 6 (refine seq_false (by decide) ?_; conv => whnf)
  refine seq_true (rfl) ?_; conv => whnf
  exact hk
theorem rorder6_x (hk : K (.string (bs (orderS 6))) h) : X Tryz.prog 32 #[.string (bs [74])] h K := by
  refine fnv (args := _) mixed [] [] [] Tryz.func32 rfl (by kernel_rfl) ?_; conv => whnf
  iterate 7 (refine seq_false (by decide) ?_; conv => whnf)
  refine seq_true (rfl) ?_; conv => whnf
  exact hk
theorem rorder7_x (hk : K (.string (bs (orderS 7))) h) : X Tryz.prog 32 #[.string (bs [83, 104, 105, 102, 116])] h K := by
  refine fnv (args := _) mixed [] [] [] Tryz.func32 rfl (by kernel_rfl) ?_; conv => whnf
  iterate 2 (refine seq_false (by decide) ?_; conv => whnf)
  refine seq_true (rfl) ?_; conv => whnf
  exact hk
theorem rorder8_x (hk : K (.string (bs (orderS 8))) h) : X Tryz.prog 32 #[.string (bs [83, 104, 105, 102, 116, 87])] h K := by
  refine fnv (args := _) mixed [] [] [] Tryz.func32 rfl (by kernel_rfl) ?_; conv => whnf
  iterate 3 (refine seq_false (by decide) ?_; conv => whnf)
  refine seq_true (rfl) ?_; conv => whnf
  exact hk
theorem rorder9_x (hk : K (.string (bs (orderS 9))) h) : X Tryz.prog 32 #[.string (bs [67, 115, 114])] h K := by
  refine fnv (args := _) mixed [] [] [] Tryz.func32 rfl (by kernel_rfl) ?_; conv => whnf
  iterate 8 (refine seq_false (by decide) ?_; conv => whnf)
  refine seq_true (rfl) ?_; conv => whnf
  exact hk
theorem rorder10_x (hk : K (.string (bs (orderS 10))) h) : X Tryz.prog 32 #[.string (bs [67, 115, 114, 73])] h K := by
  refine fnv (args := _) mixed [] [] [] Tryz.func32 rfl (by kernel_rfl) ?_; conv => whnf
  iterate 9 (refine seq_false (by decide) ?_; conv => whnf)
  refine seq_true (rfl) ?_; conv => whnf
  exact hk
theorem rorder11_x (hk : K (.string (bs (orderS 11))) h) : X Tryz.prog 32 #[.string (bs [65])] h K := by
  refine fnv (args := _) mixed [] [] [] Tryz.func32 rfl (by kernel_rfl) ?_; conv => whnf
  iterate 10 (refine seq_false (by decide) ?_; conv => whnf)
  refine seq_true (rfl) ?_; conv => whnf
  exact hk
theorem rorder12_x (hk : K (.string (bs (orderS 12))) h) : X Tryz.prog 32 #[.string (bs [76, 114])] h K := by
  refine fnv (args := _) mixed [] [] [] Tryz.func32 rfl (by kernel_rfl) ?_; conv => whnf
  iterate 11 (refine seq_false (by decide) ?_; conv => whnf)
  refine seq_true (rfl) ?_; conv => whnf
  exact hk
theorem rorder13_x (hk : K (.string (bs (orderS 13))) h) : X Tryz.prog 32 #[.string (bs [66, 97, 114, 101])] h K := by
  refine fnv (args := _) mixed [] [] [] Tryz.func32 rfl (by kernel_rfl) ?_; conv => whnf
  iterate 13 (refine seq_false (by decide) ?_; conv => whnf)
  exact hk
theorem rorder14_x (hk : K (.string (bs (orderS 14))) h) : X Tryz.prog 32 #[.string (bs [83, 102, 101, 110, 99, 101])] h K := by
  refine fnv (args := _) mixed [] [] [] Tryz.func32 rfl (by kernel_rfl) ?_; conv => whnf
  iterate 12 (refine seq_false (by decide) ?_; conv => whnf)
  refine seq_true (rfl) ?_; conv => whnf
  exact hk
theorem rorder_x (f : Nat) (hf : f < 15) (hk : K (.string (bs (orderS f))) h) : X Tryz.prog 32 #[.string (bs (fmtS.getD f []))] h K := by
  match f, hf, hk with
  | 0, _, hk => exact rorder0_x hk
  | 1, _, hk => exact rorder1_x hk
  | 2, _, hk => exact rorder2_x hk
  | 3, _, hk => exact rorder3_x hk
  | 4, _, hk => exact rorder4_x hk
  | 5, _, hk => exact rorder5_x hk
  | 6, _, hk => exact rorder6_x hk
  | 7, _, hk => exact rorder7_x hk
  | 8, _, hk => exact rorder8_x hk
  | 9, _, hk => exact rorder9_x hk
  | 10, _, hk => exact rorder10_x hk
  | 11, _, hk => exact rorder11_x hk
  | 12, _, hk => exact rorder12_x hk
  | 13, _, hk => exact rorder13_x hk
  | 14, _, hk => exact rorder14_x hk
  | f + 15, hf, _ => exact absurd hf (by omega)
/-- The document's names of the ops. -/
def opNames0 : List Str := [] :: opNames
attribute [local semireducible] opNames in
theorem rnames_x (hk : ∀ b H, h.le H → H b = some (rowO 9 (opNames0.map sv)) → K (.slice (some ⟨b, 0, none⟩) 99 99) H) : X Tryz.prog 31 #[] h K := by
  refine fnv (args := _) mixed [] [] [] Tryz.func31 rfl (by kernel_rfl) ?_; conv => whnf
  refine new_intro (o := rowO 9 (opNames0.map sv)) (fun b H n_b le_b at_b ot_b => ?_); conv => whnf
  exact hk b H le_b at_b
end
end Go.Proofs.YtlobclgbbhoeiaaGreatDoor
/-! Instructions as words: the document's rows (printed by a program). -/
namespace Go.Proofs.YtlobclgbbhoeiaaGreatDoor
set_option linter.unusedSimpArgs false
set_option linter.unusedVariables false
open Go Go.Mid Go.RowKit
attribute [local irreducible] mid
structure Rw where
  op : Nat
  fmt : Str
  mask : Nat
  is : Nat
def Rw.cs (r : Rw) : List Value := [.int .i64 r.op, .string (bs r.fmt), .int .u64 r.mask, .int .u64 r.is]
def rowsL : List Rw := [⟨1, [85], 127, 55⟩, ⟨2, [85], 127, 23⟩, ⟨3, [74], 127, 111⟩, ⟨4, [73], 28799, 103⟩, ⟨5, [66], 28799, 99⟩, ⟨6, [66], 28799, 4195⟩, ⟨7, [66], 28799, 16483⟩, ⟨8, [66], 28799, 20579⟩, ⟨9, [66], 28799, 24675⟩, ⟨10, [66], 28799, 28771⟩, ⟨11, [73], 28799, 3⟩, ⟨12, [73], 28799, 4099⟩, ⟨13, [73], 28799, 8195⟩, ⟨14, [73], 28799, 12291⟩, ⟨15, [73], 28799, 16387⟩, ⟨16, [73], 28799, 20483⟩, ⟨17, [73], 28799, 24579⟩, ⟨18, [83], 28799, 35⟩, ⟨19, [83], 28799, 4131⟩, ⟨20, [83], 28799, 8227⟩, ⟨21, [83], 28799, 12323⟩, ⟨22, [73], 28799, 19⟩, ⟨23, [73], 28799, 8211⟩, ⟨24, [73], 28799, 12307⟩, ⟨25, [73], 28799, 16403⟩, ⟨26, [73], 28799, 24595⟩, ⟨27, [73], 28799, 28691⟩, ⟨28, [83, 104, 105, 102, 116], 4227887231, 4115⟩, ⟨29, [83, 104, 105, 102, 116], 4227887231, 20499⟩, ⟨30, [83, 104, 105, 102, 116], 4227887231, 1073762323⟩, ⟨31, [82], 4261441663, 51⟩, ⟨32, [82], 4261441663, 1073741875⟩, ⟨33, [82], 4261441663, 4147⟩, ⟨34, [82], 4261441663, 8243⟩, ⟨35, [82], 4261441663, 12339⟩, ⟨36, [82], 4261441663, 16435⟩, ⟨37, [82], 4261441663, 20531⟩, ⟨38, [82], 4261441663, 1073762355⟩, ⟨39, [82], 4261441663, 24627⟩, ⟨40, [82], 4261441663, 28723⟩, ⟨41, [73], 28799, 27⟩, ⟨42, [83, 104, 105, 102, 116, 87], 4261441663, 4123⟩, ⟨43, [83, 104, 105, 102, 116, 87], 4261441663, 20507⟩, ⟨44, [83, 104, 105, 102, 116, 87], 4261441663, 1073762331⟩, ⟨45, [82], 4261441663, 59⟩, ⟨46, [82], 4261441663, 1073741883⟩, ⟨47, [82], 4261441663, 4155⟩, ⟨48, [82], 4261441663, 20539⟩, ⟨49, [82], 4261441663, 1073762363⟩, ⟨50, [73], 28799, 15⟩, ⟨51, [73], 28799, 4111⟩, ⟨52, [66, 97, 114, 101], 4294967295, 115⟩, ⟨53, [66, 97, 114, 101], 4294967295, 1048691⟩, ⟨54, [82], 4261441663, 33554483⟩, ⟨55, [82], 4261441663, 33558579⟩, ⟨56, [82], 4261441663, 33562675⟩, ⟨57, [82], 4261441663, 33566771⟩, ⟨58, [82], 4261441663, 33570867⟩, ⟨59, [82], 4261441663, 33574963⟩, ⟨60, [82], 4261441663, 33579059⟩, ⟨61, [82], 4261441663, 33583155⟩, ⟨62, [82], 4261441663, 33554491⟩, ⟨63, [82], 4261441663, 33570875⟩, ⟨64, [82], 4261441663, 33574971⟩, ⟨65, [82], 4261441663, 33579067⟩, ⟨66, [82], 4261441663, 33583163⟩, ⟨67, [76, 114], 4193284223, 268443695⟩, ⟨68, [65], 4160778367, 402661423⟩, ⟨69, [65], 4160778367, 134225967⟩, ⟨70, [65], 4160778367, 8239⟩, ⟨71, [65], 4160778367, 536879151⟩, ⟨72, [65], 4160778367, 1610620975⟩, ⟨73, [65], 4160778367, 1073750063⟩, ⟨74, [65], 4160778367, 2147491887⟩, ⟨75, [65], 4160778367, 2684362799⟩, ⟨76, [65], 4160778367, 3221233711⟩, ⟨77, [65], 4160778367, 3758104623⟩, ⟨78, [76, 114], 4193284223, 268447791⟩, ⟨79, [65], 4160778367, 402665519⟩, ⟨80, [65], 4160778367, 134230063⟩, ⟨81, [65], 4160778367, 12335⟩, ⟨82, [65], 4160778367, 536883247⟩, ⟨83, [65], 4160778367, 1610625071⟩, ⟨84, [65], 4160778367, 1073754159⟩, ⟨85, [65], 4160778367, 2147495983⟩, ⟨86, [65], 4160778367, 2684366895⟩, ⟨87, [65], 4160778367, 3221237807⟩, ⟨88, [65], 4160778367, 3758108719⟩, ⟨89, [67, 115, 114], 28799, 4211⟩, ⟨90, [67, 115, 114], 28799, 8307⟩, ⟨91, [67, 115, 114], 28799, 12403⟩, ⟨92, [67, 115, 114, 73], 28799, 20595⟩, ⟨93, [67, 115, 114, 73], 28799, 24691⟩, ⟨94, [67, 115, 114, 73], 28799, 28787⟩, ⟨95, [66, 97, 114, 101], 4294967295, 807403635⟩, ⟨96, [66, 97, 114, 101], 4294967295, 270532723⟩, ⟨97, [66, 97, 114, 101], 4294967295, 273678451⟩, ⟨98, [83, 102, 101, 110, 99, 101], 4261445631, 301990003⟩]
theorem rowsL_len : rowsL.length = 98 := by decide
theorem rowsL_op : ∀ i : Nat, i < 98 → (rowsL.getD i ⟨0, [], 0, 0⟩).op = i + 1 := by decide
section
set_option maxHeartbeats 8000000
set_option maxRecDepth 10000
variable {h : Hp} {K : Value → Hp → Prop}
theorem rrows_x (hk : ∀ b H, h.le H → H b = some (rowO 71 (rowsL.flatMap Rw.cs)) → K (.slice (some ⟨b, 0, none⟩) 98 98) H) : X Tryz.prog 55 #[] h K := by
  refine fnv (args := _) mixed [] [] [] Tryz.func55 rfl (by kernel_rfl) ?_; conv => whnf
  refine new_intro (o := rowO 71 (rowsL.flatMap Rw.cs)) (fun b H n_b le_b at_b ot_b => ?_); conv => whnf
  exact hk b H le_b at_b
end
end Go.Proofs.YtlobclgbbhoeiaaGreatDoor
/-! Instructions as words: the document's row of an op. -/
namespace Go.Proofs.YtlobclgbbhoeiaaGreatDoor
set_option linter.unusedSimpArgs false
set_option linter.unusedVariables false
open Go Go.Mid Go.RowKit
attribute [local irreducible] mid
theorem rw_len (r : Rw) : r.cs.length = 4 := rfl
theorem rows_cell : ∀ {l : List Rw} {i : Nat} {x : Rw} {k : Nat}, l[i]? = some x → k < 4 → (l.flatMap Rw.cs)[i * 4 + k]? = x.cs[k]?
  | [], i, x, k, h, _ => by simp at h
  | y :: l, 0, x, k, h, hk => by
    simp only [List.getElem?_cons_zero, Option.some.injEq] at h
    subst h
    rw [List.flatMap_cons, Nat.zero_mul, Nat.zero_add, List.getElem?_append_left (by rw [rw_len]; exact hk)]
  | y :: l, i + 1, x, k, h, hk => by
    rw [List.getElem?_cons_succ] at h
    rw [List.flatMap_cons, List.getElem?_append_right (by rw [rw_len]; omega), rw_len, show (i + 1) * 4 + k - 4 = i * 4 + k by omega]
    exact rows_cell h hk
def rw0 : Rw := ⟨0, [], 0, 0⟩
/-- The row of an op. -/
def rowN (n : Int) : Rw := if 1 ≤ n ∧ n ≤ 98 then rowsL.getD (n.toNat - 1) rw0 else rw0
section
set_option maxHeartbeats 8000000
set_option maxRecDepth 10000
variable {h : Hp} {K : Value → Hp → Prop}
theorem aggRw : isAggT Tryz.prog 71 = some true := by kernel_rfl
theorem sizRw : sizeT Tryz.prog 71 = some 4 := by kernel_rfl
attribute [local irreducible] rowsL in
theorem rfind3_x (n : Int) (hk : ∀ h', h.le h' → K (.agg (rowN n).cs.toArray) h') : X Tryz.prog 33 #[.int .i64 n] h K := by
  refine fnv (args := _) mixed [(2, 2)] [] [] Tryz.func33 rfl (by kernel_rfl) ?_; conv => whnf
  refine rrows_x fun b h1 le1 hb => ?_
  conv => whnf
  refine loop_at [4] [2] (fun q vs cs h' => h1 = h' ∧ ∃ i : Nat, i ≤ 98 ∧ q = 98 - i ∧ vs = [.v (zv i)] ∧ cs = [some rw0.cs] ∧ ¬ (1 ≤ n ∧ n ≤ i)) 98 ⟨rfl, 0, by omega, by omega, rfl, rfl, by omega⟩ ?_
  rintro q vs cs mm bx9 _ ⟨rfl, i, hi, rfl, rfl, rfl, hn⟩
  conv => whnf
  refine bsel_intro (fun q1 => ?_) (fun q1 => ?_) <;> try simp only [bsL] at q1
  · have hiL : i < 98 := by omega
    obtain ⟨x, hx⟩ : ∃ x, rowsL[i]? = some x := ⟨_, List.getElem?_eq_getElem (by rw [rowsL_len]; exact hiL)⟩
    have hop : x.op = i + 1 := by
      have := rowsL_op i hiL
      rwa [List.getD_eq_getElem?_getD, hx] at this
    have hc := rows_cell hx (k := 0) (by decide)
    conv => whnf
    (first | refine need_intro (⟨by omega, by omega⟩) ?_ | refine must.mk (⟨by omega, by omega⟩) ?_); conv => whnf
    refine ⟨_, loadCA (k := i * 4 + 0) (by rw [Int.toNat_natCast]; first | (simp [addr_add]; done) | (simp [addr_add]; kernel_rfl)) aggY0 hb hc, ?_⟩; conv => whnf
    by_cases hni : n = i + 1
    · have e : rowN n = x := by
        unfold rowN
        rw [if_pos (by omega), show n.toNat - 1 = i by omega, List.getD_eq_getElem?_getD, hx]
        rfl
      have hkk := hk h1 le1
      rw [e] at hkk
      refine bsel_true (by rw [hop, hni]; simp) ?_; conv => whnf
      (first | refine need_intro (⟨by omega, by omega⟩) ?_ | refine must.mk (⟨by omega, by omega⟩) ?_); conv => whnf
      have hl := loadH_agg (n := 4) (f := Rw.cs) aggRw sizRw rw_len (rest := []) (show h1 b = some (rowO 71 (rowsL.flatMap Rw.cs ++ [])) by rw [List.append_nil]; exact hb) hx
      refine ⟨_, hl, ?_⟩; conv => whnf
      exact hkk
    · refine bsel_false (by rw [hop]; simp; omega) ?_; conv => whnf
      (first | refine ov_c (by simp only [loK, hiK]; omega) ?_ | refine ov_c (by decide) ?_); conv => whnf
      exact ⟨98 - (i + 1), by omega, rfl, i + 1, by omega, rfl, rfl, rfl, by omega⟩
  · conv => whnf
    have e : rowN n = rw0 := if_neg (by omega)
    have := hk h1 le1
    rw [e] at this
    exact this
end
end Go.Proofs.YtlobclgbbhoeiaaGreatDoor
