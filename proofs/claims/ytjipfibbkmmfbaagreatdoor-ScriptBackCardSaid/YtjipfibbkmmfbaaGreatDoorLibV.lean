/-
  Numbers in digits: strconv.Itoa, strconv.FormatUint, and the document's.
-/
import Derived.Test.YtjipfibbkmmfbaaGreatDoorLibZ
import Derived.Test.YtjipfibbkmmfbaaGreatDoorMidXY
import Derived.Test.YtjipfibbkmmfbaaGreatDoorShelf
import Derived.Lib.ItoaMem
/-! Numbers in digits: strconv.Itoa, strconv.FormatUint, and the document's. -/
namespace Go.Proofs.YtjipfibbkmmfbaaGreatDoor
set_option linter.unusedSimpArgs false
set_option linter.unusedVariables false
open Go Go.Mid Go.RowKit
attribute [local irreducible] mid
section
set_option maxHeartbeats 8000000
set_option maxRecDepth 10000
variable {h : Hp} {K : Value → Hp → Prop}
abbrev encB : UInt8 → Value := fun b => Value.int .u8 (b.toNat : Int)
theorem heap_put (w : World) (b off n : Nat) (dk : Array UInt8) {cs : Array Value} {el : TypeId} {fz : Nat × Nat} (hb : w.heap[b]? = some (.cells cs el fz)) :
    ((Sort.putRow encB w b off dk).drewN n).heap[b]? = some (.cells (Sort.putCells encB off dk cs) el fz) ∧ (∀ c, c ≠ b → ((Sort.putRow encB w b off dk).drewN n).heap[c]? = w.heap[c]?) ∧ ((Sort.putRow encB w b off dk).drewN n).heap.size = w.heap.size := by
  have e : ((Sort.putRow encB w b off dk).drewN n).heap = w.heap.modify b (Sort.onCells (Sort.putCells encB off dk)) := rfl
  rw [e]
  refine ⟨?_, fun c hc => ?_, by simp⟩
  · rw [Array.getElem?_modify, if_pos rfl, hb]; rfl
  · rw [Array.getElem?_modify, if_neg (Ne.symm hc)]
/-- A call that lays bytes into a known row. -/
theorem X.ofPut {P : Program} {f : FuncId} {args : Array Value} {v : Value} {b off : Nat} {cs : Array Value} {el : TypeId} {fz : Nat × Nat} {Q : Array UInt8 → Prop} (hb : h b = some (.cells cs el fz))
    (hc : ∀ w0 w, Sat w0 h w → Calls P f args w fun e w' => e = .returned v ∧ ∃ (n : Nat) (dk : Array UInt8), Q dk ∧ w' = (Sort.putRow encB w b off dk).drewN n)
    (hk : ∀ dk, Q dk → K v (h.set b (.cells (Sort.putCells encB off dk cs) el fz))) : X P f args h K :=
  ⟨fun w0 w s => (hc w0 w s).mono fun e w' ⟨he, n, dk, hq, hw⟩ => by
    refine ⟨v, _, he, ?_, hk dk hq⟩
    obtain ⟨e1, e2, e3⟩ := heap_put w b off n dk (s.known b _ hb)
    subst hw
    refine ⟨⟨s.os, s.tape, s.output, by rw [e3]; exact s.size, fun c o e => ?_⟩, by rw [e3]; exact Nat.le_refl _, fun c hc e => ?_⟩
    · by_cases hcb : c = b
      · subst hcb; rw [Hp.set_same] at e; cases e; exact e1
      · rw [Hp.set_other _ _ hcb] at e; rw [e2 c hcb]; exact s.known c o e
    · have hcb : c ≠ b := fun hh => by rw [hh, hb] at e; cases e
      exact ⟨e2 c hcb, by rw [Hp.set_other _ _ hcb]; exact e⟩⟩
/-- The table of the powers of ten is known. -/
def Pow (h : Hp) : Prop := ∃ el fz, h 0 = some (.cells (Lib.pow10Tab.map fun z => Value.int .u64 z).toArray el fz)
theorem Pow.le {h h' : Hp} (p : Pow h) (hle : h.le h') : Pow h' := by
  obtain ⟨el, fz, e⟩ := p
  exact ⟨el, fz, hle _ _ e⟩
theorem Pow.keep {h h' : Hp} (p : Pow h) (hle : h' 0 = h 0) : Pow h' := by
  obtain ⟨el, fz, e⟩ := p
  exact ⟨el, fz, hle.trans e⟩
theorem powG : Tryz.prog.globalNamed "internal/strconv.uint64pow10" = some 0 := by kernel_rfl
theorem Pow.tab {w0 w : World} (p : Pow h) (s : Sat w0 h w) : Lib.TabIs Tryz.prog w "internal/strconv.uint64pow10" .u64 Lib.pow10Tab := by
  obtain ⟨el, fz, e⟩ := p
  unfold Lib.TabIs World.var?
  rw [powG, Option.bind_some, s.known _ _ e]
theorem Pow.of {w : World} (t : Lib.TabIs Tryz.prog w "internal/strconv.uint64pow10" .u64 Lib.pow10Tab) : Pow (whole w) := by
  unfold Lib.TabIs World.var? at t
  rw [powG, Option.bind_some] at t
  unfold Pow
  show ∃ el fz, w.heap[_]? = _
  generalize w.heap[0]? = x at t
  match x, t with
  | some (.cells cs el fz), t => cases t; exact ⟨el, fz, rfl⟩
/-- strconv.Itoa. -/
theorem nDig_le : ∀ (k u : Nat), u < 10 ^ (k + 1) → Lib.nDigits u ≤ k + 1
  | 0, u, h => by rw [Lib.nDigits_small (by omega)]; omega
  | k + 1, u, h => by
    by_cases hu : u < 10
    · rw [Lib.nDigits_small hu]; omega
    · rw [Lib.nDigits_big hu]
      have := nDig_le k (u / 10) (by rw [Nat.pow_succ] at h; omega)
      omega
theorem nDig20 {u : Nat} (h : u < 18446744073709551616) : Lib.nDigits u ≤ 20 := nDig_le 19 u (by omega)
theorem dec_len {u : Nat} (h : u < 18446744073709551616) : (Lib.decDigits u).length ≤ 20 := by rw [Lib.decDigits_length]; exact nDig20 h
theorem itoa_len {n : Int} (h0 : -9223372036854775808 ≤ n) (h1 : n ≤ 9223372036854775807) : (Lib.itoa n).length ≤ 21 := by
  unfold Lib.itoa
  split
  · have := dec_len (u := n.natAbs) (by omega)
    simp; omega
  · have := dec_len (u := n.toNat) (by omega)
    omega
/-- strconv.FormatUint by ten. -/
theorem fmtU0_x (hp : Pow h) (u : Nat) (hu : u < 18446744073709551616) (hk : K (.string (bs (Lib.decDigits u))) h) : X Tryz.prog 32 #[.int .u64 u, .int .i64 10] h K := by
  refine X.forget ?_
  have hk' : ∀ h' : Hp, h.le h' → (∃ g : Hp, g.le h' ∧ K (.string (bs (Lib.decDigits u))) g) := fun h' hle => ⟨h, hle, hk⟩
  clear hk
  refine fnv (args := _) mixed [] [] [] Tryz.func32 rfl (by kernel_rfl) ?_; conv => whnf
  refine bsel_intro (fun q1 => ?_) (fun q1 => ?_) <;> try simp only [bsL] at q1
  · have hu1 : u < 100 := by omega
    conv => whnf
    (first | refine ov_c (by simp only [loK, hiK]; omega) ?_ | refine ov_c (by decide) ?_); conv => whnf
    refine X.ofBelow (v := .string (bs (Lib.decDigits u))) (fun w0 w s => ?_) ?_
    · exact (Tryz.internal_strconv_small u hu1 w).mono fun e w' ⟨h1, h2⟩ => ⟨h1, by subst h2; exact Below.refl _ _⟩
    · conv => whnf
      exact hk' _ (Hp.le_refl _)
  · have hu1 : 100 ≤ u := by omega
    have hn := nDig20 hu
    conv => whnf
    refine new_intro (o := rowO 95 (List.replicate 24 (.int .u8 0))) (fun b h1 n_b le_b at_b ot_b => ?_); conv => whnf
    refine X.ofBelow (v := .int .i64 (Lib.nDigits u)) (fun w0 w s => ?_) ?_
    · exact (Tryz.internal_strconv_numDigits u (by omega) hu w ((hp.le le_b).tab s)).mono fun e w' ⟨h1, h2⟩ => ⟨h1, by subst h2; exact Below.refl _ _⟩
    · conv => whnf
      (first | refine need_intro (⟨by omega, by omega⟩) ?_ | refine must.mk (⟨by omega, by omega⟩) ?_); conv => whnf
      refine X.ofPut (b := b) (off := 0) (el := 95) (fz := (0, 0)) (cs := (List.replicate 24 (Value.int .u8 0)).toArray) (v := .tuple #[]) (Q := fun dk => ∃ v', Lib.FmtInv (Lib.nDigits u) u 0 v' dk) at_b (fun w0 w s => ?_) (fun dk hdk => ?_)
      · have hsz : (Array.replicate (Lib.nDigits u) (0 : UInt8)).size = Lib.nDigits u := by simp
        have := Tryz.internal_strconv_formatBase10 b 0 24 u (Array.replicate (Lib.nDigits u) (0 : UInt8)) w (fun j hj => ?_) (by rw [hsz]; exact Lib.lt_pow_nDigits u) hu (by rw [hsz]; omega)
        · rw [hsz] at this
          refine this.mono fun e w' hh => ?_
          obtain ⟨he, n, v', dk, hw, hf⟩ := hh
          exact ⟨he, n, dk, ⟨v', hf⟩, hw⟩
        · rw [hsz] at hj
          have hb := s.known b _ at_b
          refine ⟨?_, ?_⟩
          · have hc : h1.cell? ⟨b, 0 + j, none⟩ = some (.int .u8 0) := by
              rw [Nat.zero_add]
              exact cell_row at_b (by rw [List.getElem?_replicate, if_pos (by omega)])
            rw [s.cell hc, getElem!_pos _ j (by rw [hsz]; exact hj)]
            simp
          · show w.frozen? _ = false
            unfold World.frozen?
            simp only [hb]
            simp
      · obtain ⟨v', hf⟩ := hdk
        have hat : ∀ h2 : Hp, h2 = h1.set b (.cells (Sort.putCells encB 0 dk (List.replicate 24 (Value.int .u8 0)).toArray) 95 (0, 0)) → h.le h2 ∧ ∀ i y, (Lib.decDigits u)[i]? = some y → h2.cell? ((⟨b, 0, none⟩ : Addr).add i) = some (byV y) := fun h2 e => by
          subst e
          refine ⟨Hp.le_keep le_b n_b, fun i y hy => ?_⟩
          obtain ⟨hi, ey⟩ := List.getElem?_eq_some_iff.1 hy
          have hi2 : i < Lib.nDigits u := by rw [← Lib.decDigits_length]; exact hi
          have ed := Lib.row_is_numeral hf i hi
          rw [addr_add, Nat.zero_add]
          unfold Hp.cell?
          simp only [Hp.set_same]
          show (Sort.putCells encB 0 dk (List.replicate 24 (Value.int .u8 0)).toArray)[i]? = _
          unfold Sort.putCells
          rw [Array.getElem?_mapIdx]
          have : (List.replicate 24 (Value.int IntKind.u8 0)).toArray[i]? = some (Value.int .u8 0) := by
            rw [List.getElem?_toArray, List.getElem?_replicate, if_pos (by omega)]
          rw [this, Option.map_some, if_pos ⟨by omega, by rw [hf.size]; omega⟩, Nat.sub_zero, ← ed, ey]
        have hat2 := hat _ rfl
        clear hat
        generalize h1.set b (.cells (Sort.putCells encB 0 dk (List.replicate 24 (Value.int .u8 0)).toArray) 95 (0, 0)) = h2 at hat2 ⊢
        obtain ⟨le2, hc2⟩ := hat2
        conv => whnf
        (first | refine need_intro (⟨by omega, by omega⟩) ?_ | refine must.mk (⟨by omega, by omega⟩) ?_); conv => whnf
        refine fromBytes (el := 5) (l := Lib.decDigits u) (base := some ⟨b, 0, none⟩) (c := 24) rfl (by kernel_rfl) (by kernel_rfl) (by kernel_rfl) (by rw [Lib.decDigits_length]; rfl) (fun i y hy => ⟨_, rfl, hc2 i y hy⟩) ?_
        conv => whnf
        exact hk' _ le2
theorem fmtU_x (hp : Pow h) (u : Nat) (hu : u < 18446744073709551616) (hk : K (.string (bs (Lib.decDigits u))) h) : X Tryz.prog 12 #[.int .u64 u, .int .i64 10] h K := by
  refine fnv (args := _) mixed [] [] [] Tryz.func12 rfl (by kernel_rfl) ?_; conv => whnf
  refine fmtU0_x hp u hu ?_
  conv => whnf
  exact hk
end
end Go.Proofs.YtjipfibbkmmfbaaGreatDoor
/-! Numbers in digits: strconv.Itoa. -/
namespace Go.Proofs.YtjipfibbkmmfbaaGreatDoor
set_option linter.unusedSimpArgs false
set_option linter.unusedVariables false
open Go Go.Mid Go.RowKit
attribute [local irreducible] mid
section
variable {h : Hp} {K : Value → Hp → Prop}
theorem itoaA_x (hp : Pow h) (n : Int) (h0 : -9223372036854775808 ≤ n) (h1 : n ≤ 9223372036854775807) (hk : K (.string (bs (Lib.itoa n))) h) : X Tryz.prog 31 #[.int .i64 n] h K :=
  X.ofGrow (fun w0 w s => Tryz.strconv_Itoa n h0 h1 w (hp.tab s)) hk
end
end Go.Proofs.YtjipfibbkmmfbaaGreatDoor
