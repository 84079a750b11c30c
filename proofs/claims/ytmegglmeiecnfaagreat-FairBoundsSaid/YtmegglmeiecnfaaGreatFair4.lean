/-
  The row of harts, the one that waits longest first.
-/
import Derived.Test.YtmegglmeiecnfaaGreatFair3
namespace Go.Proofs.YtmegglmeiecnfaaGreat
open Go Go.Mid Go.RowKit
attribute [local irreducible] X MLoop mid
set_option maxHeartbeats 4000000 in
set_option maxRecDepth 10000 in
theorem stable_x (d cap : Nat) (l : List Int) (g : FuncId) (first captured : Array Value) (cmp : Int → Int → Int) (h0 h : Hp) (K : Value → Hp → Prop) (hn : 1 ≤ l.length) (hcap : l.length ≤ cap) (hl : l.length < 20)
    (hle : h0.le h) (h0d : h0 d = none) (hd : h d = some (rowO 3 (iv l)))
    (hcall : callable Tryz.prog g = true)
    (hcmp : ∀ (x y : Int) (h' : Hp) (K' : Value → Hp → Prop), x ∈ l → y ∈ l → h0.le h' → K' (.int .i64 (cmp x y)) h' → X Tryz.prog g (first.toList ++ ([Value.int .i64 x, Value.int .i64 y] ++ captured.toList)).toArray h' K')
    (hk : K (.tuple #[]) (h.set d (rowO 3 (iv (isortR (fun x y => decide (cmp x y < 0)) l).reverse)))) :
    X Tryz.prog 217 #[.slice (some ⟨d, 0, none⟩) l.length cap, .int .i64 l.length, .func (.func g) first captured] h K := by
  refine fnv (args := [.slice (some ⟨d, 0, none⟩) l.length cap, .int .i64 l.length, .func (.func g) first captured]) mixed [] [] [] Tryz.func217 rfl (by kernel_rfl) ?_
  conv => whnf
  refine loop_step ?_
  conv => whnf
  refine bsel_intro (fun h1 => ?_) (fun h1 => ?_)
  · simp only [decide_eq_true_eq] at h1; omega
  conv => whnf
  refine isort_x d cap l g first captured cmp h0 h _ hn hcap (by omega) hle h0d hd hcall hcmp ?_
  conv => whnf
  refine loop_step ?_
  conv => whnf
  refine bsel_intro (fun h2 => ?_) (fun h2 => ?_)
  · simp only [decide_eq_true_eq] at h2; omega
  conv => whnf
  exact hk
set_option maxHeartbeats 4000000 in
set_option maxRecDepth 10000 in
theorem sortStable_x (d cap : Nat) (l : List Int) (g : FuncId) (first captured : Array Value) (cmp : Int → Int → Int) (h0 h : Hp) (K : Value → Hp → Prop) (hn : 1 ≤ l.length) (hcap : l.length ≤ cap) (hl : l.length < 20)
    (hle : h0.le h) (h0d : h0 d = none) (hd : h d = some (rowO 3 (iv l)))
    (hcall : callable Tryz.prog g = true)
    (hcmp : ∀ (x y : Int) (h' : Hp) (K' : Value → Hp → Prop), x ∈ l → y ∈ l → h0.le h' → K' (.int .i64 (cmp x y)) h' → X Tryz.prog g (first.toList ++ ([Value.int .i64 x, Value.int .i64 y] ++ captured.toList)).toArray h' K')
    (hk : K (.tuple #[]) (h.set d (rowO 3 (iv (isortR (fun x y => decide (cmp x y < 0)) l).reverse)))) :
    X Tryz.prog 122 #[.slice (some ⟨d, 0, none⟩) l.length cap, .func (.func g) first captured] h K := by
  refine fnv (args := [.slice (some ⟨d, 0, none⟩) l.length cap, .func (.func g) first captured]) mixed [] [] [] Tryz.func122 rfl (by kernel_rfl) ?_
  conv => whnf
  refine stable_x d cap l g first captured cmp h0 h _ hn hcap hl hle h0d hd hcall hcmp ?_
  conv => whnf
  exact hk
/-- A chooser. -/
def Ch (h : Hp) (c b : Nat) (k : Int) (ws : List Int) : Prop := h c = some (rowO 47 [.int .i64 k, .slice (some ⟨b, 0, none⟩) ws.length ws.length]) ∧ h b = some (rowO 3 (iv ws))
theorem Ch.le {h h' : Hp} {c b : Nat} {k : Int} {ws : List Int} (x : Ch h c b k ws) (hle : h.le h') : Ch h' c b k ws := ⟨hle _ _ x.1, hle _ _ x.2⟩
theorem loadP {t : TypeId} (ht : isAggT Tryz.prog t = some false) {h : Hp} {d i : Nat} {el : TypeId} {l : List Value} {v : Value} (hd : h d = some (rowO el l)) (hi : l[i]? = some v) : loadH Tryz.prog t h ⟨d, i, none⟩ = some v := by
  rw [loadH_cell ht]; exact cell_row hd hi
theorem agg30 : isAggT Tryz.prog 34 = some false := by kernel_rfl
theorem agg38 : isAggT Tryz.prog 37 = some false := by kernel_rfl
theorem agg3 : isAggT Tryz.prog 3 = some false := by kernel_rfl
def cmpW (ws : List Int) (x y : Int) : Int := cmpI (ws.getD y.toNat 0) (ws.getD x.toNat 0)
set_option maxHeartbeats 4000000 in
set_option maxRecDepth 10000 in
theorem row1_x (x y : Int) (c b b1 : Nat) (k : Int) (ws : List Int) (h : Hp) (K : Value → Hp → Prop) (hx : 0 ≤ x ∧ x < ws.length) (hy : 0 ≤ y ∧ y < ws.length) (hc : Ch h c b k ws) (h1 : h b1 = some (rowO 37 [.pointer (some ⟨c, 0, none⟩)]))
    (hk : K (.int .i64 (cmpW ws x y)) h) : X Tryz.prog 123 #[.int .i64 x, .int .i64 y, .pointer (some ⟨b1, 0, none⟩)] h K := by
  refine fnv (args := [.int .i64 x, .int .i64 y, .pointer (some ⟨b1, 0, none⟩)]) mixed [] [124] [] Tryz.func123 rfl (by kernel_rfl) ?_
  conv => whnf
  refine ⟨_, loadP agg38 h1 rfl, ?_⟩
  conv => whnf
  refine ⟨_, loadP agg30 (i := 1) hc.1 rfl, ?_⟩
  conv => whnf
  refine need_intro hy ?_
  conv => whnf
  refine ⟨_, loadI (i := y.toNat) (l := ws) (x := ws.getD y.toNat 0) hc.2 (by rw [List.getD_eq_getElem?_getD, List.getElem?_eq_getElem (by omega)]; rfl), ?_⟩
  conv => whnf
  refine ⟨_, loadP agg38 h1 rfl, ?_⟩
  conv => whnf
  refine ⟨_, loadP agg30 (i := 1) hc.1 rfl, ?_⟩
  conv => whnf
  refine need_intro hx ?_
  conv => whnf
  refine ⟨_, loadI (i := x.toNat) (l := ws) (x := ws.getD x.toNat 0) hc.2 (by rw [List.getD_eq_getElem?_getD, List.getElem?_eq_getElem (by omega)]; rfl), ?_⟩
  conv => whnf
  refine ⟨_, compare_x _ _ _ _ ⟨rfl, rfl⟩, ?_⟩
  conv => whnf
  exact hk
theorem aRunK_if {P : Program} {ρ : Operand → Value} {o : Oper} {c : Prop} {inst : Decidable c} {A B : Action} {h : Hp} {K : Value → Hp → Prop} (hA : actOf P ρ o = if c then A else B) (hc : c) (hx : aRunK P A h K) : aRunK P (actOf P ρ o) h K := by
  rw [hA, if_pos hc]; exact hx
theorem zeroRow_one (v : Value) (n : Nat) : zeroRow #[v] n = (List.replicate n v).toArray := by
  unfold zeroRow
  congr 1
  apply List.ext_getElem
  · simp
  · intro i h1 h2
    simp [Nat.mod_one]
/-- 0, 1, .. -/
def upI (n : Nat) : List Int := (List.range n).map Int.ofNat
def rowL (ws : List Int) : List Int := (isortR (fun x y => decide (cmpW ws x y < 0)) (upI ws.length)).reverse
theorem upI_length (n : Nat) : (upI n).length = n := by simp [upI]
theorem rowL_length (ws : List Int) : (rowL ws).length = ws.length := by simp [rowL, isortR_length, upI_length]
theorem upI_mem {n : Nat} {x : Int} (h : x ∈ upI n) : 0 ≤ x ∧ x < n := by
  simp only [upI, List.mem_map, List.mem_range] at h
  obtain ⟨a, h1, rfl⟩ := h
  constructor
  · exact Int.natCast_nonneg _
  · exact Int.ofNat_lt.2 h1
set_option maxHeartbeats 4000000 in
set_option maxRecDepth 10000 in
theorem row_x (c b : Nat) (k : Int) (ws : List Int) (h : Hp) (K : Value → Hp → Prop) (hw : 1 ≤ ws.length ∧ ws.length ≤ 8) (hc : Ch h c b k ws)
    (hk : ∀ d, h d = none → K (.slice (some ⟨d, 0, none⟩) ws.length ws.length) (h.set d (rowO 3 (iv (rowL ws))))) : X Tryz.prog 68 #[.pointer (some ⟨c, 0, none⟩)] h K := by
  refine X.forget ?_
  refine fnv (args := [.pointer (some ⟨c, 0, none⟩)]) mixed [] [] [] Tryz.func68 rfl (by kernel_rfl) ?_
  conv => whnf
  intro b1 hb1
  conv => whnf
  refine ⟨_, loadP agg38 (h := h.set b1 (rowO 37 [.pointer (some ⟨c, 0, none⟩)])) (Hp.set_same _ _ _) rfl, ?_⟩
  conv => whnf
  refine ⟨_, loadP agg30 (i := 1) (hc.le (Hp.le_set hb1)).1 rfl, ?_⟩
  conv => whnf
  refine aRunK_if rfl ?_ ?_
  · exact ⟨by omega, by omega, by omega, by show (8 : Int) * _ ≤ _; omega, by show 0 < 1; omega⟩
  intro d hd
  conv => whnf
  have hdb : d ≠ b1 := fun e => by rw [e, Hp.set_same] at hd; cases hd
  have hd0 : h d = none := by rw [Hp.set_other _ _ hdb] at hd; exact hd
  refine loop_at [13] [] (fun r vs _ h' => ∃ j : Nat, j ≤ ws.length ∧ r = ws.length - j ∧ vs = [.v (.int .i64 j)] ∧ h' = (h.set b1 (rowO 37 [.pointer (some ⟨c, 0, none⟩)])).set d (rowO 3 (iv (upI j ++ List.replicate (ws.length - j) 0)))) ws.length ⟨0, by omega, by omega, rfl, ?_⟩ ?_
  · show (h.set b1 (rowO 37 [.pointer (some ⟨c, 0, none⟩)])).set d (.cells (zeroRow #[.int .i64 0] (ws.length * 1)) 3 (0, 0)) = _
    rw [zeroRow_one, Nat.mul_one]
    simp [upI, iv, rowO]
  rintro r vs cs mm bx _ ⟨j, hj, rfl, rfl, rfl⟩
  conv => whnf
  refine bsel_intro (fun h1 => ?_) (fun h1 => ?_)
  · simp only [decide_eq_true_eq] at h1
    conv => whnf
    refine need_intro ⟨by omega, by omega⟩ ?_
    conv => whnf
    refine ⟨_, storeI (i := j) j (Hp.set_same _ _ _) (by simp [upI_length]; omega), ?_⟩
    conv => whnf
    refine ⟨ws.length - (j + 1), by omega, j + 1, by omega, rfl, ?_, ?_⟩
    · show [MV.v (.int .i64 (IntKind.i64.wrap (j + 1)))] = _
      rw [IntWalk.i64_in _ (by omega)]; rfl
    · rw [Hp.set_set]
      obtain ⟨m, hm⟩ : ∃ m, ws.length - j = m + 1 := ⟨ws.length - j - 1, by omega⟩
      rw [hm, show ws.length - (j + 1) = m by omega, List.replicate_succ]
      have := set_mid (upI j) 0 (j : Int) (List.replicate m 0)
      rw [upI_length] at this
      rw [this]
      simp [upI, List.range_succ]
  · simp only [decide_eq_false_iff_not] at h1
    obtain rfl : j = ws.length := by omega
    conv => whnf
    have hle1 : h.le (h.set b1 (rowO 37 [.pointer (some ⟨c, 0, none⟩)])) := Hp.le_set hb1
    have hd1 : (h.set b1 (rowO 37 [.pointer (some ⟨c, 0, none⟩)])) d = none := hd
    have hs := sortStable_x d ws.length (upI ws.length) 123 #[] #[.pointer (some ⟨b1, 0, none⟩)] (cmpW ws) (h.set b1 (rowO 37 [.pointer (some ⟨c, 0, none⟩)]))
      ((h.set b1 (rowO 37 [.pointer (some ⟨c, 0, none⟩)])).set d (rowO 3 (iv (upI ws.length ++ List.replicate (ws.length - ws.length) 0))))
    rw [upI_length] at hs
    refine hs _ (by omega) (Nat.le_refl _) (by omega) (Hp.le_set hd1) hd1 (by rw [Hp.set_same]; simp) (by kernel_rfl) (fun x y h' K' hx hy hle hk' => ?_) ?_
    · exact row1_x x y c b b1 k ws h' K' (upI_mem hx) (upI_mem hy) ((hc.le hle1).le hle) (hle _ _ (Hp.set_same _ _ _)) hk'
    conv => whnf
    refine ⟨h.set d (rowO 3 (iv (rowL ws))), ?_, hk d hd0⟩
    rw [Hp.set_set]
    intro x o hx
    unfold Hp.set at hx ⊢
    split at hx
    · rename_i hxd; rw [if_pos hxd]; exact hx
    · rename_i hxd
      rw [if_neg hxd]
      split
      · rename_i hxb; rw [hxb, hb1] at hx; cases hx
      · exact hx
end Go.Proofs.YtmegglmeiecnfaaGreat
