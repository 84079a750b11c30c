/-
  The picks of numbers.
-/
import Derived.Test.YtmegglmeiecnfaaGreatFair5
namespace Go.Proofs.YtmegglmeiecnfaaGreat
open Go Go.Mid Go.RowKit
attribute [local irreducible] X MLoop mid
set_option maxHeartbeats 4000000 in
set_option maxRecDepth 10000 in
theorem new_x (n k : Int) (h : Hp) (K : Value → Hp → Prop)
    (hbad : (n < 1 ∨ 8 < n ∨ k < n) → K (.tuple #[.pointer none, .int .i64 1]) h)
    (hk : 1 ≤ n → n ≤ 8 → n ≤ k → ∀ b c, h b = none → h c = none → c ≠ b → K (.tuple #[.pointer (some ⟨c, 0, none⟩), .int .i64 0]) ((h.set b (rowO 3 (iv (List.replicate n.toNat 0)))).set c (rowO 47 [.int .i64 k, .slice (some ⟨b, 0, none⟩) n.toNat n.toNat]))) :
    X Tryz.prog 12 #[.int .i64 n, .int .i64 k] h K := by
  refine fnv (args := [.int .i64 n, .int .i64 k]) mixed [] [] [] Tryz.func12 rfl (by kernel_rfl) ?_
  conv => whnf
  refine bsel_intro (fun h1 => ?_) (fun h1 => ?_) <;> simp only [decide_eq_true_eq, decide_eq_false_iff_not] at h1
  · conv => whnf
    exact hbad (by omega)
  conv => whnf
  refine bsel_intro (fun h2 => ?_) (fun h2 => ?_) <;> simp only [decide_eq_true_eq, decide_eq_false_iff_not] at h2
  · conv => whnf
    exact hbad (by omega)
  conv => whnf
  refine bsel_intro (fun h3 => ?_) (fun h3 => ?_) <;> simp only [decide_eq_true_eq, decide_eq_false_iff_not] at h3
  · conv => whnf
    exact hbad (by omega)
  conv => whnf
  refine aRunK_if rfl ?_ ?_
  · exact ⟨by omega, by omega, by omega, by show (8 : Int) * _ ≤ _; omega, by show 0 < 1; omega⟩
  intro b hb
  conv => whnf
  intro c hc
  have hcb : c ≠ b := fun e => by rw [e, Hp.set_same] at hc; cases hc
  have hc0 : h c = none := by rw [Hp.set_other _ _ hcb] at hc; exact hc
  have := hk (by omega) (by omega) (by omega) b c hb hc0 hcb
  conv => whnf
  have e1 : (.cells (zeroRow #[.int .i64 0] (n.toNat * 1)) 3 (0, 0) : Obj) = rowO 3 (iv (List.replicate n.toNat 0)) := by
    rw [zeroRow_one, Nat.mul_one]; simp [iv]
  rw [← e1] at this
  exact this
set_option maxRecDepth 100000 in
theorem app30 {ρ : Operand → Value} {o : Oper} {a b : Operand} {s v : Value} {h : Hp} {n x c : Nat} {cs : List Value} {ob : Option Nat} {K : Next → Hp → Prop}
    (ho : o.op = .call { callee := .builtin .append, args := #[a, b], argTypes := #[34, 34] }) (ha : ρ a = s) (hb : ρ b = .slice (some ⟨x, 0, none⟩) 1 c) (hs : Gr h 3 1 s n cs ob) (hx : h x = some (rowO 3 [v])) (h1 : v.oneCell' = true) (hn : n ≤ 2 ^ 40)
    (hk : ∀ s' h' ob', Gr h' 3 1 s' (n + 1) (cs ++ [v]) ob' → Turn h h' ob ob' → K (.value s') h') : mid Tryz.prog (execOp ρ o) h K := by
  have e : execOp ρ o = (Builtin.append_ #[34, 34] o.type #[s, .slice (some ⟨x, 0, none⟩) 1 c] >>= fun v => Pure.pure (Next.value v)) := by
    subst ha
    unfold execOp
    simp only [ho]
    simp [resolve, invoke, builtin, hb]
  rw [e]
  refine mid_bind2 ?_
  have hi : Tryz.prog.info? 3 = some Tryz.prog.types[3] := by kernel_rfl
  refine mid_append (e := 3) (z := .int .i64 0) (size := 1) (bytes := 8) (by kernel_rfl) hi (by kernel_rfl) (by kernel_rfl) (by kernel_rfl) rfl hs (news := [v]) (by simp) (fun j u hj => ⟨_, rfl, ?_⟩) (fun hh => by cases hh) (by simp [h1]) (by simp only [maxLen]; omega) (by omega) (fun s' h' ob' hg ht => mid_pure (hk s' h' ob' hg ht))
  rw [addr_add, Nat.zero_add]
  exact cell_row hx hj
def nextW (k : Int) (ws : List Int) (r : Int) : List Int := (ws.map (· + 1)).set (chooseL k ws r).toNat 0
def picksL (k : Int) : List Int → List Int → List Int
  | _, [] => []
  | ws, r :: rs => chooseL k ws r :: picksL k (nextW k ws r) rs
def afterL (k : Int) (ws : List Int) (rs : List Int) : List Int := rs.foldl (nextW k) ws
theorem nextW_length (k : Int) (ws : List Int) (r : Int) : (nextW k ws r).length = ws.length := by simp [nextW]
theorem afterL_length (k : Int) : ∀ (rs ws : List Int), (afterL k ws rs).length = ws.length
  | [], _ => rfl
  | r :: rs, ws => by unfold afterL; rw [List.foldl_cons]; exact (afterL_length k rs _).trans (nextW_length k ws r)
theorem nextW_le {k : Int} {ws : List Int} {r m : Int} (h : ∀ x ∈ ws, 0 ≤ x ∧ x ≤ m) (hm : 0 ≤ m) : ∀ x ∈ nextW k ws r, 0 ≤ x ∧ x ≤ m + 1 := by
  intro x hx
  unfold nextW at hx
  rcases List.mem_or_eq_of_mem_set hx with hx | rfl
  · obtain ⟨y, hy, rfl⟩ := List.mem_map.1 hx
    have := h y hy
    omega
  · omega
theorem picksL_snoc (k : Int) : ∀ (rs ws : List Int) (r : Int), picksL k ws (rs ++ [r]) = picksL k ws rs ++ [chooseL k (afterL k ws rs) r]
  | [], ws, r => rfl
  | r' :: rs, ws, r => by simp only [List.cons_append, picksL, picksL_snoc k rs]; rfl
theorem afterL_snoc (k : Int) (ws rs : List Int) (r : Int) : afterL k ws (rs ++ [r]) = nextW k (afterL k ws rs) r := by simp [afterL]
theorem afterL_le (k : Int) (n : Nat) : ∀ (rs : List Int) , ∀ x ∈ afterL k (List.replicate n 0) rs, 0 ≤ x ∧ x ≤ rs.length := by
  have : ∀ (rs ws : List Int) (m : Int), 0 ≤ m → (∀ x ∈ ws, 0 ≤ x ∧ x ≤ m) → ∀ x ∈ afterL k ws rs, 0 ≤ x ∧ x ≤ m + rs.length := by
    intro rs
    induction rs with
    | nil => intro ws m hm h x hx; have := h x hx; simp; exact this
    | cons r rs ih =>
      intro ws m hm h x hx
      have := ih (nextW k ws r) (m + 1) (by omega) (nextW_le h hm) x hx
      simp only [List.length_cons]; omega
  intro rs x hx
  have := this rs (List.replicate n 0) 0 (by omega) (fun y hy => by have := List.eq_of_mem_replicate hy; omega) x hx
  omega
theorem picksL_length (k : Int) : ∀ (rs ws : List Int), (picksL k ws rs).length = rs.length
  | [], _ => rfl
  | r :: rs, ws => by simp [picksL, picksL_length k rs]
theorem agg5 : isAggT Tryz.prog 5 = some false := by kernel_rfl
set_option maxHeartbeats 4000000 in
set_option maxRecDepth 10000 in
theorem make_x (base : Option Addr) (cap : Nat) (raw : List Int) (n k : Int) (h : Hp) (K : Value → Hp → Prop) (hlen : raw.length ≤ 2 ^ 30) (hraw : ∀ r ∈ raw, 0 ≤ r ∧ r < 256)
    (hrd : ∀ i r, raw[i]? = some r → ∃ a, base = some a ∧ h.cell? (a.add i) = some (.int .u8 r))
    (hbad : (n < 1 ∨ 8 < n ∨ k < n) → K (.tuple #[.slice none 0 0, .int .i64 1]) h)
    (hk : 1 ≤ n → n ≤ 8 → n ≤ k → ∀ s h', h.le h' → Rd Tryz.prog 3 1 h' s (iv (picksL k (List.replicate n.toNat 0) raw)) → K (.tuple #[s, .int .i64 0]) h') :
    X Tryz.prog 17 #[.slice base raw.length cap, .int .i64 n, .int .i64 k] h K := by
  refine fnv (args := [.slice base raw.length cap, .int .i64 n, .int .i64 k]) mixed [] [] [] Tryz.func17 rfl (by kernel_rfl) ?_
  conv => whnf
  refine new_x n k h _ (fun hb => ?_) (fun h1 h2 h3 b c hb hc hcb => ?_)
  · conv => whnf
    exact hbad hb
  conv => whnf
  have hK := hk h1 h2 h3
  generalize hz : List.replicate n.toNat (0 : Int) = ws0 at *
  have hl0 : n.toNat = ws0.length := by rw [← hz]; simp
  generalize hh0 : (h.set b (rowO 3 (iv ws0))).set c (rowO 47 [.int .i64 k, .slice (some ⟨b, 0, none⟩) n.toNat n.toNat]) = h0
  have hle0 : h.le h0 := by rw [← hh0]; exact Hp.le_keep (Hp.le_keep (Hp.le_refl h) hb) hc
  refine loop_at [24, 10] [] (fun r vs _ h' => ∃ (j : Nat) (s : Value) (ob : Option Nat), j ≤ raw.length ∧ r = raw.length - j ∧ vs = [.v (.int .i64 j), .v s] ∧ h.le h' ∧ Ch h' c b k (afterL k ws0 (raw.take j)) ∧ Gr h' 3 1 s j (iv (picksL k ws0 (raw.take j))) ob ∧ ∀ b', ob = some b' → h b' = none ∧ b' ≠ b ∧ b' ≠ c) raw.length
    ⟨0, .slice none 0 0, none, by omega, by omega, rfl, hle0, ?_, Gr.nil, fun b' hb' => by cases hb'⟩ ?_
  · rw [← hh0]
    refine ⟨?_, ?_⟩
    · rw [Hp.set_same, hl0]; rfl
    · rw [Hp.set_other _ _ (Ne.symm hcb), Hp.set_same]; rfl
  rintro r vs cs mm bx h' ⟨j, s, ob, hj, rfl, rfl, hle, hch, hgr, hob⟩
  conv => whnf
  refine bsel_intro (fun h4 => ?_) (fun h4 => ?_) <;> simp only [decide_eq_true_eq, decide_eq_false_iff_not] at h4
  · have hjr : j < raw.length := by omega
    have hget : raw[j]? = some raw[j] := List.getElem?_eq_getElem hjr
    have htk : raw.take (j + 1) = raw.take j ++ [raw[j]] := List.take_succ_eq_append_getElem hjr
    obtain ⟨a, rfl, ha⟩ := hrd j _ hget
    conv => whnf
    refine need_intro ⟨by omega, by omega⟩ ?_
    conv => whnf
    refine ⟨.int .u8 raw[j], ?_, ?_⟩
    · show loadH Tryz.prog 5 h' (a.add (j * 1)) = _
      rw [loadH_cell agg5, Nat.mul_one]
      exact cell_le hle ha
    conv => whnf
    have hlw := afterL_length k (raw.take j) ws0
    have hbd := afterL_le k n.toNat (raw.take j)
    rw [hz] at hbd
    rw [List.length_take] at hbd
    refine next_x c b k _ raw[j] h' _ (hraw _ (List.getElem_mem hjr)) (by omega) (fun x hx => by have := hbd x hx; omega) hch ?_
    have hpk := picksL_snoc k (raw.take j) ws0 raw[j]
    have haf := afterL_snoc k ws0 (raw.take j) raw[j]
    rw [← htk] at hpk haf
    conv => whnf
    intro x hx
    generalize hWd : rowO 3 (iv ((List.map (fun x => x + 1) (afterL k ws0 (raw.take j))).set (chooseL k (afterL k ws0 (raw.take j)) raw[j]).toNat 0)) = W at *
    have hleb : h.le (h'.set b W) := Hp.le_keep hle hb
    have hlex : h.le ((h'.set b W).set x (rowO 3 [.int .i64 (chooseL k (afterL k ws0 (raw.take j)) raw[j])])) := Hp.le_trans hleb (Hp.le_set hx)
    have hcx : ((h'.set b W).set x (rowO 3 [.int .i64 (chooseL k (afterL k ws0 (raw.take j)) raw[j])])) c = h' c := by
      have hcc : (h'.set b W) c = h' c := Hp.set_other _ _ hcb
      rw [Hp.set_other _ _ (Hp.ne hx (by rw [hcc]; exact hch.1)), hcc]
    have hbx : ((h'.set b W).set x (rowO 3 [.int .i64 (chooseL k (afterL k ws0 (raw.take j)) raw[j])])) b = some W := by
      have hbb : (h'.set b W) b = some W := Hp.set_same _ _ _
      rw [Hp.set_other _ _ (Hp.ne hx hbb), hbb]
    refine app30 (h := (h'.set b W).set x (rowO 3 [.int .i64 (chooseL k (afterL k ws0 (raw.take j)) raw[j])])) rfl rfl rfl ((hgr.set fun c hc => (hob c hc).2.1).fresh hx) (Hp.set_same _ _ _) rfl (by omega) (fun s' h3 ob' hg3 ht => ?_)
    have t1 := ht.le hlex fun b' hb' => (hob b' hb').1
    have t2 := ht.keep (hcx.trans hch.1) fun b' hb' => (hob b' hb').2.2
    have t3 := ht.keep hbx fun b' hb' => (hob b' hb').2.1
    conv => whnf
    refine ⟨raw.length - (j + 1), by omega, j + 1, s', ob', by omega, rfl, ?_, t1.1, ⟨?_, ?_⟩, ?_, fun b' hb' => ⟨t1.2 b' hb', t3.2 b' hb', t2.2 b' hb'⟩⟩
    · show [MV.v (.int .i64 (IntKind.i64.wrap (j + 1))), MV.v s'] = _
      rw [IntWalk.i64_in _ (by omega)]; rfl
    · rw [t2.1, haf, nextW_length]
    · rw [t3.1, haf, ← hWd]; rfl
    · rw [hpk]
      have := hg3
      rw [iv, List.map_append]
      exact this
  · obtain rfl : j = raw.length := by omega
    conv => whnf
    rw [List.take_length] at hgr
    exact hK s h' hle (hgr.rd agg3)
end Go.Proofs.YtmegglmeiecnfaaGreat
