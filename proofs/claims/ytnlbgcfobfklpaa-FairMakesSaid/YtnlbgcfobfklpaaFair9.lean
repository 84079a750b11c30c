/-
  Copies, and how long each hart waits, of the program and as the document tells it.
-/
import Derived.Test.YtnlbgcfobfklpaaFair8
namespace Go.Proofs.Ytnlbgcfobfklpaa
open Go Go.Mid Go.RowKit
attribute [local irreducible] X MLoop mid
/-- A slice of numbers is added to one that grows. -/
theorem appS {ρ : Operand → Value} {o : Oper} {a b : Operand} {s : Value} {l : List Int} {h : Hp} {n : Nat} {cs : List Value} {ob : Option Nat} {base : Option Addr} {cap : Nat} {K : Next → Hp → Prop}
    (ho : o.op = .call { callee := .builtin .append, args := #[a, b], argTypes := #[22, 22] }) (ha : ρ a = s) (hb : ρ b = .slice base l.length cap) (hs : Gr h 3 1 s n cs ob) (hx : ∀ i x, l[i]? = some x → ∃ a, base = some a ∧ h.cell? (a.add i) = some (.int .i64 x)) (hn : n + l.length ≤ 2 ^ 40)
    (hk : ∀ s' h' ob', Gr h' 3 1 s' (n + l.length) (cs ++ iv l) ob' → Turn h h' ob ob' → K (.value s') h') : mid Try.prog (execOp ρ o) h K := by
  have e : execOp ρ o = (Builtin.append_ #[22, 22] o.type #[s, .slice base l.length cap] >>= fun v => Pure.pure (Next.value v)) := by
    subst ha
    unfold execOp
    simp only [ho]
    simp [resolve, invoke, builtin, hb]
  rw [e]
  refine mid_bind2 ?_
  have hi : Try.prog.info? 3 = some Try.prog.types[3] := by kernel_rfl
  refine mid_append (e := 3) (z := .int .i64 0) (size := 1) (bytes := 8) (by kernel_rfl) hi (by kernel_rfl) (by kernel_rfl) (by kernel_rfl) rfl hs (news := iv l) (by simp [iv]) (fun j u hj => ?_) (fun hh => ?_) (by simp [iv]; intro x _; rfl) (by simp only [maxLen]; omega) (by omega) (fun s' h' ob' hg ht => mid_pure (hk s' h' ob' hg ht))
  · rw [iv, List.getElem?_map] at hj
    cases hl : l[j]? with
    | none => rw [hl] at hj; cases hj
    | some x => rw [hl] at hj; cases hj; exact hx j x hl
  · cases l with
    | nil => rfl
    | cons x l => obtain ⟨a, e1, _⟩ := hx 0 x rfl; rw [hh] at e1; cases e1
set_option maxHeartbeats 4000000 in
set_option maxRecDepth 10000 in
theorem clone_x (a : Addr) (l : List Int) (cap : Nat) (h : Hp) (K : Value → Hp → Prop) (hlen : l.length ≤ 2 ^ 30)
    (hx : ∀ i x, l[i]? = some x → h.cell? (a.add i) = some (.int .i64 x))
    (hk : ∀ s h', h.le h' → Rd Try.prog 3 1 h' s (iv l) → K s h') : X Try.prog 17 #[.slice (some a) l.length cap] h K := by
  refine fnv (args := [.slice (some a) l.length cap]) mixed [] [] [] Try.func17 rfl (by kernel_rfl) ?_
  conv => whnf
  intro b hb
  conv => whnf
  have hle := Hp.le_set (o := rowO 3 []) hb
  refine appS (h := h.set b (rowO 3 [])) (cs := []) (n := 0) (ob := some b) (base := some a) rfl rfl rfl ⟨rfl, .inr ⟨b, 0, [], rfl, rfl, Nat.le_refl _, rfl, Hp.set_same _ _ _⟩⟩ (fun i x hi => ⟨a, rfl, cell_le hle (hx i x hi)⟩) (by omega) (fun s' h' ob' hg ht => ?_)
  have ht2 := ht.le hle fun c hc => by cases hc; exact hb
  conv => whnf
  exact hk s' h' ht2.1 (hg.rd agg3)
set_option maxHeartbeats 4000000 in
set_option maxRecDepth 10000 in
theorem waits_x (c b : Nat) (k : Int) (ws : List Int) (h : Hp) (K : Value → Hp → Prop) (hw : ws.length ≤ 8) (hc : Ch h c b k ws)
    (hk : ∀ s h', h.le h' → Rd Try.prog 3 1 h' s (iv ws) → K s h') : X Try.prog 9 #[.pointer (some ⟨c, 0, none⟩)] h K := by
  refine fnv (args := [.pointer (some ⟨c, 0, none⟩)]) mixed [] [] [] Try.func9 rfl (by kernel_rfl) ?_
  conv => whnf
  refine ⟨_, loadP agg30 (i := 1) hc.1 rfl, ?_⟩
  conv => whnf
  refine clone_x ⟨b, 0, none⟩ ws ws.length h _ (by omega) (fun i x hi => ?_) (fun s h' hle hr => ?_)
  · rw [addr_add, Nat.zero_add]
    exact cell_row hc.2 (by rw [List.getElem?_map, hi]; rfl)
  conv => whnf
  exact hk s h' hle hr
set_option maxHeartbeats 4000000 in
set_option maxRecDepth 10000 in
theorem waits0_x (h : Hp) (K : Value → Hp → Prop) (hk : K (.slice none 0 0) h) : X Try.prog 9 #[.pointer none] h K := by
  refine fnv (args := [.pointer none]) mixed [] [] [] Try.func9 rfl (by kernel_rfl) ?_
  conv => whnf
  exact hk
set_option maxHeartbeats 4000000 in
set_option maxRecDepth 10000 in
theorem next0_x (r : Int) (h : Hp) (K : Value → Hp → Prop) (hk : K (.int .i64 0) h) : X Try.prog 8 #[.pointer none, .int .u8 r] h K := by
  refine fnv (args := [.pointer none, .int .u8 r]) mixed [] [] [] Try.func8 rfl (by kernel_rfl) ?_
  conv => whnf
  exact hk
/-- How long each hart waits behind some picks, as the document tells it. -/
def rwaits (l : List Int) (n : Nat) : List Int := (List.range n).map fun h : Nat => (gone (h : Int) l : Int)
theorem rwaits_snoc (l : List Int) (n : Nat) : rwaits l (n + 1) = rwaits l n ++ [(gone n l : Int)] := by simp [rwaits, List.range_succ]
theorem rwaits_length (l : List Int) (n : Nat) : (rwaits l n).length = n := by simp [rwaits]
set_option maxHeartbeats 4000000 in
set_option maxRecDepth 10000 in
theorem rwaits_x (s : Value) (l : List Int) (n : Nat) (h : Hp) (K : Value → Hp → Prop) (hlen : l.length ≤ 2 ^ 30) (hn : n ≤ 8)
    (hr : Rd Try.prog 3 1 h s (iv l))
    (hk : ∀ s h', h.le h' → Rd Try.prog 3 1 h' s (iv (rwaits l n)) → K s h') : X Try.prog 14 #[s, .int .i64 n] h K := by
  obtain ⟨base, cap, rfl, f⟩ := rdI hr
  refine fnv (args := [.slice base l.length cap, .int .i64 n]) mixed [] [] [] Try.func14 rfl (by kernel_rfl) ?_
  conv => whnf
  intro b hb
  conv => whnf
  refine loop_at [6, 5] [] (fun r vs _ h' => ∃ (j : Nat) (s' : Value) (ob : Option Nat), j ≤ n ∧ r = n - j ∧ vs = [.v (.int .i64 j), .v s'] ∧ h.le h' ∧ Gr h' 3 1 s' j (iv (rwaits l j)) ob ∧ ∀ b', ob = some b' → h b' = none) n
    ⟨0, .slice (some ⟨b, 0, none⟩) 0 0, some b, by omega, by omega, rfl, Hp.le_set hb, ⟨rfl, .inr ⟨b, 0, [], rfl, rfl, Nat.le_refl _, rfl, Hp.set_same _ _ _⟩⟩, fun b' hb' => by cases hb'; exact hb⟩ ?_
  rintro r vs cs mm bx h' ⟨j, s', ob, hj, rfl, rfl, hle, hgr, hob⟩
  conv => whnf
  refine bsel_intro (fun h4 => ?_) (fun h4 => ?_) <;> simp only [decide_eq_true_eq, decide_eq_false_iff_not] at h4
  · conv => whnf
    refine loop_at [8, 7] [] (fun r vs _ h2 => h' = h2 ∧ ∃ i : Nat, i ≤ l.length ∧ r = l.length - i ∧ vs = [.v (.int .i64 i), .v (.int .i64 (gone j (l.take i)))]) l.length
      ⟨rfl, 0, by omega, by omega, rfl⟩ ?_
    rintro r vs cs mm2 bx2 _ ⟨rfl, i, hi, rfl, rfl⟩
    conv => whnf
    refine bsel_intro (fun h5 => ?_) (fun h5 => ?_) <;> simp only [decide_eq_true_eq, decide_eq_false_iff_not] at h5
    · have hil : i < l.length := by omega
      have hsn := gone_snoc j l i hil
      have hgl := gone_le j (l.take i)
      rw [List.length_take] at hgl
      have hgd : l.getD i 0 = l[i] := by rw [List.getD_eq_getElem?_getD, List.getElem?_eq_getElem hil]; rfl
      rw [hgd] at hsn
      obtain ⟨a, rfl, ha⟩ := f i _ (List.getElem?_eq_getElem hil)
      conv => whnf
      refine need_intro ⟨by omega, by omega⟩ ?_
      conv => whnf
      refine ⟨_, loadH_le hle ha, ?_⟩
      conv => whnf
      refine bsel_intro (fun h6 => ?_) (fun h6 => ?_) <;> simp only [beq_iff_eq, beq_eq_false_iff_ne, ne_eq] at h6
      · rw [if_pos h6] at hsn
        conv => whnf
        refine ⟨l.length - (i + 1), by omega, rfl, i + 1, by omega, rfl, ?_⟩
        show [MV.v (.int .i64 (IntKind.i64.wrap (i + 1))), MV.v (.int .i64 0)] = _
        rw [IntWalk.i64_in _ (by omega), hsn]; rfl
      · rw [if_neg h6] at hsn
        conv => whnf
        refine ⟨l.length - (i + 1), by omega, rfl, i + 1, by omega, rfl, ?_⟩
        show [MV.v (.int .i64 (IntKind.i64.wrap (i + 1))), MV.v (.int .i64 (IntKind.i64.wrap (gone j (l.take i) + 1)))] = _
        rw [IntWalk.i64_in ((i : Int) + 1) (by omega), IntWalk.i64_in ((gone j (l.take i) : Int) + 1) (by omega), hsn]; rfl
    · obtain rfl : i = l.length := by omega
      conv => whnf
      intro x hx
      conv => whnf
      rw [List.take_length] at *
      refine app30 (h := h'.set x (rowO 3 [.int .i64 (gone j l)])) rfl rfl rfl (hgr.fresh hx) (Hp.set_same _ _ _) rfl (by omega) (fun s3 h3 ob3 hg3 ht => ?_)
      have t1 := ht.le (Hp.le_trans hle (Hp.le_set hx)) hob
      conv => whnf
      refine ⟨n - (j + 1), by omega, j + 1, s3, ob3, by omega, rfl, ?_, t1.1, ?_, t1.2⟩
      · show [MV.v (.int .i64 (IntKind.i64.wrap (j + 1))), MV.v s3] = _
        rw [IntWalk.i64_in _ (by omega)]; rfl
      · rw [rwaits_snoc, iv, List.map_append]
        exact hg3
  · obtain rfl : j = n := by omega
    conv => whnf
    exact hk s' h' hle (hgr.rd agg3)
end Go.Proofs.Ytnlbgcfobfklpaa
