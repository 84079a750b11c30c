/-
  THE MIDDLE LAYER: a slice of one's own that grows, up to what memory there is.
-/
import Derived.Test.YtlobclgbbhoeiaaGreatDoorMidXY
namespace Go.Mid
set_option linter.unusedSimpArgs false
set_option linter.unusedVariables false
open Go Go.RowKit
/-- One element is added to a slice of one's own. -/
theorem appOneB {P : Program} {t e : TypeId} {i : TypeInfo} {z : Value} {size bytes : Nat} (ht : P.underlying t = some (.slice e)) (hi : P.info? e = some i) (hz : i.zero = some z) (hsize : i.size = size) (hby : i.bytes = bytes) (hzs : z.cells.size = size) (hb0 : 0 < bytes)
    {ρ : Operand → Value} {o : Oper} {a b : Operand} {s : Value} {news : List Value} {h : Hp} {n x c : Nat} {cs : List Value} {ob : Option Nat} {K : Next → Hp → Prop}
    (ho : o.op = .call { callee := .builtin .append, args := #[a, b], argTypes := #[t, t] }) (ha : ρ a = s) (hb : ρ b = .slice (some ⟨x, 0, none⟩) 1 c) (hs : Gr h e size s n cs ob) (hx : h x = some (rowO e news)) (hl : news.length = size) (h1 : news.all Value.oneCell' = true) (hn : (n + 1) * bytes ≤ 140737488355328)
    (hk : ∀ s' h' ob', Gr h' e size s' (n + 1) (cs ++ news) ob' → Turn h h' ob ob' → K (.value s') h') : semK P (execOp ρ o) h K := by
  refine ⟨?_⟩
  have e : execOp ρ o = (Builtin.append_ #[t, t] o.type #[s, .slice (some ⟨x, 0, none⟩) 1 c] >>= fun v => Pure.pure (Next.value v)) := by
    subst ha
    unfold execOp
    simp only [ho]
    simp [resolve, invoke, builtin, hb]
  rw [e]
  refine mid_bind2 ?_
  refine mid_append ht hi hz hsize hby hzs hs (m := 1) (news := news) (by rw [hl, Nat.one_mul]) (fun j u hj => ⟨_, rfl, ?_⟩) (fun hh => by cases hh) h1 (by have := Nat.le_mul_of_pos_right (n + 1) hb0; simp only [maxLen]; omega) ?_ (fun s' h' ob' hg ht => mid_pure (hk s' h' ob' hg ht))
  · rw [addr_add, Nat.zero_add]
    exact cell_row hx hj
  · exact hn
theorem Owns.app1B {P : Program} {t e : TypeId} {i : TypeInfo} {z : Value} {size bytes : Nat} (ht : P.underlying t = some (.slice e)) (hi : P.info? e = some i) (hz : i.zero = some z) (hsize : i.size = size) (hby : i.bytes = bytes) (hzs : z.cells.size = size) (hb0 : 0 < bytes)
    {ρ : Operand → Value} {o : Oper} {a b : Operand} {s : Value} {news : List Value} {k h : Hp} {n x c : Nat} {cs : List Value} {K : Next → Hp → Prop}
    (ho : o.op = .call { callee := .builtin .append, args := #[a, b], argTypes := #[t, t] }) (ha : ρ a = s) (hb : ρ b = .slice (some ⟨x, 0, none⟩) 1 c) (hs : Owns k h e size s n cs) (hx : h x = some (rowO e news)) (hl : news.length = size) (h1 : news.all Value.oneCell' = true) (hn : (n + 1) * bytes ≤ 140737488355328)
    (hk : ∀ s' h', Owns k h' e size s' (n + 1) (cs ++ news) → K (.value s') h') : semK P (execOp ρ o) h K := by
  obtain ⟨ob, g, hle, hno⟩ := hs
  refine appOneB ht hi hz hsize hby hzs hb0 ho ha hb g hx hl h1 hn fun s' h' ob' hg ht => ?_
  have := ht.le hle hno
  exact hk s' h' ⟨ob', hg, this.1, this.2⟩
/-- **A number is turned to a string of one rune.** -/
theorem toRune {P : Program} {src dst : TypeId} {x : Operand} {ρ : Operand → Value} {o : Oper} {k k' : IntKind} {n : Int} {h : Hp} {K : Next → Hp → Prop}
    (ho : o.op = .convert src dst x) (hs : P.underlying src = some (.int k)) (hd : P.underlying dst = some .string) (hx : ρ x = .int k' n) (hk : K (.value (.string (Utf8.encode n))) h) : semK P (execOp ρ o) h K := by
  refine ⟨?_⟩
  have e : execOp ρ o = (convert src dst (.int k' n) >>= fun v => Pure.pure (Next.value v)) := by
    unfold execOp
    simp only [ho, hx]
  rw [e]
  refine mid_bind2 ?_
  unfold convert
  refine mid_bind2 (mid_underlying hs ?_)
  refine mid_bind2 (mid_underlying hd ?_)
  exact hk
theorem rune_byte : ∀ n : Nat, n < 128 → Utf8.encode (n : Int) = bs [UInt8.ofNat n] := by decide +kernel
/-- A byte below 128 is a string of one byte. -/
theorem toChar {P : Program} {src dst : TypeId} {x : Operand} {ρ : Operand → Value} {o : Oper} {k k' : IntKind} {b : UInt8} {h : Hp} {K : Next → Hp → Prop}
    (ho : o.op = .convert src dst x) (hs : P.underlying src = some (.int k)) (hd : P.underlying dst = some .string) (hx : ρ x = .int k' b.toNat) (hb : b.toNat < 128) (hk : K (.value (.string (bs [b]))) h) : semK P (execOp ρ o) h K := by
  refine toRune ho hs hd hx ?_
  rw [rune_byte _ hb, UInt8.ofNat_toNat]
  exact hk
end Go.Mid
