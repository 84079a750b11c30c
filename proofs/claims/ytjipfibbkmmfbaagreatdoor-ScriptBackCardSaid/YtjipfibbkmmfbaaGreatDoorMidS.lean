/-
  THE MIDDLE LAYER: strings as lists of bytes; strings turned to bytes, bytes to strings.
-/
import Derived.Test.YtjipfibbkmmfbaaGreatDoorMidR
import Derived.Laws.Strings
namespace Go.Mid
set_option linter.unusedSimpArgs false
set_option linter.unusedVariables false
open Go Go.RowKit

/-- A byte as a value. -/
abbrev byV (b : UInt8) : Value := .int .u8 b.toNat
theorem mid_shape {P : Program} {r : Nat} {c : Array Value} {e : TypeId} {f : Nat × Nat} {h : Hp} {K : Option (TypeId × Nat) → Hp → Prop} (hb : h r = some (.cells c e f)) (hk : K (some (e, c.size)) h) : mid P (shape r) h K := by
  unfold shape
  simp only [mid, hb]
  exact hk
theorem mid_freeze {P : Program} {a : Addr} {n : Nat} {c : Array Value} {e : TypeId} {f : Nat × Nat} {h : Hp} {K : Unit → Hp → Prop} (hn : n ≠ 0) (hb : h a.block = some (.cells c e f)) (hk : K () (h.freeze a n)) : mid P (freeze a n) h K := by
  unfold freeze
  simp only [mid, hb, if_neg hn]
  exact hk
theorem mid_choose {P : Program} {α : Type} {q : Question} {k : Nat → Sem α} {h : Hp} {K : α → Hp → Prop} (hf : q.forced = false) (hk : ∀ t, mid P (k (q.cut t)) h K) : mid P (.choose q k) h K := by
  unfold mid
  rw [hf]
  exact hk
theorem mid_choose2 {P : Program} {q : Question} {h : Hp} {K : Nat → Hp → Prop} (hf : q.forced = false) (hk : ∀ t, K (q.cut t) h) : mid P (choose q) h K := mid_choose hf hk
/-- **A string is turned to bytes**: a row of one's own, which is not written. -/
theorem toBytes {P : Program} {src dst el : TypeId} {x : Operand} {ρ : Operand → Value} {o : Oper} {l : List UInt8} {h : Hp} {K : Next → Hp → Prop}
    (ho : o.op = .convert src dst x) (hs : P.underlying src = some .string) (hd : P.underlying dst = some (.slice el)) (he : P.underlying el = some (.int .u8)) (hx : ρ x = .string (bs l))
    (hk : ∀ b cap h', h b = none → h.le h' → (∀ c, c ≠ b → h' c = h c) → (∀ i y, l[i]? = some y → h'.cell? ⟨b, i, none⟩ = some (byV y)) → K (.value (.slice (some ⟨b, 0, none⟩) l.length cap)) h') : semK P (execOp ρ o) h K := by
  refine ⟨?_⟩
  have e : execOp ρ o = (convert src dst (.string (bs l)) >>= fun v => Pure.pure (Next.value v)) := by
    unfold execOp
    simp only [ho, hx]
  rw [e]
  refine mid_bind2 ?_
  unfold convert
  refine mid_bind2 (mid_underlying hs ?_)
  refine mid_bind2 (mid_underlying hd ?_)
  show mid P (underlying el >>= fun u => _) h _
  refine mid_bind2 (mid_underlying he ?_)
  show mid P (Conv.stringToBytes el (bs l)) h _
  unfold Conv.stringToBytes
  refine mid_bind2 ?_
  refine mid_choose2 rfl fun t => ?_
  generalize hcap : (Question.appendCap (bs l).size 0 el).cut t = cap
  refine mid_bind2 ?_
  refine mid_bind2 ?_
  intro b hb
  generalize hcs : ((bs l).data.map fun b => Value.int .u8 b.toNat) ++ Array.replicate (cap - (bs l).size) (Value.int .u8 0) = cs
  refine mid_pure ?_
  refine mid_bind2 ?_
  unfold markStringish
  refine mid_bind2 ?_
  have hat : (h.set b (.cells cs el)) b = some (.cells cs el (0, 0)) := Hp.set_same _ _ _
  refine mid_shape hat ?_
  refine mid_freeze (by decide) hat ?_
  refine mid_pure ?_
  have hfz : (h.set b (.cells cs el)).freeze ⟨b, cs.size, none⟩ 1 = h.set b (.cells cs el (cs.size, cs.size + 1)) := by
    unfold Hp.freeze
    simp only [hat]
    rw [if_pos (by rfl), Hp.set_set]
  show K _ ((h.set b (.cells cs el)).freeze ⟨b, cs.size, none⟩ 1)
  rw [hfz, bs_size]
  refine (hk b cap _ hb (Hp.le_set hb) (fun c hc => Hp.set_other _ _ hc) fun i y hy => ?_)
  unfold Hp.cell?
  rw [Hp.set_same]
  have hlt := (List.getElem?_eq_some_iff.1 hy).1
  have : cs[i]? = some (byV y) := by
    subst hcs
    rw [Array.getElem?_append_left (by simpa [bs] using hlt)]
    simp [bs, hy]
  simpa using this
theorem mid_bytes {P : Program} {h : Hp} {K : ByteArray → Hp → Prop} (F : Value → ByteArray → Sem (ForInStep ByteArray)) (hF : ∀ y s, F (byV y) s = Pure.pure (.yield (s.push (UInt8.ofNat (Int.toNat y.toNat))))) : ∀ (l : List UInt8) (a : List UInt8), K (bs (a ++ l)) h →
    mid P (forIn (l.map byV) (bs a) F) h K
  | [], a, hk => by
    rw [List.append_nil] at hk
    exact hk
  | y :: l, a, hk => by
    rw [List.map_cons, List.forIn_cons, hF]
    refine mid_bind2 (mid_pure ?_)
    have : (bs a).push (UInt8.ofNat (Int.toNat y.toNat)) = bs (a ++ [y]) := by
      apply ByteArray.ext
      rw [ByteArray.data_push]
      simp [bs]
    show mid P (forIn (l.map byV) ((bs a).push _) F) h K
    rw [this]
    exact mid_bytes F hF l (a ++ [y]) (by simpa using hk)
/-- **Bytes are turned to a string.** -/
theorem fromBytes {P : Program} {src dst el : TypeId} {x : Operand} {ρ : Operand → Value} {o : Oper} {base : Option Addr} {c : Nat} {l : List UInt8} {h : Hp} {K : Next → Hp → Prop}
    (ho : o.op = .convert src dst x) (hs : P.underlying src = some (.slice el)) (hd : P.underlying dst = some .string) (he : P.underlying el = some (.int .u8)) (hx : ρ x = .slice base l.length c)
    (hr : ∀ i y, l[i]? = some y → ∃ a, base = some a ∧ h.cell? (a.add i) = some (byV y)) (hk : K (.value (.string (bs l))) h) : semK P (execOp ρ o) h K := by
  refine ⟨?_⟩
  have e : execOp ρ o = (convert src dst (.slice base l.length c) >>= fun v => Pure.pure (Next.value v)) := by
    unfold execOp
    simp only [ho, hx]
  rw [e]
  refine mid_bind2 ?_
  unfold convert
  refine mid_bind2 (mid_underlying hs ?_)
  refine mid_bind2 (mid_underlying hd ?_)
  show mid P (underlying el >>= fun u => _) h _
  refine mid_bind2 (mid_underlying he ?_)
  show mid P (Conv.bytesToString (.slice base l.length c)) h _
  unfold Conv.bytesToString
  cases base with
  | none =>
    have : l = [] := by
      cases l with
      | nil => rfl
      | cons y l => obtain ⟨a, ha, _⟩ := hr 0 y rfl; cases ha
    subst this
    exact hk
  | some a =>
    refine mid_bind2 (mid_loadCells _ (l.map byV) (by simp) (fun j v hj => ?_) ?_)
    · rw [List.getElem?_map] at hj
      cases hy : l[j]? with
      | none => rw [hy] at hj; cases hj
      | some y =>
        rw [hy] at hj; cases hj
        obtain ⟨a', ha, hc⟩ := hr j y hy
        cases ha; exact hc
    · refine mid_bind2 ?_
      rw [List.forIn_toArray]
      exact mid_bytes _ (fun y s => rfl) l [] hk
theorem keq {K : Value → Hp → Prop} {v v' : Value} {h : Hp} (hk : K v h) (e : v' = v) : K v' h := e ▸ hk
/-- Is it a digit? -/
def dig (b : UInt8) : Bool := decide (48 ≤ b.toNat ∧ b.toNat ≤ 57)
/-- Without the digits behind, without those ahead. -/
def trimR (l : List UInt8) : List UInt8 := (l.reverse.dropWhile dig).reverse
theorem trimR_snoc (l : List UInt8) (b : UInt8) : trimR (l ++ [b]) = if dig b = true then trimR l else l ++ [b] := by
  unfold trimR
  rw [List.reverse_append, List.reverse_singleton, List.singleton_append, List.dropWhile_cons]
  by_cases h : dig b = true <;> simp [h]
theorem dropW_nil {p : UInt8 → Bool} : ∀ l : List UInt8, l.dropWhile p = [] ↔ ∀ b ∈ l, p b = true
  | [] => by simp
  | a :: l => by
    rw [List.dropWhile_cons]
    by_cases h : p a = true
    · rw [if_pos h, dropW_nil l]; simp [h]
    · rw [if_neg h]; simp [h]
theorem trim_nil (l : List UInt8) : (trimR l).dropWhile dig = [] ↔ ∀ b ∈ l, dig b = true := by
  rw [dropW_nil]
  unfold trimR
  constructor
  · intro h b hb
    rw [← List.reverse_reverse l] at hb
    rw [List.mem_reverse, ← List.takeWhile_append_dropWhile (p := dig) (l := l.reverse), List.mem_append] at hb
    rcases hb with hb | hb
    · exact List.all_eq_true.1 (List.all_takeWhile (p := dig) (l := l.reverse)) b hb
    · exact h b (List.mem_reverse.2 hb)
  · intro h b hb
    exact h b (List.mem_reverse.1 ((List.dropWhile_sublist dig).subset (List.mem_reverse.1 hb)))
/-- A number in digits. -/
def valL (l : List UInt8) : Int := l.foldl (fun n b => n * 10 + ((b.toNat : Int) - 48)) 0
theorem valL_snoc (l : List UInt8) (b : UInt8) : valL (l ++ [b]) = valL l * 10 + ((b.toNat : Int) - 48) := by
  unfold valL; rw [List.foldl_append]; rfl
theorem valL_le : ∀ (l : List UInt8), (∀ b ∈ l, dig b = true) → 0 ≤ valL l ∧ valL l < 10 ^ l.length := by
  intro l
  induction h : l.length generalizing l with
  | zero => intro _; obtain rfl := List.eq_nil_of_length_eq_zero h; exact ⟨by decide, by decide⟩
  | succ n ih =>
    intro hd
    have hne : l ≠ [] := fun e => by subst e; cases h
    obtain ⟨r, b, rfl⟩ : ∃ r b, l = r ++ [b] := ⟨l.dropLast, l.getLast hne, (List.dropLast_concat_getLast hne).symm⟩
    have hr := ih r (by simpa using h) fun x hx => hd x (by simp [hx])
    have hb := hd b (by simp)
    unfold dig at hb
    simp only [decide_eq_true_eq] at hb
    rw [valL_snoc, Int.pow_succ]
    omega
end Go.Mid
