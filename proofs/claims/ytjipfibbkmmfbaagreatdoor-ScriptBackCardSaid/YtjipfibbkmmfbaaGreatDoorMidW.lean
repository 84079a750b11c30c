/-
  THE MIDDLE LAYER: strings put into rows of bytes, and rows read as strings (what a builder does).
-/
import Derived.Test.YtjipfibbkmmfbaaGreatDoorMidT
import Derived.Lib.UnsafeStr
import Derived.Sort.Grow
import Derived.Deep.Draws
import Derived.Below
namespace Go.Mid
set_option linter.unusedSimpArgs false
set_option linter.unusedVariables false
open Go Go.RowKit
/-- **append**: a row of bytes grows by a string. -/
theorem mid_appendS {P : Program} {t t2 ty e : TypeId} {i : TypeInfo} {z : Value} {size bytes : Nat} (ht : P.underlying t = some (.slice e)) (ht2 : P.underlying t2 = some .string) (hi : P.info? e = some i) (hz : i.zero = some z)
    (hsize : i.size = size) (hby : i.bytes = bytes) (hzs : z.cells.size = size)
    {h : Hp} {s : Value} {n : Nat} {cs : List Value} {ob : Option Nat} (hs : Gr h e size s n cs ob)
    {x : ByteArray} {m : Nat} (hm : x.size = m) (hs1 : size = 1)
    (h63 : n + m ≤ maxLen) (hbytes : (n + m) * bytes ≤ 140737488355328) {K : Value → Hp → Prop}
    (hk : ∀ s' h' ob', Gr h' e size s' (n + m) (cs ++ x.data.toList.map fun b => Value.int .u8 (b.toNat : Int)) ob' → Turn h h' ob ob' → K s' h') :
    mid P (Builtin.append_ #[t, t2] ty #[s, .string x]) h K := by
  subst hsize; subst hby
  generalize hnew : (x.data.toList.map fun b => Value.int .u8 (b.toNat : Int)) = news at hk
  have hl : news.length = m * i.size := by rw [← hnew, List.length_map, Array.length_toList, hs1, Nat.mul_one]; exact hm
  have h1 : news.all Value.oneCell' = true := by rw [← hnew, List.all_eq_true]; intro v hv; obtain ⟨b, _, rfl⟩ := List.mem_map.1 hv; rfl
  have hfirst : ∀ {K' : Array Value → Hp → Prop}, K' news.toArray h → mid P (Builtin.firstCells i.size m (.string x)) h K' := by
    intro K' hk'
    have : ((x.extract 0 m).data.map fun b => Value.int .u8 (b.toNat : Int)) = news.toArray := by
      rw [← hm, ByteArray.extract_zero_size, ← hnew]; apply Array.ext'; simp
    show K' ((x.extract 0 m).data.map fun b => Value.int .u8 (b.toNat : Int)) h
    rw [this]; exact hk'
  have key : ∀ (sb : Option Addr) (cap : Nat), s = .slice sb n cap → (∀ {K' : Array Value → Hp → Prop}, K' cs.toArray h → mid P (Builtin.firstCells i.size n s) h K') →
      (n + m ≤ cap → mid P (Builtin.firstCells i.size m (.string x)) h fun new h' => mid P (match sb with
        | some a => storeCells (a.add (n * i.size)) new.toList >>= fun _ => Pure.pure (.slice sb (n + m) cap)
        | none => Pure.pure (.slice sb (n + m) cap)) h' K) → mid P (Builtin.append_ #[t, t2] ty #[s, .string x]) h K := by
    intro sb cap hsb hold hroom
    subst hsb
    unfold Builtin.append_
    refine mid_bind2 (mid_underlying ht ?_)
    refine mid_bind2 (mid_sizeOf hi ?_)
    refine mid_bind2 (mid_underlying ht2 ?_)
    refine mid_bind2 ?_
    refine mid_bind2 ?_
    refine mid_pure ?_
    rw [hm]
    show mid P (if n + m ≤ cap then _ else _) h K
    by_cases hle : n + m ≤ cap
    · rw [if_pos hle]
      refine mid_bind2 (mid_mono _ ?_ (hroom hle))
      intro new h' hh
      cases sb with
      | none => exact hh
      | some a => exact hh
    · rw [if_neg hle]
      have hlt : cap < n + m := by omega
      have hno : ¬ (((n + m : Nat) : Int) > IntKind.i64.max ∧ ((false : Bool) = true ∨ i.bytes = 0)) := by
        intro hh; have := hh.1; simp only [maxLen] at h63; rw [show IntKind.i64.max = 9223372036854775807 from rfl] at this; omega
      have hno2 : ¬ (Builtin.nextslicecap (n + m) cap * i.bytes > 2 ^ 48) := by
        have := growslice_fits (bytes := i.bytes) hlt hbytes; omega
      refine mid_bind2 (mid_typeInfo hi ?_)
      rw [if_neg hno]
      refine mid_bind2 (mid_typeInfo hi ?_)
      rw [if_neg hno2]
      refine mid_bind2 ?_
      have key : ∀ nc, n + m ≤ nc → mid P (do
          askRoom (nc * (← typeInfo e).bytes)
          let old ← Builtin.firstCells i.size n (.slice sb n cap)
          let new ← Builtin.firstCells i.size m (.string x)
          let rest := Builtin.zeroCells (← zeroValue e).cells (nc - (n + m))
          pure (.slice (some (← newRow e (old ++ new ++ rest))) (n + m) nc)) h K := by
        intro nc hnc
        refine mid_bind2 (mid_typeInfo hi ?_)
        refine mid_bind2 (mid_askRoom ?_)
        refine mid_bind2 (hold ?_)
        refine mid_bind2 (hfirst ?_)
        refine mid_bind2 (mid_zeroValue hi hz ?_)
        refine mid_bind2 ?_
        refine mid_bind2 ?_
        intro b hb
        refine hk _ _ (some b) ⟨by rw [List.length_append, hs.1, hl, Nat.add_mul], .inr ⟨b, nc, (Builtin.zeroCells z.cells (nc - (n + m))).toList, rfl, rfl, hnc, by rw [Array.length_toList, size_zeroCells, hzs], ?_⟩⟩ (.inr ⟨b, _, rfl, rfl, .inl hb⟩)
        rw [Hp.set_same]
        congr 2
        simp
      show if (Question.appendCap (n + m) cap e).forced = true then _ else _
      split
      · rename_i hf
        exact absurd hf (by simp [Question.forced])
      · intro tp
        exact key _ (by simp [Question.cut])
  rcases hs.2 with ⟨rfl, rfl, rfl⟩ | ⟨b, cap, rest, rfl, rfl, hcap, hrest, hb⟩
  · obtain rfl := List.eq_nil_of_length_eq_zero (by simpa using hs.1 : cs.length = 0)
    refine key none 0 rfl (fun hk' => hk') (fun hle => hfirst ?_)
    obtain rfl : m = 0 := by omega
    obtain rfl := List.eq_nil_of_length_eq_zero (by simpa using hl : news.length = 0)
    exact hk _ _ none Gr.nil (.inl ⟨rfl, rfl⟩)
  · refine key (some ⟨b, 0, none⟩) cap rfl (fun hk' => mid_loadCells _ cs hs.1 (fun j v hj => ?_) hk') (fun hle => hfirst ?_)
    · rw [addr_add, Nat.zero_add]
      exact cell_row hb (by rw [List.getElem?_append_left (List.getElem?_eq_some_iff.1 hj).1]; exact hj)
    · refine mid_bind2 ?_
      rw [addr_add, Nat.zero_add]
      have hlen : news.length ≤ rest.length := by rw [hl, hrest]; exact Nat.mul_le_mul_right _ (by omega)
      refine mid_storeCells news 0 _ _ hb (by rw [List.length_append, hs.1]; omega) h1 ?_
      rw [Nat.add_zero, ← hs.1, setL_append _ _ _ hlen]
      refine hk _ _ (some b) ⟨by rw [List.length_append, hs.1, hl, Nat.add_mul], .inr ⟨b, cap, rest.drop news.length, rfl, rfl, hle, by rw [List.length_drop, hrest, hl, ← Nat.sub_mul]; congr 1; omega, Hp.set_same _ _ _⟩⟩ (.inr ⟨b, _, rfl, rfl, .inr rfl⟩)
/-- A string is added to a row of bytes of one's own. -/
theorem appStr {P : Program} {t t2 e : TypeId} {i : TypeInfo} {z : Value} (ht : P.underlying t = some (.slice e)) (ht2 : P.underlying t2 = some .string) (hi : P.info? e = some i) (hz : i.zero = some z) (hsize : i.size = 1) (hby : i.bytes = 1) (hzs : z.cells.size = 1)
    {ρ : Operand → Value} {o : Oper} {a b : Operand} {s : Value} {x : ByteArray} {h : Hp} {n : Nat} {cs : List Value} {ob : Option Nat} {K : Next → Hp → Prop}
    (ho : o.op = .call { callee := .builtin .append, args := #[a, b], argTypes := #[t, t2] }) (ha : ρ a = s) (hb : ρ b = .string x) (hs : Gr h e 1 s n cs ob) (hn : n + x.size ≤ 2 ^ 31)
    (hk : ∀ s' h' ob', Gr h' e 1 s' (n + x.size) (cs ++ x.data.toList.map fun b => Value.int .u8 (b.toNat : Int)) ob' → Turn h h' ob ob' → K (.value s') h') : semK P (execOp ρ o) h K := by
  refine ⟨?_⟩
  have e : execOp ρ o = (Builtin.append_ #[t, t2] o.type #[s, .string x] >>= fun v => Pure.pure (Next.value v)) := by
    subst ha
    unfold execOp
    simp only [ho]
    simp [resolve, invoke, builtin, hb]
  rw [e]
  refine mid_bind2 ?_
  exact mid_appendS ht ht2 hi hz hsize hby hzs hs rfl rfl (by simp only [maxLen]; omega) (by omega) (fun s' h' ob' hg ht => mid_pure (hk s' h' ob' hg ht))
theorem mid_seenAt {P : Program} {h : Hp} {a : Addr} {l : Array Value} {el : TypeId} {fz : Nat × Nat} {K : Addr → Hp → Prop} (hb : h a.block = some (.cells l el fz)) (hk : K a h) : mid P (Conv.seenAt a) h K := by
  unfold Conv.seenAt
  refine mid_bind2 ?_
  unfold viewAt
  refine mid_bind2 ?_
  unfold shape
  simp only [mid, hb]
  exact hk
/-- A pointer, as one of package unsafe. -/
theorem sem_toU {P : Program} {src dst t : TypeId} {i : TypeInfo} (hs : P.underlying src = some (.pointer t)) (hd : P.underlying dst = some .unsafePointer) (hi : P.info? t = some i) (hz : i.size ≠ 0)
    {ρ : Operand → Value} {o : Oper} {x : Operand} {b : Nat} {l : Array Value} {el : TypeId} {fz : Nat × Nat} {h : Hp} {K : Next → Hp → Prop}
    (ho : o.op = .convert src dst x) (hx : ρ x = .pointer (some ⟨b, 0, none⟩)) (hb : h b = some (.cells l el fz)) (hl : 0 < l.size) (hk : K (.value (.pointer (some ⟨b, 0, none⟩))) h) : semK P (execOp ρ o) h K := by
  refine ⟨?_⟩
  have e : execOp ρ o = (convert src dst (.pointer (some ⟨b, 0, none⟩)) >>= fun v => Pure.pure (Next.value v)) := by
    unfold execOp
    simp only [ho, hx]
  rw [e]
  refine mid_bind2 ?_
  unfold convert
  refine mid_bind2 (mid_underlying hs ?_)
  refine mid_bind2 (mid_underlying hd ?_)
  show mid P (Conv.unsafePointer src dst (.pointer (some ⟨b, 0, none⟩))) h _
  unfold Conv.unsafePointer
  refine mid_bind2 (mid_underlying hs ?_)
  refine mid_bind2 (mid_underlying hd ?_)
  refine mid_bind2 (mid_seenAt (a := ⟨b, 0, none⟩) hb ?_)
  refine mid_bind2 ?_
  unfold cellsIn
  refine mid_bind2 ?_
  unfold shape
  simp only [mid, hb]
  refine mid_bind2 (mid_sizeOf hi ?_)
  have h0 : ¬ (0 ≥ l.size) := by omega
  simp [hz, h0]
  exact hk
/-- Back again. -/
theorem sem_ofU {P : Program} {src dst t : TypeId} {i : TypeInfo} (hs : P.underlying src = some .unsafePointer) (hd : P.underlying dst = some (.pointer t)) (hi : P.info? t = some i)
    {ρ : Operand → Value} {o : Oper} {x : Operand} {b : Nat} {l : Array Value} {el : TypeId} {fz : Nat × Nat} {h : Hp} {K : Next → Hp → Prop}
    (ho : o.op = .convert src dst x) (hx : ρ x = .pointer (some ⟨b, 0, none⟩)) (hb : h b = some (.cells l el fz)) (hv : liesAt P P.depth el (l.size / P.cellsOf el) 0 t 1 = true) (hk : K (.value (.pointer (some ⟨b, 0, none⟩))) h) : semK P (execOp ρ o) h K := by
  refine ⟨?_⟩
  have e : execOp ρ o = (convert src dst (.pointer (some ⟨b, 0, none⟩)) >>= fun v => Pure.pure (Next.value v)) := by
    unfold execOp
    simp only [ho, hx]
  rw [e]
  refine mid_bind2 ?_
  unfold convert
  refine mid_bind2 (mid_underlying hs ?_)
  refine mid_bind2 (mid_underlying hd ?_)
  show mid P (Conv.unsafePointer src dst (.pointer (some ⟨b, 0, none⟩))) h _
  unfold Conv.unsafePointer
  refine mid_bind2 (mid_underlying hs ?_)
  refine mid_bind2 (mid_underlying hd ?_)
  refine mid_bind2 (mid_seenAt (a := ⟨b, 0, none⟩) hb ?_)
  refine mid_bind2 (mid_sizeOf hi ?_)
  refine mid_bind2 ?_
  unfold variablesAt
  refine mid_bind2 ?_
  unfold program
  simp only [mid]
  refine mid_bind2 ?_
  unfold shape
  simp only [mid, hb]
  refine mid_pure ?_
  rw [hv]
  simp
  exact hk
theorem sem_sliceData {P : Program} {ρ : Operand → Value} {o : Oper} {x : Operand} {ats : Array TypeId} {a : Addr} {n c : Nat} {h : Hp} {K : Next → Hp → Prop}
    (ho : o.op = .call { callee := .builtin .unsafeSliceData, args := #[x], argTypes := ats }) (hx : ρ x = .slice (some a) n c) (hc : c ≠ 0) (hk : K (.value (.pointer (some a))) h) : semK P (execOp ρ o) h K := by
  refine ⟨?_⟩
  have e : execOp ρ o = (Builtin.unsafeSliceData_ ats o.type #[.slice (some a) n c] >>= fun v => Pure.pure (Next.value v)) := by
    unfold execOp
    simp only [ho]
    simp [resolve, invoke, builtin, hx]
  rw [e]
  refine mid_bind2 ?_
  show mid P (if c ≠ 0 then _ else _) h _
  rw [if_pos hc]
  exact hk
theorem sem_sliceData0 {P : Program} {ρ : Operand → Value} {o : Oper} {x : Operand} {ats : Array TypeId} {n c : Nat} {h : Hp} {K : Next → Hp → Prop}
    (ho : o.op = .call { callee := .builtin .unsafeSliceData, args := #[x], argTypes := ats }) (hx : ρ x = .slice none n c) (hk : K (.value (.pointer none)) h) : semK P (execOp ρ o) h K := by
  refine ⟨?_⟩
  have e : execOp ρ o = (Builtin.unsafeSliceData_ ats o.type #[.slice none n c] >>= fun v => Pure.pure (Next.value v)) := by
    unfold execOp
    simp only [ho]
    simp [resolve, invoke, builtin, hx]
  rw [e]
  refine mid_bind2 ?_
  exact hk
theorem mid_loadBytes {P : Program} {h : Hp} {K : ByteArray → Hp → Prop} : ∀ (l : List UInt8) (a : Addr) (acc : ByteArray), (∀ j x, l[j]? = some x → h.cell? (a.add j) = some (byV x)) → K ⟨acc.data ++ l.toArray⟩ h → mid P (loadBytes a acc l.length) h K
  | [], a, acc, _, hk => by
    show K acc h
    simpa using hk
  | c :: l, a, acc, hc, hk => by
    show mid P (load a >>= fun v => match v with
      | .int .u8 b => loadBytes (a.add 1) (acc.push b.toNat.toUInt8) l.length
      | _ => stuck "a byte variable that holds no byte") h K
    refine mid_bind2 ?_
    unfold load
    have h0 : h.cell? a = some (byV c) := by have := hc 0 c rfl; simpa [Addr.add] using this
    simp only [mid, h0]
    show mid P (loadBytes (a.add 1) (acc.push ((c.toNat : Int)).toNat.toUInt8) l.length) h K
    refine mid_loadBytes l _ _ (fun j x hj => ?_) ?_
    · rw [add_add', Nat.add_comm]; exact hc (j + 1) x (by simpa using hj)
    · have : ((c.toNat : Int)).toNat.toUInt8 = c := by simp
      rw [this]
      have e : (acc.push c).data ++ l.toArray = acc.data ++ (c :: l).toArray := by
        rw [ByteArray.data_push]; apply Array.ext'; simp
      rw [e]; exact hk
theorem sem_unsafeString0 {P : Program} {ρ : Operand → Value} {o : Oper} {x y : Operand} {pt it : TypeId} {p : Option Addr} {h : Hp} {K : Next → Hp → Prop}
    (ho : o.op = .call { callee := .builtin .unsafeString, args := #[x, y], argTypes := #[pt, it] }) (hx : ρ x = .pointer p) (hy : ρ y = .int .i64 0) (hk : K (.value (.string (bs []))) h) : semK P (execOp ρ o) h K := by
  refine ⟨?_⟩
  have e : execOp ρ o = (Builtin.unsafeString_ #[pt, it] o.type #[.pointer p, .int .i64 0] >>= fun v => Pure.pure (Next.value v)) := by
    unfold execOp
    simp only [ho]
    simp [resolve, invoke, builtin, hx, hy]
  rw [e]
  refine mid_bind2 ?_
  unfold Builtin.unsafeString_
  cases p <;> exact hk
theorem sem_unsafeString {P : Program} {ρ : Operand → Value} {o : Oper} {x y : Operand} {pt it e : TypeId} {g : Nat} {cs : Array Value} {fz : Nat × Nat} {l : List UInt8} {h : Hp} {K : Next → Hp → Prop}
    (ho : o.op = .call { callee := .builtin .unsafeString, args := #[x, y], argTypes := #[pt, it] }) (hx : ρ x = .pointer (some ⟨g, 0, none⟩)) (hy : ρ y = .int .i64 l.length) (hp : P.underlying pt = some (.pointer e)) (hc : P.cellsOf e = 1)
    (hb : h g = some (.cells cs e fz)) (h0 : l ≠ []) (hl : l.length ≤ cs.size) (hm : l.length ≤ 2 ^ 62) (hget : ∀ j x, l[j]? = some x → h.cell? ⟨g, j, none⟩ = some (byV x)) (hk : K (.value (.string (bs l))) (h.freeze ⟨g, 0, none⟩ l.length)) : semK P (execOp ρ o) h K := by
  refine ⟨?_⟩
  have e' : execOp ρ o = (Builtin.unsafeString_ #[pt, it] o.type #[.pointer (some ⟨g, 0, none⟩), .int .i64 l.length] >>= fun v => Pure.pure (Next.value v)) := by
    unfold execOp
    simp only [ho]
    simp [resolve, invoke, builtin, hx, hy]
  have hl0 : l.length ≠ 0 := by simpa using h0
  have hlies := Lib.liesAt_bytes (P := P) hc (cs.size / P.cellsOf e) l.length (by rw [hc]; simpa using hl)
  have h63 : ¬ (l.length : Int) > IntKind.i64.max := by rw [show IntKind.i64.max = 9223372036854775807 from rfl]; omega
  have hneg : ¬ (l.length : Int) < 0 := by omega
  have hn0 : ¬ (l.length : Int) = 0 := by omega
  rw [e']
  refine mid_bind2 ?_
  unfold Builtin.unsafeString_
  refine mid_bind2 ?_
  show mid P (Pure.pure (l.length : Int)) h _
  refine mid_pure ?_
  simp only [hneg, h63, hn0, if_false]
  show mid P (elemOf pt >>= fun u => variablesAt ⟨g, 0, none⟩ u l.length >>= fun t => if t = true then _ else _) h _
  refine mid_bind2 ?_
  unfold elemOf
  refine mid_bind2 (mid_underlying hp ?_)
  refine mid_pure ?_
  refine mid_bind2 ?_
  unfold variablesAt
  refine mid_bind2 ?_
  unfold program
  simp only [mid]
  refine mid_bind2 ?_
  unfold shape
  simp only [mid, hb]
  refine mid_pure ?_
  rw [hlies, if_pos rfl]
  refine mid_bind2 ?_
  show mid P (loadBytes ⟨g, 0, none⟩ .empty l.length) h _
  refine mid_loadBytes l _ _ (fun j x hj => by rw [addr_add, Nat.zero_add]; exact hget j x hj) ?_
  refine mid_bind2 ?_
  refine mid_freeze hl0 hb ?_
  refine mid_pure ?_
  have : (⟨(ByteArray.empty).data ++ l.toArray⟩ : ByteArray) = bs l := by
    show (⟨#[] ++ l.toArray⟩ : ByteArray) = bs l
    simp
  rw [this]
  exact hk
/-- A pointer is itself. -/
theorem sem_neqSelf {P : Program} {tp te tb : TypeId} {i : TypeInfo} {ρ : Operand → Value} {o : Oper} {x y : Operand} {a : Addr} {h : Hp} {K : Next → Hp → Prop}
    (ho : o.op = .binOp .neq tp x y tb) (hx : ρ x = .pointer (some a)) (hy : ρ y = .pointer (some a)) (hp : P.underlying tp = some (.pointer te)) (hi : P.info? te = some i) (hk : K (.value (.bool false)) h) : semK P (execOp ρ o) h K := by
  refine ⟨?_⟩
  have e : execOp ρ o = ((eqGuard .neq tp x y (.pointer (some a)) (.pointer (some a)) >>= fun _ => binOp .neq tp (.pointer (some a)) (.pointer (some a))) >>= fun v => Pure.pure (Next.value v)) := by
    unfold execOp
    simp only [ho, hx, hy]
  have heq : ∀ (d : Nat) (K' : Bool → Hp → Prop), K' true h → mid P (Op.equalIn (d + 1) tp (.pointer (some a)) (.pointer (some a))) h K' := by
    intro d K' hk'
    unfold Op.equalIn
    refine mid_bind2 (mid_underlying hp ?_)
    refine mid_bind2 (mid_sizeOf hi ?_)
    split
    · unfold sameAddr
      rw [if_pos (by simp)]
      show K' (a == a) h
      simpa using hk'
    · rw [if_pos (by simp)]
      exact hk'
  rw [e]
  refine mid_bind2 (mid_bind2 ?_)
  show mid P (Op.equal tp (.pointer (some a)) (.pointer (some a)) >>= fun b => Pure.pure (Value.bool (!b))) h _
  refine mid_bind2 ?_
  unfold Op.equal
  exact heq 9999 _ hk
/-- A function without a body, which the model answers itself. -/
theorem sem_extern {P : Program} {ρ : Operand → Value} {o : Oper} {f : FuncId} {as : Array Operand} {ats : Array TypeId} {xs : Array Value} {fn : Func} {ext : Array Value → Sem Value} {h : Hp} {K : Next → Hp → Prop}
    (ho : o.op = .call { callee := .value (.func f), args := as, argTypes := ats }) (hρ : ρ (.func f) = .func (.func f) #[] #[]) (hx0 : (as.toList.map ρ).toArray = xs) (hf : P.funcs[f]? = some fn) (hname : (fn.name == "runtime.NumGoroutine") = false)
    (hb : fn.body.isNone = true) (hn : Extern.findNext fn = none) (he : Extern.find fn = some ext) (hk : mid P (ext xs) h fun v h' => K (.value v) h') : semK P (execOp ρ o) h K := by
  refine ⟨?_⟩
  have hx : as.map ρ = xs := by rw [← hx0]; apply Array.ext'; simp
  have e : execOp ρ o = callFunc f xs := by
    unfold execOp
    simp [ho, resolve, hρ, Deferred.ofValue, invoke, hx]
  rw [e]
  unfold callFunc
  refine mid_bind2 ?_
  unfold program
  simp only [mid, hf, hname, hb, hn, he, Bool.false_eq_true, if_false, if_true]
  exact mid_bind2 (mid_bind2 hk)
theorem Ext.ofBelow {w0 w w' : World} {h : Hp} (s : Sat w0 h w) (b : Below w.heap.size w w') : Ext w0 h w h w' :=
  ⟨⟨b.os.trans s.os, b.tape.trans s.tape, b.output.trans s.output, Nat.le_trans s.size b.size, fun c o e => (b.block c (s.lt e)).trans (s.known c o e)⟩, b.size, fun c hc e => ⟨b.block c hc, e⟩⟩
theorem Ext.ofGrow {w0 w : World} {h : Hp} (s : Sat w0 h w) (k : Nat) (os : Array Obj) : Ext w0 h w h (Sort.grow (w.drewN k) os) := by
  have hs : (Sort.grow (w.drewN k) os).heap = w.heap ++ os := rfl
  have ho : ∀ c, c < w.heap.size → (Sort.grow (w.drewN k) os).heap[c]? = w.heap[c]? := fun c hc => by
    rw [hs, Array.getElem?_append_left hc]
  have hsz : w.heap.size ≤ (Sort.grow (w.drewN k) os).heap.size := by rw [hs]; simp
  exact ⟨⟨s.os, s.tape, s.output, Nat.le_trans s.size hsz, fun c o e => (ho c (s.lt e)).trans (s.known c o e)⟩, hsz, fun c hc e => ⟨ho c hc, e⟩⟩
/-- What is known of a call in the model's own words, where it makes new blocks alone. -/
theorem X.ofBelow {P : Program} {f : FuncId} {args : Array Value} {v : Value} {h : Hp} {K : Value → Hp → Prop} (hc : ∀ w0 w, Sat w0 h w → Calls P f args w fun e w' => e = .returned v ∧ Below w.heap.size w w') (hk : K v h) : X P f args h K :=
  ⟨fun w0 w s => (hc w0 w s).mono fun _ _ ⟨he, hb⟩ => ⟨v, h, he, Ext.ofBelow s hb, hk⟩⟩
theorem X.ofGrow {P : Program} {f : FuncId} {args : Array Value} {v : Value} {h : Hp} {K : Value → Hp → Prop} (hc : ∀ w0 w, Sat w0 h w → Calls P f args w fun e w' => e = .returned v ∧ ∃ k os, w' = Sort.grow (w.drewN k) os) (hk : K v h) : X P f args h K :=
  ⟨fun w0 w s => (hc w0 w s).mono fun _ _ ⟨he, k, os, hb⟩ => ⟨v, h, he, by rw [hb]; exact Ext.ofGrow s k os, hk⟩⟩
theorem YV.mono {P : Program} {y : Value} {args : List Value} {h : Hp} {K K' : Value → Hp → Prop} (x : YV P y args h K) (hk : ∀ v h', K v h' → K' v h') : YV P y args h K' :=
  ⟨fun ρ o z xs tys h1 h2 h3 => aRun_mono (fun v h' hh => hk v h' hh) (x.go ρ o z xs tys h1 h2 h3)⟩
theorem viaB_of {r : Option Bool} {b : Bool} {K : Bool → Prop} (h : r = some b) (hk : K b) : viaB r K := by rw [h]; exact hk
end Go.Mid
