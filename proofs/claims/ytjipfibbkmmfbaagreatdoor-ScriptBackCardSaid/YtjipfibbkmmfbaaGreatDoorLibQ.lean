/-
  Words.
-/
import Derived.Test.YtjipfibbkmmfbaaGreatDoorLibV
import Derived.Lib.Join
import Derived.Test.YtjipfibbkmmfbaaGreatDoorMidMO
import Derived.Lib.SplitLaws
import Derived.Shelf.Vars
import Derived.Lib.ParseIntBTie
import Derived.LaidMore
import Derived.LaidSub
import Derived.MakeChecks
import Derived.Lib.LaidTab
import Derived.Stop.LaidErr
/-! Words. -/
namespace Go.Proofs.YtjipfibbkmmfbaaGreatDoor
set_option linter.unusedSimpArgs false
set_option linter.unusedVariables false
open Go Go.Mid Go.RowKit
attribute [local irreducible] mid
section
set_option maxHeartbeats 8000000
set_option maxRecDepth 10000
variable {h : Hp} {K : Value → Hp → Prop}
abbrev sv (x : Str) : Value := .string (bs x)
theorem aggS0 : isAggT Tryz.prog 53 = some false := by kernel_rfl
theorem sizS0 : sizeT Tryz.prog 53 = some 1 := by kernel_rfl
theorem aggStr : isAggT Tryz.prog 9 = some false := by kernel_rfl
theorem infS : Tryz.prog.info? 9 = some Tryz.prog.types[9] := by kernel_rfl
/-- h knows k; beside it lie words, w. -/
theorem slot1 {x y : Str} (e : x = y) : [MV.v (Value.string (bs x))] = [MV.v (Value.string (bs y))] := by rw [e]
theorem app_len {xs ys : List Str} {n m : Nat} (a : xs.length ≤ n) (b : ys.length ≤ m) : (xs ++ ys).length ≤ n + m := by rw [List.length_append]; omega
def tl (xs : List Str) : Str := xs.flatMap fun x => 32 :: x
theorem join_tl (x : Str) (xs : List Str) : Lib.join (x :: xs) [32] = x ++ tl xs := by
  rw [Lib.join_cons]
  rfl
theorem tl_len {xs : List Str} {n : Nat} (h : ∀ x ∈ xs, x.length ≤ n) : (tl xs).length ≤ (n + 1) * xs.length := by
  induction xs with
  | nil => simp [tl]
  | cons x xs ih =>
    have h1 := h x (by simp)
    have h2 := ih fun y hy => h y (by simp [hy])
    unfold tl at h2 ⊢
    rw [List.flatMap_cons, List.length_append, List.length_cons, List.length_cons, Nat.mul_succ]
    omega
theorem join_len {xs : List Str} (h : ∀ x ∈ xs, x.length ≤ 64) (hn : xs.length ≤ 2 ^ 20) : (Lib.join xs [32]).length ≤ 2 ^ 40 := by
  cases xs with
  | nil => simp [Lib.join_nil]
  | cons x xs =>
    rw [join_tl, List.length_append]
    have h1 := h x (by simp)
    have h2 := tl_len (n := 64) (xs := xs) fun y hy => h y (by simp [hy])
    rw [List.length_cons] at hn
    have : (64 + 1) * xs.length ≤ 65 * 2 ^ 20 := Nat.mul_le_mul_left 65 (by omega)
    omega
/-- Words that aren't long. -/
def Sm (xs : List Str) : Prop := ∀ x ∈ xs, x.length ≤ 64
theorem Sm.app {xs ys : List Str} (a : Sm xs) (b : Sm ys) : Sm (xs ++ ys) := fun x hx => (List.mem_append.1 hx).elim (a x) (b x)
theorem Sm.nil : Sm [] := fun x hx => by cases hx
theorem Sm.cons {x : Str} {ys : List Str} (a : x.length ≤ 64) (b : Sm ys) : Sm (x :: ys) := fun z hz => by
  rcases List.mem_cons.1 hz with rfl | hz
  · exact a
  · exact b z hz
theorem sm_itoa {n : Int} (h0 : -9223372036854775808 ≤ n) (h1 : n ≤ 9223372036854775807) : (Lib.itoa n).length ≤ 64 := Nat.le_trans (itoa_len h0 h1) (by decide)
theorem sm_dec {n : Nat} (h : n < 18446744073709551616) : (Lib.decDigits n).length ≤ 64 := Nat.le_trans (dec_len h) (by decide)
theorem tl_nil : tl [] = [] := rfl
theorem tl_cons (x : Str) (xs : List Str) : tl (x :: xs) = 32 :: (x ++ tl xs) := rfl
theorem tl_app (xs ys : List Str) : tl (xs ++ ys) = tl xs ++ tl ys := List.flatMap_append
theorem tl_sm {xs : List Str} {m : Nat} (h : Sm xs) (hm : xs.length ≤ m) : (tl xs).length ≤ 65 * m := Nat.le_trans (tl_len h) (Nat.mul_le_mul_left 65 hm)
abbrev J (ws : List Str) : Str := Lib.join ws [32]
theorem J_app {ws : List Str} (h : ws ≠ []) (ys : List Str) : J (ws ++ ys) = J ws ++ tl ys := by
  cases ws with
  | nil => exact absurd rfl h
  | cons x xs => rw [List.cons_append, J, J, join_tl, join_tl, tl_app, List.append_assoc]
theorem J_len {ws : List Str} (h : Sm ws) (hn : ws.length ≤ 200) : (J ws).length ≤ 13064 := by
  cases ws with
  | nil => simp [J, Lib.join_nil]
  | cons x xs =>
    rw [J, join_tl, List.length_append]
    have h1 := h x (by simp)
    have h2 := tl_len (n := 64) (xs := xs) fun y hy => h y (by simp [hy])
    rw [List.length_cons] at hn
    have : (64 + 1) * xs.length ≤ 65 * 200 := Nat.mul_le_mul_left 65 (by omega)
    omega
theorem ne_app {xs ys : List Str} (h : xs ≠ []) : xs ++ ys ≠ [] := fun e => h (List.append_eq_nil_iff.1 e).1
structure Wk (ws : List Str) (n : Nat) : Prop where
  ne : ws ≠ []
  sm : Sm ws
  len : ws.length ≤ n
theorem Wk.app {xs ys : List Str} {n m : Nat} (a : Wk xs n) (b : Sm ys) (c : ys.length ≤ m) : Wk (xs ++ ys) (n + m) := ⟨ne_app a.ne, a.sm.app b, app_len a.len c⟩
theorem Wk.J {xs : List Str} {n : Nat} (a : Wk xs n) (h : n ≤ 200) : (J xs).length ≤ 13064 := J_len a.sm (Nat.le_trans a.len h)
theorem cat_J {ws ys : List Str} {n : Nat} {K : ByteArray → Prop} (w : Wk ws n) (hn : n ≤ 200) (sy : Sm ys) (ly : ys.length ≤ 60) (hk : K (bs (J (ws ++ ys)))) : catK (bs (J ws)) (bs (tl ys)) K := by
  have h1 := w.J hn
  have h2 := tl_sm sy ly
  exact cat_by (by omega) (J_app w.ne ys).symm hk
theorem slotJ {ws ws' : List Str} (e : ws = ws') : [MV.v (Value.string (bs (J ws)))] = [MV.v (Value.string (bs (J ws')))] := by rw [e]
theorem itoa_ne (n : Int) : Lib.itoa n ≠ [] := by
  have hd : ∀ u, Lib.decDigits u ≠ [] := fun u e => by
    have h1 := Lib.decDigits_length u
    rw [e] at h1
    have h2 := Lib.nDigits_pos u
    simp at h1
    omega
  unfold Lib.itoa
  split
  · simp
  · exact hd _
end
end Go.Proofs.YtjipfibbkmmfbaaGreatDoor
/-! strings.Join, over the middle layer. -/
namespace Go.Proofs.YtjipfibbkmmfbaaGreatDoor
set_option linter.unusedSimpArgs false
set_option linter.unusedVariables false
open Go Go.Mid Go.RowKit
attribute [local irreducible] mid
section
set_option maxHeartbeats 8000000
set_option maxRecDepth 10000
variable {h : Hp} {K : Value → Hp → Prop}
theorem join_x (b o c : Nat) (xs : List Str) (sep : Str) (hcell : ∀ (j : Nat) x, xs[j]? = some x → h.cell? ⟨b, o + j, none⟩ = some (.string (bs x))) (hb : ∃ ob, h b = some ob) (hN : xs.length ≤ 2 ^ 40) (hcap : xs.length ≤ c) (hlen : (Lib.join xs sep).length ≤ 2 ^ 40)
    (hk : K (.string (bs (Lib.join xs sep))) h) : X Tryz.prog 29 #[.slice (some ⟨b, o, none⟩) xs.length c, .string (bs sep)] h K := by
  have e : (xs.map bs).map (fun z : ByteArray => z.data.toList) = xs := by
    rw [List.map_map]
    have : ((fun z : ByteArray => z.data.toList) ∘ bs) = id := by funext l; rfl
    rw [this, List.map_id]
  refine X.ofBelow (v := .string (bs (Lib.join xs sep))) (fun w0 w s => ?_) hk
  obtain ⟨ob, hob⟩ := hb
  have hj := Tryz.strings_Join b o c (xs.map bs) (bs sep) w (fun j x hx => by
    rw [List.getElem?_map] at hx
    cases hy : xs[j]? with
    | none => rw [hy] at hx; cases hx
    | some y => rw [hy] at hx; cases hx; exact s.cell (hcell j y hy)) (s.lt hob) (by rw [List.length_map]; omega) (by rw [List.length_map]; exact hcap) (by rw [e]; exact Nat.le_trans hlen (by decide))
  rw [e, List.length_map] at hj
  exact hj
end
end Go.Proofs.YtjipfibbkmmfbaaGreatDoor
/-! Strings that are cut and split: what Go's library answers. -/
namespace Go.Proofs.YtjipfibbkmmfbaaGreatDoor
set_option linter.unusedSimpArgs false
set_option linter.unusedVariables false
open Go Go.Mid Go.RowKit
attribute [local irreducible] mid
/-- A string's pieces. -/
def sp (sep s : Str) : List Str := Lib.splitK sep 0 (Lib.count s sep) s
theorem sp_miss {sep s : Str} (h : Lib.index s sep = -1) : sp sep s = [s] := by
  unfold sp
  rw [Lib.count_miss h]
  rfl
theorem sp_hit {sep s : Str} {i : Nat} (hs : sep ≠ []) (h : Lib.index s sep = i) : sp sep s = s.take i :: sp sep (s.drop (i + sep.length)) := by
  unfold sp
  rw [Lib.count_hit hs h, Nat.add_comm, Lib.splitK, if_neg (by rw [h]; simp), h]
  rfl
theorem sp_ne (sep s : Str) : sp sep s ≠ [] := by
  unfold sp
  cases Lib.count s sep with
  | zero => simp [Lib.splitK]
  | succ k => unfold Lib.splitK; split <;> simp
theorem bs_data (z : ByteArray) : bs z.data.toList = z := rfl
theorem sp_B (sep s : Str) : (Lib.splitB (bs sep) 0 (Lib.countB (bs s) (bs sep)) (bs s)).map Value.string = (sp sep s).map sv := by
  have h : sp sep s = (Lib.splitB (bs sep) 0 (Lib.countB (bs s) (bs sep)) (bs s)).map (·.data.toList) := (Lib.splitB_data (bs sep) 0 _ (bs s)).symm
  rw [h, List.map_map]
  rfl
theorem sp_len (sep s : Str) (h : sep ≠ []) : (sp sep s).length = Lib.countB (bs s) (bs sep) + 1 := by
  have e := congrArg List.length (sp_B sep s)
  rw [List.length_map, List.length_map] at e
  rw [← e, Lib.splitB_all (bs sep) (by rw [bs_size]; exact List.length_pos_iff.2 h) 0 _ (bs s) rfl]
theorem X.ofAlloc {P : Program} {f : FuncId} {args : Array Value} {v : Nat → Value} {o : Obj} {h : Hp} {K : Value → Hp → Prop} (hc : ∀ w0 w, Sat w0 h w → Calls P f args w fun e w' => e = .returned (v w.heap.size) ∧ w' = w.alloc o) (hk : ∀ b, h b = none → K (v b) (h.set b o)) : X P f args h K :=
  ⟨fun w0 w s => (hc w0 w s).mono fun _ w' ⟨he, hb⟩ => ⟨v w.heap.size, h.set w.heap.size o, he, by
    subst hb
    have hh : (w.alloc o).heap = w.heap.push o := rfl
    refine ⟨⟨s.os, s.tape, s.output, Nat.le_trans s.size ?_, fun b o' e => ?_⟩, ?_, fun b hb e => ⟨?_, ?_⟩⟩
    · rw [hh, Array.size_push]; omega
    · by_cases hbs : b = w.heap.size
      · subst hbs
        rw [Hp.set_same] at e
        cases e
        rw [hh, Array.getElem?_push_size]
      · rw [Hp.set_other _ _ hbs] at e
        have := s.known b o' e
        have hlt := s.lt e
        rw [hh, Array.getElem?_push_lt hlt]
        rw [Array.getElem?_eq_getElem hlt] at this
        exact this
    · rw [hh, Array.size_push]; omega
    · rw [hh, Array.getElem?_push_lt hb, Array.getElem?_eq_getElem hb]
    · rw [Hp.set_other _ _ (by omega)]; exact e, hk _ s.fresh⟩⟩
section
set_option maxHeartbeats 8000000
set_option maxRecDepth 10000
variable {h : Hp} {K : Value → Hp → Prop}
/-- The library's own variable for its searches holds a number. -/
def Mx (h : Hp) : Prop := ∃ m, h.cell? ⟨1, 0, none⟩ = some (.int .i64 m)
theorem Mx.le {h h' : Hp} (p : Mx h) (hle : h.le h') : Mx h' := by
  obtain ⟨m, hm⟩ := p
  exact ⟨m, cell_le hle hm⟩
theorem Mx.of {w : World} (h : w.ShapedOpen Tryz.prog) : Mx (whole w) :=
  Go.Proofs.cell_of_shapedOpen_int (zero := #[.int .i64 0]) (t := 3) h (of_decide_eq_true (by kernel_rfl)) (by kernel_rfl) rfl (by kernel_rfl) (by kernel_rfl) Tryz.underlying3
theorem split_x (hm : Mx h) (s sep : Str) (hs : s.length < 4294967281) (hp : sep ≠ []) (hk : ∀ b h', h b = none → h' = h.set b (rowO 9 ((sp sep s).map sv)) → K (.slice (some ⟨b, 0, none⟩) (sp sep s).length (sp sep s).length) h') : X Tryz.prog 54 #[.string (bs s), .string (bs sep)] h K := by
  refine X.ofAlloc (v := fun b => .slice (some ⟨b, 0, none⟩) (sp sep s).length (sp sep s).length) (o := rowO 9 ((sp sep s).map sv)) (fun w0 w t => ?_) fun b hb => hk b _ hb rfl
  obtain ⟨m, hm⟩ := hm
  have := Tryz.strings_Split (bs s) (bs sep) m w (by rw [bs_size]; exact hs) (t.cell hm) (by rw [bs_size]; exact List.length_pos_iff.2 hp)
  rw [sp_B, ← sp_len sep s hp] at this
  exact this
theorem cut_x (hm : Mx h) (s sep : Str) (hs : s.length < 4294967281) (hk : K (.tuple #[.string (bs (Lib.cut s sep).1), .string (bs (Lib.cut s sep).2.1), .bool (Lib.cut s sep).2.2]) h) : X Tryz.prog 53 #[.string (bs s), .string (bs sep)] h K := by
  obtain ⟨m, hm⟩ := hm
  refine X.ofGrow (v := .tuple #[.string (bs (Lib.cut s sep).1), .string (bs (Lib.cut s sep).2.1), .bool (Lib.cut s sep).2.2]) (fun w0 w t => ?_) hk
  refine (Tryz.strings_Cut (bs s) (bs sep) m w (by rw [bs_size]; exact hs) (t.cell hm)).mono fun e w' ⟨he, n, hn⟩ => ⟨he, n, #[], ?_⟩
  rw [hn]
  exact (Sort.grow_empty _).symm
end
end Go.Proofs.YtjipfibbkmmfbaaGreatDoor
/-! Numbers of texts; letters looked for: what Go's library answers. -/
namespace Go.Proofs.YtjipfibbkmmfbaaGreatDoor
set_option linter.unusedSimpArgs false
set_option linter.unusedVariables false
open Go Go.Mid Go.RowKit
attribute [local irreducible] mid
theorem X.ofBelowE {P : Program} {f : FuncId} {args : Array Value} {Q : Value → Prop} {h : Hp} {K : Value → Hp → Prop} (hc : ∀ w0 w, Sat w0 h w → Calls P f args w fun e w' => ∃ v, e = .returned v ∧ Q v ∧ Below w.heap.size w w') (hk : ∀ v, Q v → K v h) : X P f args h K :=
  ⟨fun w0 w s => (hc w0 w s).mono fun _ _ ⟨v, he, hq, hb⟩ => ⟨v, h, he, Ext.ofBelow s hb, hk v hq⟩⟩
section
set_option maxHeartbeats 8000000
set_option maxRecDepth 10000
variable {h : Hp} {K : Value → Hp → Prop}
/-- The library's own errors are values. -/
def Er (h : Hp) : Prop := (∃ ev, h.cell? ⟨4, 0, none⟩ = some ev ∧ (ev = .nilIface ∨ ∃ te pe, ev = .iface te pe)) ∧ ∃ ev, h.cell? ⟨5, 0, none⟩ = some ev ∧ (ev = .nilIface ∨ ∃ te pe, ev = .iface te pe)
theorem Er.le {h h' : Hp} (p : Er h) (hle : h.le h') : Er h' := by
  obtain ⟨⟨a, h1, h2⟩, b, h3, h4⟩ := p
  exact ⟨⟨a, cell_le hle h1, h2⟩, b, cell_le hle h3, h4⟩
theorem Er.of {w : World} {t1 t2 : TypeId} {p1 p2 : Value} (h1 : w.var? Tryz.prog "strconv.ErrSyntax" = some #[.iface t1 p1]) (h2 : w.var? Tryz.prog "strconv.ErrRange" = some #[.iface t2 p2]) : Er (whole w) :=
  ⟨⟨.iface t1 p1, by have h0 := World.var?_cell (show Tryz.prog.globalNamed "strconv.ErrSyntax" = some 4 by kernel_rfl) h1 0; rw [whole_cell]; simpa using h0, .inr ⟨_, _, rfl⟩⟩, ⟨.iface t2 p2, by have h0 := World.var?_cell (show Tryz.prog.globalNamed "strconv.ErrRange" = some 5 by kernel_rfl) h2 0; rw [whole_cell]; simpa using h0, .inr ⟨_, _, rfl⟩⟩⟩
theorem parseInt_x (he : Er h) (s : Str) (hs : s.length ≤ 2 ^ 40)
    (hk0 : ∀ v, Lib.parseIntB 64 s = .ok v → K (.tuple #[.int .i64 v, .nilIface]) h)
    (hk : ∀ v T p, (∀ v', Lib.parseIntB 64 s ≠ .ok v') → K (.tuple #[.int .i64 v, .iface T p]) h) : X Tryz.prog 55 #[.string (bs s), .int .i64 10, .int .i64 64] h K := by
  have hl : (bs s).size ≤ 281474976710656 := by rw [bs_size]; exact Nat.le_trans hs (by decide)
  cases hp : Lib.parseIntB 64 s with
  | ok v =>
    refine X.ofBelow (v := .tuple #[.int .i64 v, .nilIface]) (fun w0 w t => ?_) (hk0 v hp)
    refine (Tryz.strconv_ParseInt_10_at64_ok (bs s) (Nat.le_trans hl (by decide)) v hp w).mono fun e w' ⟨he, hw⟩ => ⟨he, ?_⟩
    rcases hw with rfl | ⟨t, rfl⟩
    · exact Below.refl _ _
    · exact Lib.bytesWorld_below _ _ _
  | range =>
    refine X.ofBelowE (Q := fun v => ∃ n T p, v = .tuple #[.int .i64 n, .iface T p]) (fun w0 w t => ?_) (fun v ⟨n, T, p, e⟩ => e ▸ hk n T p fun v' hv => by rw [hp] at hv; cases hv)
    obtain ⟨_, ev, h1, h2⟩ := he
    refine (Tryz.strconv_ParseInt_10_at64_range (bs s) hl hp ev w (t.cell h1) h2).mono fun e w' ⟨N, he, _, _, hb⟩ => ⟨_, he, ⟨_, _, _, rfl⟩, hb⟩
  | _ =>
    refine X.ofBelowE (Q := fun v => ∃ n T p, v = .tuple #[.int .i64 n, .iface T p]) (fun w0 w t => ?_) (fun v ⟨n, T, p, e⟩ => e ▸ hk n T p fun v' hv => by rw [hp] at hv; cases hv)
    obtain ⟨⟨ev, h1, h2⟩, _⟩ := he
    refine (Any.strconv_ParseInt_10_at64_syntax Tryz.laysC174 (bs s) hl hp ev w (t.cell h1) h2).mono fun e w' ⟨N, he, _, _, hb⟩ => ⟨_, he, ⟨_, _, _, rfl⟩, hb⟩
theorem indexByte_x (s : Str) (c : UInt8) (hk : K (.int .i64 (Lib.indexByte s c)) h) : X Tryz.prog 72 #[.string (bs s), byV c] h K := by
  refine X.ofBelow (v := .int .i64 (Lib.indexByte s c)) (fun w0 w t => ?_) hk
  refine (Tryz.strings_IndexByte (bs s) c.toNat w).mono fun e w' hh => ?_
  refine ⟨hh.1.trans ?_, by rw [hh.2]; exact Below.refl _ _⟩
  congr 3
  rw [Int.toNat_natCast]
  exact UInt8.ofNat_toNat
end
end Go.Proofs.YtjipfibbkmmfbaaGreatDoor
/-! Words and numbers that are written: plain laws. -/
namespace Go.Proofs.YtjipfibbkmmfbaaGreatDoor
set_option linter.unusedSimpArgs false
set_option linter.unusedVariables false
open Go Go.Mid Go.RowKit
theorem idx_byte {w r : Str} {c : UInt8} (h : c ∉ w) : Lib.index (w ++ c :: r) [c] = (w.length : Nat) := by
  refine Lib.index_first (by simp) ?_ fun j hj => ?_
  · show List.isPrefixOf _ (List.drop _ _) = _
    rw [List.drop_left]; simp
  · show List.isPrefixOf _ (List.drop _ _) = _
    rw [List.drop_append_of_le_length (by omega), List.drop_eq_getElem_cons hj]
    simp only [List.cons_append, List.isPrefixOf, Bool.and_true, beq_eq_false_iff_ne]
    intro e
    exact h (e ▸ List.getElem_mem hj)
theorem idx_no {w : Str} {c : UInt8} (h : c ∉ w) : Lib.index w [c] = -1 := by
  rcases Lib.index_spec w [c] with ⟨h1, _⟩ | ⟨i, h1, h2, h3, _⟩
  · exact h1
  · have h3 : List.isPrefixOf [c] (w.drop i) = true := h3
    cases hd : w.drop i with
    | nil => rw [hd] at h3; simp at h3
    | cons a q =>
      rw [hd] at h3
      simp only [List.isPrefixOf, Bool.and_true, beq_iff_eq] at h3
      exact absurd (List.mem_of_mem_drop (i := i) (by rw [hd, h3]; simp)) h
theorem sp_one {w r : Str} {c : UInt8} (h : c ∉ w) : sp [c] (w ++ c :: r) = w :: sp [c] r := by
  rw [sp_hit (by simp) (idx_byte h), List.take_left]
  congr 1
  show sp [c] ((w ++ c :: r).drop (w.length + 1)) = _
  rw [← List.drop_drop, List.drop_left]; rfl
theorem sp_end {w : Str} {c : UInt8} (h : c ∉ w) : sp [c] w = [w] := sp_miss (idx_no h)
/-- What digits spell. -/
def dv (l : Str) : Nat := l.foldl (fun a b => 10 * a + (b.toNat - 48)) 0
def digs (l : Str) : Prop := ∀ b ∈ l, 48 ≤ b.toNat ∧ b.toNat ≤ 57
theorem dv_snoc (l : Str) (b : UInt8) : dv (l ++ [b]) = 10 * dv l + (b.toNat - 48) := by simp [dv]
theorem dec_rec (u : Nat) : Lib.decDigits u = if u < 10 then [UInt8.ofNat (48 + u)] else Lib.decDigits (u / 10) ++ [UInt8.ofNat (48 + u % 10)] := by
  rw [Lib.decDigits]
  split <;> rfl
theorem dec_dv (u : Nat) : dv (Lib.decDigits u) = u ∧ digs (Lib.decDigits u) := by
  induction u using Nat.strongRecOn with
  | _ u ih =>
    rw [dec_rec]
    split
    · have e : (UInt8.ofNat (48 + u)).toNat = 48 + u := by rw [UInt8.toNat_ofNat']; omega
      refine ⟨?_, fun b hb => ?_⟩
      · show 10 * 0 + ((UInt8.ofNat (48 + u)).toNat - 48) = u
        rw [e]; omega
      · simp only [List.mem_singleton] at hb; subst hb; rw [e]; omega
    · obtain ⟨h1, h2⟩ := ih (u / 10) (by omega)
      have e : (UInt8.ofNat (48 + u % 10)).toNat = 48 + u % 10 := by rw [UInt8.toNat_ofNat']; omega
      refine ⟨?_, fun b hb => ?_⟩
      · rw [dv_snoc, h1, e]; omega
      · rcases List.mem_append.1 hb with hb | hb
        · exact h2 b hb
        · simp only [List.mem_singleton] at hb; subst hb; rw [e]; omega
theorem dv_lt : ∀ (k : Nat) (l : Str), l.length ≤ k → digs l → dv l < 10 ^ k
  | 0, l, h, _ => by
    have : l = [] := List.eq_nil_of_length_eq_zero (by omega)
    subst this
    decide
  | k + 1, l, h, hd => by
    rcases List.eq_nil_or_concat l with rfl | ⟨q, b, rfl⟩
    · show 0 < _
      exact Nat.pow_pos (by decide)
    · have hb := hd b (by simp)
      have ih := dv_lt k q (by simp at h; omega) (fun x hx => hd x (by simp [hx]))
      rw [List.concat_eq_append, dv_snoc, Nat.pow_succ]
      omega
theorem dec_ne (n : Nat) : Lib.decDigits n ≠ [] := fun e => by
  have l1 := Lib.decDigits_length n
  have l2 := Lib.nDigits_pos n
  rw [e] at l1; simp at l1; omega
theorem dec_len19 {n : Nat} (h : n < 9223372036854775808) : (Lib.decDigits n).length ≤ 19 := by
  rw [Lib.decDigits_length]
  exact nDig_le 18 n (by omega)
/-- What the document's Number may tell of a text. -/
theorem pm_dv2 {M : Nat} (hM : M = 18446744073709551615) : ∀ (l : Str) (acc : Nat), digs l → (l.foldl (fun a b => 10 * a + (b.toNat - 48)) acc) ≤ M → Lib.parseUintM M acc l = .ok (l.foldl (fun a b => 10 * a + (b.toNat - 48)) acc)
  | [], acc, _, _ => rfl
  | b :: r, acc, hd, hle => by
    have hb := hd b (by simp)
    have mono : ∀ (q : Str) (a : Nat), a ≤ q.foldl (fun a b => 10 * a + (b.toNat - 48)) a := fun q => by
      induction q with
      | nil => intro a; exact Nat.le_refl _
      | cons y q ih => intro a; exact Nat.le_trans (by omega) (ih (10 * a + (y.toNat - 48)))
    have hm := mono r (10 * acc + (b.toNat - 48))
    simp only [List.foldl_cons] at hle ⊢
    unfold Lib.parseUintM
    rw [if_pos hb, if_neg (by omega), if_neg (by omega), show acc * 10 + (b.toNat - 48) = 10 * acc + (b.toNat - 48) by omega]
    exact pm_dv2 hM r _ (fun x hx => hd x (by simp [hx])) hle
theorem dec_ub {n : Nat} (h : n < 18446744073709551616) : Lib.parseUintB 64 (Lib.decDigits n) = .ok n := by
  obtain ⟨h1, h2⟩ := dec_dv n
  unfold Lib.parseUintB
  rw [if_neg (dec_ne n)]
  have := pm_dv2 (M := 2 ^ 64 - 1) (by decide) (Lib.decDigits n) 0 h2 (by
    show dv _ ≤ _
    rw [h1]; omega)
  rw [this]
  show Lib.NumEnd.ok (dv _) = _
  rw [h1]
theorem parse_itoa {v : Int} (h1 : -9223372036854775808 ≤ v) (h2 : v ≤ 9223372036854775807) : Lib.parseIntB 64 (Lib.itoa v) = .ok v := by
  rcases Int.lt_or_le v 0 with h | h
  · obtain ⟨u, rfl⟩ : ∃ u : Nat, v = -(u : Int) := ⟨v.natAbs, by omega⟩
    rw [Lib.itoa_neg u (by omega), Lib.parseIntB_minus, dec_ub (by omega)]
    show (if 2 ^ (64 - 1) < u then _ else _) = _
    rw [if_neg (by omega)]
  · obtain ⟨u, rfl⟩ : ∃ u : Nat, v = u := ⟨v.toNat, by omega⟩
    rw [Lib.itoa_nonneg]
    have hu := dec_ub (n := u) (by omega)
    have hd := (dec_dv u).2
    cases hl : Lib.decDigits u with
    | nil => exact absurd hl (dec_ne u)
    | cons c r =>
      have hc := hd c (by rw [hl]; simp)
      rw [hl] at hu
      rw [Lib.parseIntB_plain 64 c r (by omega) (by omega), hu]
      show (if 2 ^ (64 - 1) ≤ u then _ else _) = _
      rw [if_neg (by omega)]
theorem sp_first (s : Str) : ∃ w r, sp [32] s = w :: r := by
  cases h : sp [32] s with
  | nil => exact absurd h (sp_ne _ _)
  | cons w r => exact ⟨w, r, rfl⟩
theorem sp_length (sep s : Str) (hs : sep ≠ []) : (sp sep s).length ≤ s.length + 1 := by
  rw [sp_len sep s hs]
  have h1 : 1 ≤ (bs sep).size := by rw [bs_size]; exact List.length_pos_iff.2 hs
  have := Lib.countB_le (bs sep) h1 _ (bs s) (Nat.le_refl _)
  rw [bs_size] at this
  omega
theorem sp_word (sep : Str) (hs : sep ≠ []) : ∀ (n : Nat) (s : Str), s.length ≤ n → ∀ w ∈ sp sep s, w.length ≤ s.length := by
  intro n
  induction n with
  | zero =>
    intro s hn w hw
    obtain rfl : s = [] := List.length_eq_zero_iff.1 (by omega)
    rw [sp_miss (Lib.index_long (Nat.zero_le _) hs)] at hw
    rw [List.mem_singleton.1 hw]
    exact Nat.le_refl _
  | succ n ih =>
    intro s hn w hw
    by_cases hm : Lib.index s sep = -1
    · rw [sp_miss hm] at hw
      rw [List.mem_singleton.1 hw]
      exact Nat.le_refl _
    · have hg := Lib.index_ge s sep
      have hl := List.length_pos_iff.2 hs
      obtain ⟨i, hi⟩ : ∃ i : Nat, Lib.index s sep = i := ⟨(Lib.index s sep).toNat, by omega⟩
      rw [sp_hit hs hi] at hw
      rcases List.mem_cons.1 hw with rfl | hw
      · rw [List.length_take]; omega
      · have h1 : (s.drop (i + sep.length)).length = s.length - (i + sep.length) := List.length_drop
        have := ih (s.drop (i + sep.length)) (by omega) w hw
        omega
end Go.Proofs.YtjipfibbkmmfbaaGreatDoor
/-! A text's lines: plain laws. -/
namespace Go.Proofs.YtjipfibbkmmfbaaGreatDoor
set_option linter.unusedSimpArgs false
set_option linter.unusedVariables false
open Go Go.Mid Go.RowKit
/-- A text up to its first newline. -/
def lineA (t : Str) : Str := t.takeWhile (· != 10)
theorem lineA_no (t : Str) : (10 : UInt8) ∉ lineA t := by
  intro h
  have := List.all_takeWhile (p := (· != (10 : UInt8))) (l := t)
  rw [List.all_eq_true] at this
  have := this 10 h
  simp at this
theorem lineA_self {t : Str} (h : (10 : UInt8) ∉ t) : lineA t = t := by
  induction t with
  | nil => rfl
  | cons c r ih =>
    have h1 : c ≠ 10 := fun e => h (by rw [e]; simp)
    unfold lineA
    rw [List.takeWhile_cons, if_pos (by simpa using h1)]
    congr 1
    exact ih fun hm => h (by simp [hm])
theorem lineA_split {t : Str} (h : (10 : UInt8) ∈ t) : t = lineA t ++ 10 :: t.drop ((lineA t).length + 1) := by
  induction t with
  | nil => cases h
  | cons c r ih =>
    by_cases hc : c = 10
    · subst hc
      have : lineA ((10 : UInt8) :: r) = [] := by unfold lineA; rw [List.takeWhile_cons, if_neg (by simp)]
      rw [this]; rfl
    · have hr : (10 : UInt8) ∈ r := by
        rcases List.mem_cons.1 h with h | h
        · exact absurd h.symm hc
        · exact h
      have e : lineA (c :: r) = c :: lineA r := by unfold lineA; rw [List.takeWhile_cons, if_pos (by simpa using hc)]
      rw [e]
      show c :: r = c :: (lineA r ++ 10 :: r.drop ((lineA r).length + 1))
      rw [← ih hr]
theorem cutA_yes {t : Str} (h : (10 : UInt8) ∈ t) : Lib.cut t [10] = (lineA t, t.drop ((lineA t).length + 1), true) := by
  have e : Lib.index t [10] = ((lineA t).length : Nat) := by
    conv => lhs; rw [lineA_split h]
    exact idx_byte (lineA_no t)
  unfold Lib.cut
  rw [if_pos (by rw [e]; omega), e, Int.toNat_natCast]
  congr 1
  have e2 := congrArg (List.take (lineA t).length) (lineA_split h)
  rw [List.take_left] at e2
  exact e2
theorem cutA_no {t : Str} (h : (10 : UInt8) ∉ t) : Lib.cut t [10] = (t, [], false) := by
  unfold Lib.cut
  rw [if_neg (by rw [idx_no h]; decide)]
/-- A text's lines. -/
def linesA (t : Str) : List Str := if (sp [10] t).getLast? = some [] then (sp [10] t).dropLast else sp [10] t
theorem linesA_nil : linesA [] = [] := by
  unfold linesA
  rw [sp_end (by simp)]
  rfl
theorem linesA_one {w : Str} (h : (10 : UInt8) ∉ w) (h0 : w ≠ []) : linesA w = [w] := by
  unfold linesA
  rw [sp_end h, if_neg (by simpa using h0)]
theorem linesA_cons {w r : Str} (h : (10 : UInt8) ∉ w) : linesA (w ++ 10 :: r) = w :: linesA r := by
  unfold linesA
  rw [sp_one h]
  have hne := sp_ne [10] r
  have e : (w :: sp [10] r).getLast? = (sp [10] r).getLast? := by
    cases hs : sp [10] r with
    | nil => exact absurd hs hne
    | cons a l => rw [List.getLast?_cons_cons]
  rw [e]
  split
  · cases hs : sp [10] r with
    | nil => exact absurd hs hne
    | cons a l => rw [List.dropLast_cons_cons]
  · rfl
/-- A text that isn't empty: its first line, and what is left. -/
theorem linesA_step {t : Str} (h : t ≠ []) : linesA t = (Lib.cut t [10]).1 :: linesA (Lib.cut t [10]).2.1 ∧ (Lib.cut t [10]).2.1.length < t.length ∧ (Lib.cut t [10]).1.length ≤ t.length := by
  by_cases hn : (10 : UInt8) ∈ t
  · rw [cutA_yes hn]
    have e := lineA_split hn
    refine ⟨?_, ?_, ?_⟩
    · conv => lhs; rw [e]
      exact linesA_cons (lineA_no t)
    · have := congrArg List.length e
      simp only [List.length_append, List.length_cons] at this
      show (t.drop ((lineA t).length + 1)).length < t.length
      omega
    · have := congrArg List.length e
      simp only [List.length_append, List.length_cons] at this
      show (lineA t).length ≤ t.length
      omega
  · rw [cutA_no hn]
    refine ⟨?_, ?_, Nat.le_refl _⟩
    · show linesA t = t :: linesA []
      rw [linesA_nil]; exact linesA_one hn h
    · exact List.length_pos_iff.2 h
end Go.Proofs.YtjipfibbkmmfbaaGreatDoor
/-! What the listed package variables tell: the table of powers of ten, strconv's errors. -/
namespace Go.Proofs.YtjipfibbkmmfbaaGreatDoor
set_option linter.unusedSimpArgs false
set_option linter.unusedVariables false
open Go Go.Mid Go.RowKit
attribute [local irreducible] mid
theorem errRow (u : TypeId) (h : Tryz.prog.typeName? 3 u = some "*errors.errorString") : u = 152 :=
  typeName_ptr_named (nm := "errors.errorString") (by rw [show "*" ++ "errors.errorString" = "*errors.errorString" by decide]; kernel_rfl) (by kernel_rfl) (by decide) u (by rw [show "*" ++ "errors.errorString" = "*errors.errorString" by decide]; exact h)
theorem sent_of {w : World} {l : List (String × DataW Unit)} {n : String} {g : Nat} {text : List UInt8} (hm : laidMetH Tryz.prog l w) (hl : l.filter (fun x => x.1 == n) = [(n, .iface "*errors.errorString" (.ptr (.agg [.lit (.string text)])))]) (hg : Tryz.prog.globalNamed n = some g) (ht : (Tryz.prog.globals[g]?).map (·.type) = some 77) : ∃ p, w.var? Tryz.prog n = some #[.iface 152 p] := by
  have h1 := laidMetH.filter (fun x => x.1 == n) hm
  rw [hl, MakeChecks.laidMetH_plain _ _ _ (by rfl)] at h1
  obtain ⟨a, s, h2, _⟩ := laid_sentinel h1 hg ht Tryz.underlying77 errRow Tryz.underlying152 Tryz.underlying154 rfl rfl Tryz.underlying9 (by kernel_rfl) (by kernel_rfl)
  exact ⟨_, h2⟩
theorem pow_of {w : World} {l : List (String × DataW Unit)} (hm : laidMetH Tryz.prog l w) (hl : l.filter (fun x => x.1 == "internal/strconv.uint64pow10") = [("internal/strconv.uint64pow10", Lib.tabData .u64 Lib.pow10Tab)]) : Pow (whole w) := by
  have h1 := laidMetH.filter (fun x => x.1 == "internal/strconv.uint64pow10") hm
  rw [hl, MakeChecks.laidMetH_plain _ _ _ (by decide +kernel)] at h1
  exact Pow.of (Lib.tabIs_of_head powG (t := (Tryz.prog.globals[0]?.map (·.type)).getD 0) (e := 38) (n := 20) (by kernel_rfl) (by kernel_rfl) (by kernel_rfl) (by kernel_rfl) (by kernel_rfl) h1)
end Go.Proofs.YtjipfibbkmmfbaaGreatDoor
