/-
  Words.
-/
import Derived.Test.YtciagjfemgfhgaaGreatDoorLibX
import Derived.Lib.Join
import Derived.Test.YtciagjfemgfhgaaGreatDoorMidMO
import Derived.Lib.SplitLaws
import Derived.Shelf.Vars
import Derived.Lib.ParseIntBTie
/-! Words. -/
namespace Go.Proofs.YtciagjfemgfhgaaGreatDoor
set_option linter.unusedSimpArgs false
set_option linter.unusedVariables false
open Go Go.Mid Go.RowKit
attribute [local irreducible] mid
section
set_option maxHeartbeats 8000000
set_option maxRecDepth 10000
variable {h : Hp} {K : Value → Hp → Prop}
abbrev sv (x : Str) : Value := .string (bs x)
theorem aggS0 : isAggT Tryz.prog 91 = some false := by kernel_rfl
theorem sizS0 : sizeT Tryz.prog 91 = some 1 := by kernel_rfl
theorem aggStr : isAggT Tryz.prog 9 = some false := by kernel_rfl
theorem infS : Tryz.prog.info? 9 = some Tryz.prog.types[9] := by kernel_rfl
/-- h knows k; beside it lie words, w. -/
theorem slot1 {x y : Str} (e : x = y) : [MV.v (Value.string (bs x))] = [MV.v (Value.string (bs y))] := by rw [e]
theorem app_len {xs ys : List Str} {n m : Nat} (a : xs.length ≤ n) (b : ys.length ≤ m) : (xs ++ ys).length ≤ n + m := by rw [List.length_append]; omega
def tl (xs : List Str) : Str := xs.flatMap fun x => 32 :: x
theorem join_tl (x : Str) (xs : List Str) : Lib.join (x :: xs) [32] = x ++ tl xs := by
  rw [Lib.join_cons]
  rfl
theorem tl_len {xs : List Str} {n : Nat} (h : ∀ x ∈ xs, x.length ≤ n) : (tl xs).length ≤ (n + 1) * xs.length := by
  induction xs with
  | nil => simp [tl]
  | cons x xs ih =>
    have h1 := h x (by simp)
    have h2 := ih fun y hy => h y (by simp [hy])
    unfold tl at h2 ⊢
    rw [List.flatMap_cons, List.length_append, List.length_cons, List.length_cons, Nat.mul_succ]
    omega
theorem join_len {xs : List Str} (h : ∀ x ∈ xs, x.length ≤ 64) (hn : xs.length ≤ 2 ^ 20) : (Lib.join xs [32]).length ≤ 2 ^ 40 := by
  cases xs with
  | nil => simp [Lib.join_nil]
  | cons x xs =>
    rw [join_tl, List.length_append]
    have h1 := h x (by simp)
    have h2 := tl_len (n := 64) (xs := xs) fun y hy => h y (by simp [hy])
    rw [List.length_cons] at hn
    have : (64 + 1) * xs.length ≤ 65 * 2 ^ 20 := Nat.mul_le_mul_left 65 (by omega)
    omega
/-- Words that aren't long. -/
def Sm (xs : List Str) : Prop := ∀ x ∈ xs, x.length ≤ 64
theorem Sm.app {xs ys : List Str} (a : Sm xs) (b : Sm ys) : Sm (xs ++ ys) := fun x hx => (List.mem_append.1 hx).elim (a x) (b x)
theorem Sm.nil : Sm [] := fun x hx => by cases hx
theorem Sm.cons {x : Str} {ys : List Str} (a : x.length ≤ 64) (b : Sm ys) : Sm (x :: ys) := fun z hz => by
  rcases List.mem_cons.1 hz with rfl | hz
  · exact a
  · exact b z hz
theorem sm_itoa {n : Int} (h0 : -9223372036854775808 ≤ n) (h1 : n ≤ 9223372036854775807) : (Lib.itoa n).length ≤ 64 := Nat.le_trans (itoa_len h0 h1) (by decide)
theorem sm_dec {n : Nat} (h : n < 18446744073709551616) : (Lib.decDigits n).length ≤ 64 := Nat.le_trans (dec_len h) (by decide)
theorem tl_nil : tl [] = [] := rfl
theorem tl_cons (x : Str) (xs : List Str) : tl (x :: xs) = 32 :: (x ++ tl xs) := rfl
theorem tl_app (xs ys : List Str) : tl (xs ++ ys) = tl xs ++ tl ys := List.flatMap_append
theorem tl_sm {xs : List Str} {m : Nat} (h : Sm xs) (hm : xs.length ≤ m) : (tl xs).length ≤ 65 * m := Nat.le_trans (tl_len h) (Nat.mul_le_mul_left 65 hm)
abbrev J (ws : List Str) : Str := Lib.join ws [32]
theorem J_app {ws : List Str} (h : ws ≠ []) (ys : List Str) : J (ws ++ ys) = J ws ++ tl ys := by
  cases ws with
  | nil => exact absurd rfl h
  | cons x xs => rw [List.cons_append, J, J, join_tl, join_tl, tl_app, List.append_assoc]
theorem J_len {ws : List Str} (h : Sm ws) (hn : ws.length ≤ 200) : (J ws).length ≤ 13064 := by
  cases ws with
  | nil => simp [J, Lib.join_nil]
  | cons x xs =>
    rw [J, join_tl, List.length_append]
    have h1 := h x (by simp)
    have h2 := tl_len (n := 64) (xs := xs) fun y hy => h y (by simp [hy])
    rw [List.length_cons] at hn
    have : (64 + 1) * xs.length ≤ 65 * 200 := Nat.mul_le_mul_left 65 (by omega)
    omega
theorem ne_app {xs ys : List Str} (h : xs ≠ []) : xs ++ ys ≠ [] := fun e => h (List.append_eq_nil_iff.1 e).1
structure Wk (ws : List Str) (n : Nat) : Prop where
  ne : ws ≠ []
  sm : Sm ws
  len : ws.length ≤ n
theorem Wk.app {xs ys : List Str} {n m : Nat} (a : Wk xs n) (b : Sm ys) (c : ys.length ≤ m) : Wk (xs ++ ys) (n + m) := ⟨ne_app a.ne, a.sm.app b, app_len a.len c⟩
theorem Wk.J {xs : List Str} {n : Nat} (a : Wk xs n) (h : n ≤ 200) : (J xs).length ≤ 13064 := J_len a.sm (Nat.le_trans a.len h)
theorem cat_J {ws ys : List Str} {n : Nat} {K : ByteArray → Prop} (w : Wk ws n) (hn : n ≤ 200) (sy : Sm ys) (ly : ys.length ≤ 60) (hk : K (bs (J (ws ++ ys)))) : catK (bs (J ws)) (bs (tl ys)) K := by
  have h1 := w.J hn
  have h2 := tl_sm sy ly
  exact cat_by (by omega) (J_app w.ne ys).symm hk
theorem slotJ {ws ws' : List Str} (e : ws = ws') : [MV.v (Value.string (bs (J ws)))] = [MV.v (Value.string (bs (J ws')))] := by rw [e]
theorem itoa_ne (n : Int) : Lib.itoa n ≠ [] := by
  have hd : ∀ u, Lib.decDigits u ≠ [] := fun u e => by
    have h1 := Lib.decDigits_length u
    rw [e] at h1
    have h2 := Lib.nDigits_pos u
    simp at h1
    omega
  unfold Lib.itoa
  split
  · simp
  · exact hd _
end
end Go.Proofs.YtciagjfemgfhgaaGreatDoor
/-! Strings that are cut and split: what Go's library answers. -/
namespace Go.Proofs.YtciagjfemgfhgaaGreatDoor
set_option linter.unusedSimpArgs false
set_option linter.unusedVariables false
open Go Go.Mid Go.RowKit
attribute [local irreducible] mid
/-- A string's pieces. -/
def sp (sep s : Str) : List Str := Lib.splitK sep 0 (Lib.count s sep) s
theorem sp_miss {sep s : Str} (h : Lib.index s sep = -1) : sp sep s = [s] := by
  unfold sp
  rw [Lib.count_miss h]
  rfl
theorem sp_hit {sep s : Str} {i : Nat} (hs : sep ≠ []) (h : Lib.index s sep = i) : sp sep s = s.take i :: sp sep (s.drop (i + sep.length)) := by
  unfold sp
  rw [Lib.count_hit hs h, Nat.add_comm, Lib.splitK, if_neg (by rw [h]; simp), h]
  rfl
theorem sp_ne (sep s : Str) : sp sep s ≠ [] := by
  unfold sp
  cases Lib.count s sep with
  | zero => simp [Lib.splitK]
  | succ k => unfold Lib.splitK; split <;> simp
theorem bs_data (z : ByteArray) : bs z.data.toList = z := rfl
theorem sp_B (sep s : Str) : (Lib.splitB (bs sep) 0 (Lib.countB (bs s) (bs sep)) (bs s)).map Value.string = (sp sep s).map sv := by
  have h : sp sep s = (Lib.splitB (bs sep) 0 (Lib.countB (bs s) (bs sep)) (bs s)).map (·.data.toList) := (Lib.splitB_data (bs sep) 0 _ (bs s)).symm
  rw [h, List.map_map]
  rfl
theorem sp_len (sep s : Str) (h : sep ≠ []) : (sp sep s).length = Lib.countB (bs s) (bs sep) + 1 := by
  have e := congrArg List.length (sp_B sep s)
  rw [List.length_map, List.length_map] at e
  rw [← e, Lib.splitB_all (bs sep) (by rw [bs_size]; exact List.length_pos_iff.2 h) 0 _ (bs s) rfl]
theorem X.ofAlloc {P : Program} {f : FuncId} {args : Array Value} {v : Nat → Value} {o : Obj} {h : Hp} {K : Value → Hp → Prop} (hc : ∀ w0 w, Sat w0 h w → Calls P f args w fun e w' => e = .returned (v w.heap.size) ∧ w' = w.alloc o) (hk : ∀ b, h b = none → K (v b) (h.set b o)) : X P f args h K :=
  ⟨fun w0 w s => (hc w0 w s).mono fun _ w' ⟨he, hb⟩ => ⟨v w.heap.size, h.set w.heap.size o, he, by
    subst hb
    have hh : (w.alloc o).heap = w.heap.push o := rfl
    refine ⟨⟨s.os, s.tape, s.output, Nat.le_trans s.size ?_, fun b o' e => ?_⟩, ?_, fun b hb e => ⟨?_, ?_⟩⟩
    · rw [hh, Array.size_push]; omega
    · by_cases hbs : b = w.heap.size
      · subst hbs
        rw [Hp.set_same] at e
        cases e
        rw [hh, Array.getElem?_push_size]
      · rw [Hp.set_other _ _ hbs] at e
        have := s.known b o' e
        have hlt := s.lt e
        rw [hh, Array.getElem?_push_lt hlt]
        rw [Array.getElem?_eq_getElem hlt] at this
        exact this
    · rw [hh, Array.size_push]; omega
    · rw [hh, Array.getElem?_push_lt hb, Array.getElem?_eq_getElem hb]
    · rw [Hp.set_other _ _ (by omega)]; exact e, hk _ s.fresh⟩⟩
section
set_option maxHeartbeats 8000000
set_option maxRecDepth 10000
variable {h : Hp} {K : Value → Hp → Prop}
/-- The library's own variable for its searches holds a number. -/
def Mx (h : Hp) : Prop := ∃ m, h.cell? ⟨0, 0, none⟩ = some (.int .i64 m)
theorem Mx.le {h h' : Hp} (p : Mx h) (hle : h.le h') : Mx h' := by
  obtain ⟨m, hm⟩ := p
  exact ⟨m, cell_le hle hm⟩
theorem Mx.of {w : World} (h : w.ShapedOpen Tryz.prog) : Mx (whole w) :=
  Go.Proofs.cell_of_shapedOpen_int (zero := #[.int .i64 0]) (t := 3) h (of_decide_eq_true (by kernel_rfl)) (by kernel_rfl) rfl (by kernel_rfl) (by kernel_rfl) Tryz.underlying3
theorem split_x (hm : Mx h) (s sep : Str) (hs : s.length < 4294967281) (hp : sep ≠ []) (hk : ∀ b h', h b = none → h' = h.set b (rowO 9 ((sp sep s).map sv)) → K (.slice (some ⟨b, 0, none⟩) (sp sep s).length (sp sep s).length) h') : X Tryz.prog 44 #[.string (bs s), .string (bs sep)] h K := by
  refine X.ofAlloc (v := fun b => .slice (some ⟨b, 0, none⟩) (sp sep s).length (sp sep s).length) (o := rowO 9 ((sp sep s).map sv)) (fun w0 w t => ?_) fun b hb => hk b _ hb rfl
  obtain ⟨m, hm⟩ := hm
  have := Tryz.strings_Split (bs s) (bs sep) m w (by rw [bs_size]; exact hs) (t.cell hm) (by rw [bs_size]; exact List.length_pos_iff.2 hp)
  rw [sp_B, ← sp_len sep s hp] at this
  exact this
theorem cut_x (hm : Mx h) (s sep : Str) (hs : s.length < 4294967281) (hk : K (.tuple #[.string (bs (Lib.cut s sep).1), .string (bs (Lib.cut s sep).2.1), .bool (Lib.cut s sep).2.2]) h) : X Tryz.prog 25 #[.string (bs s), .string (bs sep)] h K := by
  obtain ⟨m, hm⟩ := hm
  refine X.ofGrow (v := .tuple #[.string (bs (Lib.cut s sep).1), .string (bs (Lib.cut s sep).2.1), .bool (Lib.cut s sep).2.2]) (fun w0 w t => ?_) hk
  refine (Tryz.strings_Cut (bs s) (bs sep) m w (by rw [bs_size]; exact hs) (t.cell hm)).mono fun e w' ⟨he, n, hn⟩ => ⟨he, n, #[], ?_⟩
  rw [hn]
  exact (Sort.grow_empty _).symm
end
end Go.Proofs.YtciagjfemgfhgaaGreatDoor
/-! Numbers of texts; letters looked for: what Go's library answers. -/
namespace Go.Proofs.YtciagjfemgfhgaaGreatDoor
set_option linter.unusedSimpArgs false
set_option linter.unusedVariables false
open Go Go.Mid Go.RowKit
attribute [local irreducible] mid
theorem X.ofBelowE {P : Program} {f : FuncId} {args : Array Value} {Q : Value → Prop} {h : Hp} {K : Value → Hp → Prop} (hc : ∀ w0 w, Sat w0 h w → Calls P f args w fun e w' => ∃ v, e = .returned v ∧ Q v ∧ Below w.heap.size w w') (hk : ∀ v, Q v → K v h) : X P f args h K :=
  ⟨fun w0 w s => (hc w0 w s).mono fun _ _ ⟨v, he, hq, hb⟩ => ⟨v, h, he, Ext.ofBelow s hb, hk v hq⟩⟩
section
set_option maxHeartbeats 8000000
set_option maxRecDepth 10000
variable {h : Hp} {K : Value → Hp → Prop}
/-- The library's own errors are values. -/
def Er (h : Hp) : Prop := (∃ ev, h.cell? ⟨2, 0, none⟩ = some ev ∧ (ev = .nilIface ∨ ∃ te pe, ev = .iface te pe)) ∧ ∃ ev, h.cell? ⟨3, 0, none⟩ = some ev ∧ (ev = .nilIface ∨ ∃ te pe, ev = .iface te pe)
theorem Er.le {h h' : Hp} (p : Er h) (hle : h.le h') : Er h' := by
  obtain ⟨⟨a, h1, h2⟩, b, h3, h4⟩ := p
  exact ⟨⟨a, cell_le hle h1, h2⟩, b, cell_le hle h3, h4⟩
theorem Er.of {w : World} {t1 t2 : TypeId} {p1 p2 : Value} (h1 : w.var? Tryz.prog "strconv.ErrSyntax" = some #[.iface t1 p1]) (h2 : w.var? Tryz.prog "strconv.ErrRange" = some #[.iface t2 p2]) : Er (whole w) :=
  ⟨⟨.iface t1 p1, by have h0 := World.var?_cell (show Tryz.prog.globalNamed "strconv.ErrSyntax" = some 2 by kernel_rfl) h1 0; rw [whole_cell]; simpa using h0, .inr ⟨_, _, rfl⟩⟩, ⟨.iface t2 p2, by have h0 := World.var?_cell (show Tryz.prog.globalNamed "strconv.ErrRange" = some 3 by kernel_rfl) h2 0; rw [whole_cell]; simpa using h0, .inr ⟨_, _, rfl⟩⟩⟩
theorem parseInt_x (he : Er h) (s : Str) (hs : s.length ≤ 2 ^ 40)
    (hk0 : ∀ v, Lib.parseIntB 64 s = .ok v → K (.tuple #[.int .i64 v, .nilIface]) h)
    (hk : ∀ v T p, (∀ v', Lib.parseIntB 64 s ≠ .ok v') → K (.tuple #[.int .i64 v, .iface T p]) h) : X Tryz.prog 61 #[.string (bs s), .int .i64 10, .int .i64 64] h K := by
  have hl : (bs s).size ≤ 281474976710656 := by rw [bs_size]; exact Nat.le_trans hs (by decide)
  cases hp : Lib.parseIntB 64 s with
  | ok v =>
    refine X.ofBelow (v := .tuple #[.int .i64 v, .nilIface]) (fun w0 w t => ?_) (hk0 v hp)
    refine (Tryz.strconv_ParseInt_10_at64_ok (bs s) (Nat.le_trans hl (by decide)) v hp w).mono fun e w' ⟨he, hw⟩ => ⟨he, ?_⟩
    rcases hw with rfl | ⟨t, rfl⟩
    · exact Below.refl _ _
    · exact Lib.bytesWorld_below _ _ _
  | range =>
    refine X.ofBelowE (Q := fun v => ∃ n T p, v = .tuple #[.int .i64 n, .iface T p]) (fun w0 w t => ?_) (fun v ⟨n, T, p, e⟩ => e ▸ hk n T p fun v' hv => by rw [hp] at hv; cases hv)
    obtain ⟨_, ev, h1, h2⟩ := he
    refine (Tryz.strconv_ParseInt_10_at64_range (bs s) hl hp ev w (t.cell h1) h2).mono fun e w' ⟨N, he, _, _, hb⟩ => ⟨_, he, ⟨_, _, _, rfl⟩, hb⟩
  | _ =>
    refine X.ofBelowE (Q := fun v => ∃ n T p, v = .tuple #[.int .i64 n, .iface T p]) (fun w0 w t => ?_) (fun v ⟨n, T, p, e⟩ => e ▸ hk n T p fun v' hv => by rw [hp] at hv; cases hv)
    obtain ⟨⟨ev, h1, h2⟩, _⟩ := he
    refine (Any.strconv_ParseInt_10_at64_syntax Tryz.laysC174 (bs s) hl hp ev w (t.cell h1) h2).mono fun e w' ⟨N, he, _, _, hb⟩ => ⟨_, he, ⟨_, _, _, rfl⟩, hb⟩
theorem indexByte_x (s : Str) (c : UInt8) (hk : K (.int .i64 (Lib.indexByte s c)) h) : X Tryz.prog 90 #[.string (bs s), byV c] h K := by
  refine X.ofBelow (v := .int .i64 (Lib.indexByte s c)) (fun w0 w t => ?_) hk
  refine (Tryz.strings_IndexByte (bs s) c.toNat w).mono fun e w' hh => ?_
  refine ⟨hh.1.trans ?_, by rw [hh.2]; exact Below.refl _ _⟩
  congr 3
  rw [Int.toNat_natCast]
  exact UInt8.ofNat_toNat
end
end Go.Proofs.YtciagjfemgfhgaaGreatDoor
/-! slices.Index of texts, over the middle layer. -/
namespace Go.Proofs.YtciagjfemgfhgaaGreatDoor
set_option linter.unusedSimpArgs false
set_option linter.unusedVariables false
open Go Go.Mid Go.RowKit
attribute [local irreducible] mid
section
set_option maxHeartbeats 8000000
set_option maxRecDepth 10000
variable {h : Hp} {K : Value → Hp → Prop}
theorem idxS_x (b n c : Nat) (zs : List Str) (x : Str) (el : TypeId) (hb : h b = some (rowO el (zs.map sv))) (hn : n = zs.length) (hbig : n ≤ 2 ^ 40) (hk : K (.int .i64 (Lib.idxOfS (zs.map bs) (bs x))) h) : X Tryz.prog 59 #[.slice (some ⟨b, 0, none⟩) n c, .string (bs x)] h K := by
  subst hn
  refine X.ofBelow (v := .int .i64 (Lib.idxOfS (zs.map bs) (bs x))) (fun w0 w t => ?_) hk
  have := Tryz.slices_Index_string b 0 zs.length c (zs.map bs) (bs x) w (by rw [List.length_map]; exact Nat.le_refl _) (Nat.le_trans hbig (by decide)) (fun j hj => by
    rw [List.length_map] at hj
    refine t.cell ?_
    rw [Nat.zero_add]
    refine cell_row hb ?_
    rw [List.getElem?_map, List.getElem?_eq_getElem hj, List.getD_eq_getElem?_getD, List.getElem?_map, List.getElem?_eq_getElem hj]
    rfl)
  refine this.mono fun e w' hh => ?_
  rw [List.take_of_length_le (by rw [List.length_map]; exact Nat.le_refl _)] at hh
  exact ⟨hh.1, by rw [hh.2]; exact Below.refl _ _⟩
end
end Go.Proofs.YtciagjfemgfhgaaGreatDoor
/-! Words and numbers that are written: plain laws. -/
namespace Go.Proofs.YtciagjfemgfhgaaGreatDoor
set_option linter.unusedSimpArgs false
set_option linter.unusedVariables false
open Go Go.Mid Go.RowKit
theorem idx_byte {w r : Str} {c : UInt8} (h : c ∉ w) : Lib.index (w ++ c :: r) [c] = (w.length : Nat) := by
  refine Lib.index_first (by simp) ?_ fun j hj => ?_
  · show List.isPrefixOf _ (List.drop _ _) = _
    rw [List.drop_left]; simp
  · show List.isPrefixOf _ (List.drop _ _) = _
    rw [List.drop_append_of_le_length (by omega), List.drop_eq_getElem_cons hj]
    simp only [List.cons_append, List.isPrefixOf, Bool.and_true, beq_eq_false_iff_ne]
    intro e
    exact h (e ▸ List.getElem_mem hj)
theorem idx_no {w : Str} {c : UInt8} (h : c ∉ w) : Lib.index w [c] = -1 := by
  rcases Lib.index_spec w [c] with ⟨h1, _⟩ | ⟨i, h1, h2, h3, _⟩
  · exact h1
  · have h3 : List.isPrefixOf [c] (w.drop i) = true := h3
    cases hd : w.drop i with
    | nil => rw [hd] at h3; simp at h3
    | cons a q =>
      rw [hd] at h3
      simp only [List.isPrefixOf, Bool.and_true, beq_iff_eq] at h3
      exact absurd (List.mem_of_mem_drop (i := i) (by rw [hd, h3]; simp)) h
theorem sp_one {w r : Str} {c : UInt8} (h : c ∉ w) : sp [c] (w ++ c :: r) = w :: sp [c] r := by
  rw [sp_hit (by simp) (idx_byte h), List.take_left]
  congr 1
  show sp [c] ((w ++ c :: r).drop (w.length + 1)) = _
  rw [← List.drop_drop, List.drop_left]; rfl
theorem sp_end {w : Str} {c : UInt8} (h : c ∉ w) : sp [c] w = [w] := sp_miss (idx_no h)
/-- What digits spell. -/
def dv (l : Str) : Nat := l.foldl (fun a b => 10 * a + (b.toNat - 48)) 0
def digs (l : Str) : Prop := ∀ b ∈ l, 48 ≤ b.toNat ∧ b.toNat ≤ 57
theorem dv_snoc (l : Str) (b : UInt8) : dv (l ++ [b]) = 10 * dv l + (b.toNat - 48) := by simp [dv]
theorem dec_rec (u : Nat) : Lib.decDigits u = if u < 10 then [UInt8.ofNat (48 + u)] else Lib.decDigits (u / 10) ++ [UInt8.ofNat (48 + u % 10)] := by
  rw [Lib.decDigits]
  split <;> rfl
theorem dec_dv (u : Nat) : dv (Lib.decDigits u) = u ∧ digs (Lib.decDigits u) := by
  induction u using Nat.strongRecOn with
  | _ u ih =>
    rw [dec_rec]
    split
    · have e : (UInt8.ofNat (48 + u)).toNat = 48 + u := by rw [UInt8.toNat_ofNat']; omega
      refine ⟨?_, fun b hb => ?_⟩
      · show 10 * 0 + ((UInt8.ofNat (48 + u)).toNat - 48) = u
        rw [e]; omega
      · simp only [List.mem_singleton] at hb; subst hb; rw [e]; omega
    · obtain ⟨h1, h2⟩ := ih (u / 10) (by omega)
      have e : (UInt8.ofNat (48 + u % 10)).toNat = 48 + u % 10 := by rw [UInt8.toNat_ofNat']; omega
      refine ⟨?_, fun b hb => ?_⟩
      · rw [dv_snoc, h1, e]; omega
      · rcases List.mem_append.1 hb with hb | hb
        · exact h2 b hb
        · simp only [List.mem_singleton] at hb; subst hb; rw [e]; omega
theorem dv_lt : ∀ (k : Nat) (l : Str), l.length ≤ k → digs l → dv l < 10 ^ k
  | 0, l, h, _ => by
    have : l = [] := List.eq_nil_of_length_eq_zero (by omega)
    subst this
    decide
  | k + 1, l, h, hd => by
    rcases List.eq_nil_or_concat l with rfl | ⟨q, b, rfl⟩
    · show 0 < _
      exact Nat.pow_pos (by decide)
    · have hb := hd b (by simp)
      have ih := dv_lt k q (by simp at h; omega) (fun x hx => hd x (by simp [hx]))
      rw [List.concat_eq_append, dv_snoc, Nat.pow_succ]
      omega
theorem dec_ne (n : Nat) : Lib.decDigits n ≠ [] := fun e => by
  have l1 := Lib.decDigits_length n
  have l2 := Lib.nDigits_pos n
  rw [e] at l1; simp at l1; omega
theorem dec_len19 {n : Nat} (h : n < 9223372036854775808) : (Lib.decDigits n).length ≤ 19 := by
  rw [Lib.decDigits_length]
  exact nDig_le 18 n (by omega)
/-- What the document's Number may tell of a text. -/
theorem pm_dv2 {M : Nat} (hM : M = 18446744073709551615) : ∀ (l : Str) (acc : Nat), digs l → (l.foldl (fun a b => 10 * a + (b.toNat - 48)) acc) ≤ M → Lib.parseUintM M acc l = .ok (l.foldl (fun a b => 10 * a + (b.toNat - 48)) acc)
  | [], acc, _, _ => rfl
  | b :: r, acc, hd, hle => by
    have hb := hd b (by simp)
    have mono : ∀ (q : Str) (a : Nat), a ≤ q.foldl (fun a b => 10 * a + (b.toNat - 48)) a := fun q => by
      induction q with
      | nil => intro a; exact Nat.le_refl _
      | cons y q ih => intro a; exact Nat.le_trans (by omega) (ih (10 * a + (y.toNat - 48)))
    have hm := mono r (10 * acc + (b.toNat - 48))
    simp only [List.foldl_cons] at hle ⊢
    unfold Lib.parseUintM
    rw [if_pos hb, if_neg (by omega), if_neg (by omega), show acc * 10 + (b.toNat - 48) = 10 * acc + (b.toNat - 48) by omega]
    exact pm_dv2 hM r _ (fun x hx => hd x (by simp [hx])) hle
theorem dec_ub {n : Nat} (h : n < 18446744073709551616) : Lib.parseUintB 64 (Lib.decDigits n) = .ok n := by
  obtain ⟨h1, h2⟩ := dec_dv n
  unfold Lib.parseUintB
  rw [if_neg (dec_ne n)]
  have := pm_dv2 (M := 2 ^ 64 - 1) (by decide) (Lib.decDigits n) 0 h2 (by
    show dv _ ≤ _
    rw [h1]; omega)
  rw [this]
  show Lib.NumEnd.ok (dv _) = _
  rw [h1]
theorem parse_itoa {v : Int} (h1 : -9223372036854775808 ≤ v) (h2 : v ≤ 9223372036854775807) : Lib.parseIntB 64 (Lib.itoa v) = .ok v := by
  rcases Int.lt_or_le v 0 with h | h
  · obtain ⟨u, rfl⟩ : ∃ u : Nat, v = -(u : Int) := ⟨v.natAbs, by omega⟩
    rw [Lib.itoa_neg u (by omega), Lib.parseIntB_minus, dec_ub (by omega)]
    show (if 2 ^ (64 - 1) < u then _ else _) = _
    rw [if_neg (by omega)]
  · obtain ⟨u, rfl⟩ : ∃ u : Nat, v = u := ⟨v.toNat, by omega⟩
    rw [Lib.itoa_nonneg]
    have hu := dec_ub (n := u) (by omega)
    have hd := (dec_dv u).2
    cases hl : Lib.decDigits u with
    | nil => exact absurd hl (dec_ne u)
    | cons c r =>
      have hc := hd c (by rw [hl]; simp)
      rw [hl] at hu
      rw [Lib.parseIntB_plain 64 c r (by omega) (by omega), hu]
      show (if 2 ^ (64 - 1) ≤ u then _ else _) = _
      rw [if_neg (by omega)]
end Go.Proofs.YtciagjfemgfhgaaGreatDoor
/-! The document's words of a line, and its numbers. -/
namespace Go.Proofs.YtciagjfemgfhgaaGreatDoor
set_option linter.unusedSimpArgs false
set_option linter.unusedVariables false
open Go Go.Mid Go.RowKit
attribute [local irreducible] mid
def NumR (s : Str) (k : Int) (ok : Bool) : Prop := (ok = true → Lib.itoa k = s ∧ -9223372036854775808 ≤ k ∧ k ≤ 9223372036854775807) ∧ ∀ n : Nat, n < 9223372036854775808 → s = Lib.decDigits n → ok = true ∧ k = n
theorem NumR.no {s : Str} {k : Int} (h : ∀ n : Nat, n < 9223372036854775808 → s ≠ Lib.decDigits n) : NumR s k false := ⟨fun e => (by cases e), fun n hn e => absurd e (h n hn)⟩
section
set_option maxHeartbeats 8000000
set_option maxRecDepth 10000
variable {h : Hp} {K : Value → Hp → Prop}
theorem rsplit_x (s : Str) (hs : s.length ≤ 2 ^ 29) (hk : ∀ sl h', Owns h h' 9 1 sl (sp [32] s).length ((sp [32] s).map sv) → K sl h') : X Tryz.prog 63 #[sv s] h K := by
  refine fnv (args := _) mixed [] [] [] Tryz.func63 rfl (by kernel_rfl) ?_; conv => whnf
  refine loop_at [5, 3, 4] [] (fun r vs _ h' => ∃ (i : Nat) (sl : Value) (acc : List Str) (w : Str), i ≤ s.length ∧ r = s.length - i ∧ vs = [.v ((.int .i64 i)), .v sl, .v (sv w)] ∧ Owns h h' 9 1 sl acc.length (acc.map sv) ∧ acc.length ≤ i ∧ w.length ≤ i ∧ (32 : UInt8) ∉ w ∧ acc ++ sp [32] (w ++ s.drop i) = sp [32] s) s.length
    ⟨0, .slice none 0 0, [], [], by omega, by omega, rfl, Owns.nil (Hp.le_refl _), by simp, by simp, by simp, by simp⟩ ?_
  rintro r vs cs mm bx h1 ⟨i, sl, acc, w, hi, rfl, rfl, hO, ha, hw, hw32, hsp⟩
  obtain ⟨sa, sc, rfl⟩ := hO.shape
  conv => whnf
  refine bsel_intro (fun q1 => ?_) (fun q1 => ?_) <;> try simp only [bsL] at q1
  · have hiS : i < s.length := by omega
    obtain ⟨b, hb⟩ : ∃ b, s[i]? = some b := ⟨_, List.getElem?_eq_getElem hiS⟩
    have hd : s.drop i = b :: s.drop (i + 1) := by
      rw [List.drop_eq_getElem_cons hiS]
      congr 1
      exact (List.getElem?_eq_some_iff.1 hb).2
    rw [hd] at hsp
    conv => whnf
    refine ch_intro (b) (by omega) (by rw [Int.toNat_natCast]; exact hb) ?_; conv => whnf
    refine bsel_intro (fun q2 => ?_) (fun q2 => ?_) <;> try simp only [bsL] at q2
    · have hb32 : b = 32 := UInt8.toNat_inj.1 (by have : (32 : UInt8).toNat = 32 := rfl; omega)
      subst hb32
      rw [sp_one hw32] at hsp
      conv => whnf
      refine new_intro (o := rowO 9 [sv w]) (fun y h2 n_y le_y at_y ot_y => ?_); conv => whnf
      refine Owns.app1 (z := .string ⟨#[]⟩) (by kernel_rfl) infS (by kernel_rfl) (by kernel_rfl) (by kernel_rfl) rfl (bytes := 16) (by decide) rfl rfl rfl (hO.up le_y) at_y rfl rfl (by omega) fun s3 h3 hO3 => ?_
      conv => whnf
      (first | refine ov_c (by simp only [loK, hiK]; omega) ?_ | refine ov_c (by decide) ?_); conv => whnf
      refine ⟨s.length - (i + 1), by omega, i + 1, s3, acc ++ [w], [], by omega, rfl, rfl, ?_, by simp; omega, by simp, by simp, by rw [← hsp]; simp⟩
      rw [List.length_append, List.map_append]
      exact hO3
    · have hb32 : b ≠ 32 := fun e => q2 (by rw [e]; rfl)
      conv => whnf
      (first | refine ov_c (by simp only [loK, hiK]; omega) ?_ | refine ov_c (by decide) ?_); conv => whnf
      (first | refine need_intro (⟨by omega, by rw [bs_size]; omega⟩) ?_ | refine must.mk (⟨by omega, by rw [bs_size]; omega⟩) ?_); conv => whnf
      (first | refine need_intro (⟨by omega, by omega⟩) ?_ | refine must.mk (⟨by omega, by omega⟩) ?_); conv => whnf
      refine sub_by (m := [b]) ?_ ?_
      · rw [show ((i : Int) + 1).toNat = i + 1 by omega, Int.toNat_natCast, List.take_add_one, hb]
        exact List.drop_left' (by rw [List.length_take]; omega)
      conv => whnf
      refine cat_intro (by simp; omega) ?_
      conv => whnf
      (first | refine ov_c (by simp only [loK, hiK]; omega) ?_ | refine ov_c (by decide) ?_); conv => whnf
      refine ⟨s.length - (i + 1), by omega, i + 1, _, acc, w ++ [b], by omega, rfl, rfl, hO, by omega, by simp; omega, ?_, by rw [← hsp]; simp⟩
      intro hm
      rcases List.mem_append.1 hm with hm | hm
      · exact hw32 hm
      · simp only [List.mem_singleton] at hm; exact hb32 hm.symm
  · have hin : i = s.length := by omega
    subst hin
    rw [List.drop_length, List.append_nil, sp_end hw32] at hsp
    conv => whnf
    refine new_intro (o := rowO 9 [sv w]) (fun y h2 n_y le_y at_y ot_y => ?_); conv => whnf
    refine Owns.app1 (z := .string ⟨#[]⟩) (by kernel_rfl) infS (by kernel_rfl) (by kernel_rfl) (by kernel_rfl) rfl (bytes := 16) (by decide) rfl rfl rfl (hO.up le_y) at_y rfl rfl (by omega) fun s3 h3 hO3 => ?_
    conv => whnf
    refine hk _ _ ?_
    rw [← hsp, List.length_append, List.map_append]
    exact hO3
/-- Behind the sign. -/
theorem numF_x (s t : Str) (below : Bool) (hb : below = true → s = 45 :: t) (hn : below = false → t = s ∧ ∀ c r, s = c :: r → c ≠ 45) : (∀ n : Nat, n < 9223372036854775808 → s = Lib.decDigits n → below = false ∧ t = s ∧ digs t ∧ dv t = n ∧ t ≠ [] ∧ t.length ≤ 19) := fun n h e => by
  obtain ⟨h1, h2⟩ := dec_dv n
  cases below with
  | true =>
    have h3 := hb rfl
    rw [e] at h3
    have := h2 45 (by rw [h3]; simp)
    exact absurd this.1 (by decide)
  | false =>
    obtain ⟨h3, _⟩ := hn rfl
    rw [h3, e]
    exact ⟨rfl, rfl, h2, h1, dec_ne n, dec_len19 h⟩
theorem wrapI64 (x : Int) : IntKind.i64.wrap x = (x + 9223372036854775808) % 18446744073709551616 - 9223372036854775808 := by
  unfold IntKind.wrap
  simp [IntKind.signed, IntKind.bits]
  split <;> omega
theorem number_x (s : Str) (hs : s.length ≤ 2 ^ 40) (hk : ∀ k ok, NumR s k ok → K (.tuple #[.int .i64 k, .bool ok]) h) : X Tryz.prog 65 #[sv s] h K := by
  have hno : ∀ k : Int, (∀ n : Nat, n < 9223372036854775808 → s ≠ Lib.decDigits n) → K (.tuple #[.int .i64 k, .bool false]) h := fun k hh => hk k false (NumR.no hh)
  refine fnv (args := _) mixed [] [] [] Tryz.func65 rfl (by kernel_rfl) ?_; conv => whnf
  by_cases hc : ∃ r, s = 45 :: r
  · obtain ⟨t, rfl⟩ := hc
    have hnum := numF_x (45 :: t) t true (fun _ => rfl) (fun e => by cases e)
    conv => whnf
    refine bsel_true (by rw [bs_size]; simp) ?_; conv => whnf
    refine ch_intro ((45 : UInt8)) (by omega) (rfl) ?_; conv => whnf
    refine need_intro (by rw [bs_size, List.length_cons]; omega) ?_
    conv => whnf
    refine sub_from (m := t) rfl ?_
    conv => whnf
    conv => whnf
    refine bsel_intro (fun q1 => ?_) (fun q1 => ?_) <;> try simp only [bsL] at q1
    · conv => whnf
      exact hno _ fun n hn e => (hnum n hn e).2.2.2.2.1 (List.eq_nil_of_length_eq_zero (by omega))
    conv => whnf
    refine bsel_intro (fun q2 => ?_) (fun q2 => ?_) <;> try simp only [bsL] at q2
    · conv => whnf
      exact hno _ fun n hn e => by have := (hnum n hn e).2.2.2.2.2; omega
    conv => whnf
    refine loop_at [7, 6] [] (fun r vs _ h' => h = h' ∧ ∃ i : Nat, i ≤ t.length ∧ r = t.length - i ∧ vs = [.v (.int .i64 i), .v (.int .u64 (dv (t.take i) : Nat))] ∧ digs (t.take i)) t.length ⟨rfl, 0, by omega, by omega, rfl, by simp [digs]⟩ ?_
    rintro r vs cs mm bx _ ⟨rfl, i, hi, rfl, rfl, hdg⟩
    conv => whnf
    refine bsel_intro (fun q3 => ?_) (fun q3 => ?_) <;> try simp only [bsL] at q3
    · have hiT : i < t.length := by omega
      obtain ⟨b, hb⟩ : ∃ b, t[i]? = some b := ⟨_, List.getElem?_eq_getElem hiT⟩
      have hb' : t[((i : Nat) : Int).toNat]? = some b := by rw [Int.toNat_natCast]; exact hb
      have hdv := dv_lt 18 (t.take i) (by rw [List.length_take]; omega) hdg
      have hb8 := b.toNat_lt
      have htk : t.take (i + 1) = t.take i ++ [b] := by rw [List.take_add_one, hb]; rfl
      have hdv2 := dv_snoc (t.take i) b
      rw [← htk] at hdv2
      have hbd : ∀ n : Nat, n < 9223372036854775808 → _ = Lib.decDigits n → 48 ≤ b.toNat ∧ b.toNat ≤ 57 := fun n hn e => (hnum n hn e).2.2.1 b (List.mem_of_getElem? hb)
      generalize dv (t.take i) = D at *
      conv => whnf
      refine ch_intro (b) (by omega) (hb') ?_; conv => whnf
      refine bsel_intro (fun q4 => ?_) (fun q4 => ?_) <;> try simp only [bsL] at q4
      · conv => whnf
        exact hno _ fun n hn e => by have := hbd n hn e; omega
      conv => whnf
      refine ch_intro (b) (by omega) (hb') ?_; conv => whnf
      refine bsel_intro (fun q5 => ?_) (fun q5 => ?_) <;> try simp only [bsL] at q5
      · conv => whnf
        exact hno _ fun n hn e => by have := hbd n hn e; omega
      conv => whnf
      (first | refine ov_c (by simp only [loK, hiK]; omega) ?_ | refine ov_c (by decide) ?_); conv => whnf
      refine ch_intro (b) (by omega) (hb') ?_; conv => whnf
      (first | refine ov_c (by simp only [loK, hiK]; omega) ?_ | refine ov_c (by decide) ?_); conv => whnf
      (first | refine ov_c (by simp only [loK, hiK]; omega) ?_ | refine ov_c (by decide) ?_); conv => whnf
      (first | refine ov_c (by simp only [loK, hiK]; omega) ?_ | refine ov_c (by decide) ?_); conv => whnf
      (first | refine ov_c (by simp only [loK, hiK]; omega) ?_ | refine ov_c (by decide) ?_); conv => whnf
      refine ⟨t.length - (i + 1), by omega, rfl, i + 1, by omega, rfl, ?_, ?_⟩
      · show [MV.v (.int .i64 ((i : Int) + 1)), MV.v (.int .u64 (10 * (D : Int) + ((b.toNat : Int) - 48)))] = _
        rw [show 10 * (D : Int) + ((b.toNat : Int) - 48) = ((dv (t.take (i + 1)) : Nat) : Int) by omega]
        rfl
      · intro x hx
        rw [htk] at hx
        rcases List.mem_append.1 hx with hx | hx
        · exact hdg x hx
        · simp only [List.mem_singleton] at hx; subst hx; omega
    have hin : i = t.length := by omega
    subst hin
    rw [List.take_length] at hdg ⊢
    have hdv := dv_lt 19 t (by omega) hdg
    have hnn : ∀ n : Nat, n < 9223372036854775808 → _ = Lib.decDigits n → dv t = n := fun n hn e => (hnum n hn e).2.2.2.1
    generalize dv t = D at *
    conv => whnf
    refine bsel_intro (fun q6 => ?_) (fun q6 => ?_) <;> try simp only [bsL] at q6
    · conv => whnf
      exact hno _ fun n hn e => by have := hnn n hn e; omega
    conv => whnf
    refine ov_by (y := if D = 9223372036854775808 then -9223372036854775808 else (D : Int)) (by rw [wrapI64]; split <;> omega) ?_
    conv => whnf
    refine ov_by (y := if D = 0 then 0 else 18446744073709551616 - (D : Int)) (by rw [wrap_u64]; split <;> omega) ?_
    conv => whnf
    refine ov_by (y := -(D : Int)) (by rw [wrapI64]; split <;> omega) ?_
    conv => whnf
    refine rDigits_x (-(D : Int)) (by omega) (by omega) ?_
    have hno2 : ∀ k : Int, K (.tuple #[.int .i64 k, .bool false]) h := fun k => hno k fun n hn e => by have := (hnum n hn e).1; cases this
    conv => whnf
    refine seq_intro ?_
    conv => whnf
    refine bsel_intro (fun q9 => ?_) (fun q9 => ?_) <;> try simp only [bsL] at q9
    · conv => whnf
      exact hno2 _
    · conv => whnf
      exact hk _ true ⟨fun _ => ⟨q9, by omega, by omega⟩, fun n hn e => by have := (hnum n hn e).1; cases this⟩
  · obtain ⟨t, hts⟩ : ∃ t, t = s := ⟨s, rfl⟩
    subst hts
    have hnum := numF_x t t false (fun e => by cases e) (fun _ => ⟨rfl, fun c r e e2 => hc ⟨r, by rw [e, e2]⟩⟩)
    refine bsel_intro (fun q0 => ?_) (fun q0 => ?_) <;> try simp only [bsL] at q0
    · obtain ⟨b0, hb0⟩ : ∃ b, t[0]? = some b := ⟨_, List.getElem?_eq_getElem (by omega)⟩
      have hb45 : b0.toNat ≠ 45 := fun e => hc ⟨t.drop 1, by
        have e2 : b0 = 45 := UInt8.toNat_inj.1 e
        cases t with
        | nil => simp at hb0
        | cons x y => simp at hb0; rw [hb0, e2]; rfl⟩
      conv => whnf
      refine ch_intro (b0) (by omega) (hb0) ?_; conv => whnf
      refine bsel_false (by simp; omega) ?_; conv => whnf
      conv => whnf
      refine bsel_intro (fun q1 => ?_) (fun q1 => ?_) <;> try simp only [bsL] at q1
      · conv => whnf
        exact hno _ fun n hn e => (hnum n hn e).2.2.2.2.1 (List.eq_nil_of_length_eq_zero (by omega))
      conv => whnf
      refine bsel_intro (fun q2 => ?_) (fun q2 => ?_) <;> try simp only [bsL] at q2
      · conv => whnf
        exact hno _ fun n hn e => by have := (hnum n hn e).2.2.2.2.2; omega
      conv => whnf
      refine loop_at [7, 6] [] (fun r vs _ h' => h = h' ∧ ∃ i : Nat, i ≤ t.length ∧ r = t.length - i ∧ vs = [.v (.int .i64 i), .v (.int .u64 (dv (t.take i) : Nat))] ∧ digs (t.take i)) t.length ⟨rfl, 0, by omega, by omega, rfl, by simp [digs]⟩ ?_
      rintro r vs cs mm bx _ ⟨rfl, i, hi, rfl, rfl, hdg⟩
      conv => whnf
      refine bsel_intro (fun q3 => ?_) (fun q3 => ?_) <;> try simp only [bsL] at q3
      · have hiT : i < t.length := by omega
        obtain ⟨b, hb⟩ : ∃ b, t[i]? = some b := ⟨_, List.getElem?_eq_getElem hiT⟩
        have hb' : t[((i : Nat) : Int).toNat]? = some b := by rw [Int.toNat_natCast]; exact hb
        have hdv := dv_lt 18 (t.take i) (by rw [List.length_take]; omega) hdg
        have hb8 := b.toNat_lt
        have htk : t.take (i + 1) = t.take i ++ [b] := by rw [List.take_add_one, hb]; rfl
        have hdv2 := dv_snoc (t.take i) b
        rw [← htk] at hdv2
        have hbd : ∀ n : Nat, n < 9223372036854775808 → _ = Lib.decDigits n → 48 ≤ b.toNat ∧ b.toNat ≤ 57 := fun n hn e => (hnum n hn e).2.2.1 b (List.mem_of_getElem? hb)
        generalize dv (t.take i) = D at *
        conv => whnf
        refine ch_intro (b) (by omega) (hb') ?_; conv => whnf
        refine bsel_intro (fun q4 => ?_) (fun q4 => ?_) <;> try simp only [bsL] at q4
        · conv => whnf
          exact hno _ fun n hn e => by have := hbd n hn e; omega
        conv => whnf
        refine ch_intro (b) (by omega) (hb') ?_; conv => whnf
        refine bsel_intro (fun q5 => ?_) (fun q5 => ?_) <;> try simp only [bsL] at q5
        · conv => whnf
          exact hno _ fun n hn e => by have := hbd n hn e; omega
        conv => whnf
        (first | refine ov_c (by simp only [loK, hiK]; omega) ?_ | refine ov_c (by decide) ?_); conv => whnf
        refine ch_intro (b) (by omega) (hb') ?_; conv => whnf
        (first | refine ov_c (by simp only [loK, hiK]; omega) ?_ | refine ov_c (by decide) ?_); conv => whnf
        (first | refine ov_c (by simp only [loK, hiK]; omega) ?_ | refine ov_c (by decide) ?_); conv => whnf
        (first | refine ov_c (by simp only [loK, hiK]; omega) ?_ | refine ov_c (by decide) ?_); conv => whnf
        (first | refine ov_c (by simp only [loK, hiK]; omega) ?_ | refine ov_c (by decide) ?_); conv => whnf
        refine ⟨t.length - (i + 1), by omega, rfl, i + 1, by omega, rfl, ?_, ?_⟩
        · show [MV.v (.int .i64 ((i : Int) + 1)), MV.v (.int .u64 (10 * (D : Int) + ((b.toNat : Int) - 48)))] = _
          rw [show 10 * (D : Int) + ((b.toNat : Int) - 48) = ((dv (t.take (i + 1)) : Nat) : Int) by omega]
          rfl
        · intro x hx
          rw [htk] at hx
          rcases List.mem_append.1 hx with hx | hx
          · exact hdg x hx
          · simp only [List.mem_singleton] at hx; subst hx; omega
      have hin : i = t.length := by omega
      subst hin
      rw [List.take_length] at hdg ⊢
      have hdv := dv_lt 19 t (by omega) hdg
      have hnn : ∀ n : Nat, n < 9223372036854775808 → _ = Lib.decDigits n → dv t = n := fun n hn e => (hnum n hn e).2.2.2.1
      generalize dv t = D at *
      conv => whnf
      refine bsel_intro (fun q6 => ?_) (fun q6 => ?_) <;> try simp only [bsL] at q6
      · conv => whnf
        exact hno _ fun n hn e => by have := hnn n hn e; omega
      conv => whnf
      refine bsel_intro (fun q7 => ?_) (fun q7 => ?_) <;> try simp only [bsL] at q7
      · conv => whnf
        exact hno _ fun n hn e => by have := hnn n hn e; omega
      conv => whnf
      (first | refine ov_c (by simp only [loK, hiK]; omega) ?_ | refine ov_c (by decide) ?_); conv => whnf
      refine rDigits_x (D : Int) (by omega) (by omega) ?_
      conv => whnf
      refine seq_intro ?_
      conv => whnf
      refine bsel_intro (fun q9 => ?_) (fun q9 => ?_) <;> try simp only [bsL] at q9
      · conv => whnf
        exact hno _ fun n hn e => by
          have h1 := hnn n hn e
          rw [h1, Lib.itoa_nonneg] at q9
          exact q9 e.symm
      · conv => whnf
        exact hk _ true ⟨fun _ => ⟨q9, by omega, by omega⟩, fun n hn e => ⟨rfl, by rw [hnn n hn e]⟩⟩
    · have ht0 : t = [] := List.eq_nil_of_length_eq_zero (by omega)
      conv => whnf
      conv => whnf
      refine bsel_intro (fun q1 => ?_) (fun q1 => ?_) <;> try simp only [bsL] at q1
      · conv => whnf
        exact hno _ fun n hn e => (hnum n hn e).2.2.2.2.1 (List.eq_nil_of_length_eq_zero (by omega))
      conv => whnf
      refine bsel_intro (fun q2 => ?_) (fun q2 => ?_) <;> try simp only [bsL] at q2
      · conv => whnf
        exact hno _ fun n hn e => by have := (hnum n hn e).2.2.2.2.2; omega
      conv => whnf
      refine loop_at [7, 6] [] (fun r vs _ h' => h = h' ∧ ∃ i : Nat, i ≤ t.length ∧ r = t.length - i ∧ vs = [.v (.int .i64 i), .v (.int .u64 (dv (t.take i) : Nat))] ∧ digs (t.take i)) t.length ⟨rfl, 0, by omega, by omega, rfl, by simp [digs]⟩ ?_
      rintro r vs cs mm bx _ ⟨rfl, i, hi, rfl, rfl, hdg⟩
      conv => whnf
      refine bsel_intro (fun q3 => ?_) (fun q3 => ?_) <;> try simp only [bsL] at q3
      · have hiT : i < t.length := by omega
        obtain ⟨b, hb⟩ : ∃ b, t[i]? = some b := ⟨_, List.getElem?_eq_getElem hiT⟩
        have hb' : t[((i : Nat) : Int).toNat]? = some b := by rw [Int.toNat_natCast]; exact hb
        have hdv := dv_lt 18 (t.take i) (by rw [List.length_take]; omega) hdg
        have hb8 := b.toNat_lt
        have htk : t.take (i + 1) = t.take i ++ [b] := by rw [List.take_add_one, hb]; rfl
        have hdv2 := dv_snoc (t.take i) b
        rw [← htk] at hdv2
        have hbd : ∀ n : Nat, n < 9223372036854775808 → _ = Lib.decDigits n → 48 ≤ b.toNat ∧ b.toNat ≤ 57 := fun n hn e => (hnum n hn e).2.2.1 b (List.mem_of_getElem? hb)
        generalize dv (t.take i) = D at *
        conv => whnf
        refine ch_intro (b) (by omega) (hb') ?_; conv => whnf
        refine bsel_intro (fun q4 => ?_) (fun q4 => ?_) <;> try simp only [bsL] at q4
        · conv => whnf
          exact hno _ fun n hn e => by have := hbd n hn e; omega
        conv => whnf
        refine ch_intro (b) (by omega) (hb') ?_; conv => whnf
        refine bsel_intro (fun q5 => ?_) (fun q5 => ?_) <;> try simp only [bsL] at q5
        · conv => whnf
          exact hno _ fun n hn e => by have := hbd n hn e; omega
        conv => whnf
        (first | refine ov_c (by simp only [loK, hiK]; omega) ?_ | refine ov_c (by decide) ?_); conv => whnf
        refine ch_intro (b) (by omega) (hb') ?_; conv => whnf
        (first | refine ov_c (by simp only [loK, hiK]; omega) ?_ | refine ov_c (by decide) ?_); conv => whnf
        (first | refine ov_c (by simp only [loK, hiK]; omega) ?_ | refine ov_c (by decide) ?_); conv => whnf
        (first | refine ov_c (by simp only [loK, hiK]; omega) ?_ | refine ov_c (by decide) ?_); conv => whnf
        (first | refine ov_c (by simp only [loK, hiK]; omega) ?_ | refine ov_c (by decide) ?_); conv => whnf
        refine ⟨t.length - (i + 1), by omega, rfl, i + 1, by omega, rfl, ?_, ?_⟩
        · show [MV.v (.int .i64 ((i : Int) + 1)), MV.v (.int .u64 (10 * (D : Int) + ((b.toNat : Int) - 48)))] = _
          rw [show 10 * (D : Int) + ((b.toNat : Int) - 48) = ((dv (t.take (i + 1)) : Nat) : Int) by omega]
          rfl
        · intro x hx
          rw [htk] at hx
          rcases List.mem_append.1 hx with hx | hx
          · exact hdg x hx
          · simp only [List.mem_singleton] at hx; subst hx; omega
      have hin : i = t.length := by omega
      subst hin
      rw [List.take_length] at hdg ⊢
      have hdv := dv_lt 19 t (by omega) hdg
      have hnn : ∀ n : Nat, n < 9223372036854775808 → _ = Lib.decDigits n → dv t = n := fun n hn e => (hnum n hn e).2.2.2.1
      generalize dv t = D at *
      conv => whnf
      refine bsel_intro (fun q6 => ?_) (fun q6 => ?_) <;> try simp only [bsL] at q6
      · conv => whnf
        exact hno _ fun n hn e => by have := hnn n hn e; omega
      conv => whnf
      refine bsel_intro (fun q7 => ?_) (fun q7 => ?_) <;> try simp only [bsL] at q7
      · conv => whnf
        exact hno _ fun n hn e => by have := hnn n hn e; omega
      conv => whnf
      (first | refine ov_c (by simp only [loK, hiK]; omega) ?_ | refine ov_c (by decide) ?_); conv => whnf
      refine rDigits_x (D : Int) (by omega) (by omega) ?_
      conv => whnf
      refine seq_intro ?_
      conv => whnf
      refine bsel_intro (fun q9 => ?_) (fun q9 => ?_) <;> try simp only [bsL] at q9
      · conv => whnf
        exact hno _ fun n hn e => by
          have h1 := hnn n hn e
          rw [h1, Lib.itoa_nonneg] at q9
          exact q9 e.symm
      · conv => whnf
        exact hk _ true ⟨fun _ => ⟨q9, by omega, by omega⟩, fun n hn e => ⟨rfl, by rw [hnn n hn e]⟩⟩
end
end Go.Proofs.YtciagjfemgfhgaaGreatDoor
