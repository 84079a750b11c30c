/-
  Texts' lines and their words: plain laws.
-/
import Derived.Test.YtlobclgbbhoeiaaGreatDoorInsY
import Derived.Test.YtlobclgbbhoeiaaGreatDoorAsZd
import Derived.Test.YtlobclgbbhoeiaaGreatDoorLibQ
import Derived.Test.YtlobclgbbhoeiaaGreatDoorLibU
import Derived.Test.YtlobclgbbhoeiaaGreatDoorLibV
/-! Texts' lines and their words: plain laws. -/
namespace Go.Proofs.YtlobclgbbhoeiaaGreatDoor
set_option linter.unusedSimpArgs false
set_option linter.unusedVariables false
open Go Go.Mid Go.RowKit Go.Bits
/-- A text up to its first newline. -/
def lineA (t : Str) : Str := t.takeWhile (· != 10)
theorem lineA_no (t : Str) : (10 : UInt8) ∉ lineA t := by
  intro h
  have := List.all_takeWhile (p := (· != (10 : UInt8))) (l := t)
  rw [List.all_eq_true] at this
  have := this 10 h
  simp at this
theorem lineA_self {t : Str} (h : (10 : UInt8) ∉ t) : lineA t = t := by
  induction t with
  | nil => rfl
  | cons c r ih =>
    have h1 : c ≠ 10 := fun e => h (by rw [e]; simp)
    unfold lineA
    rw [List.takeWhile_cons, if_pos (by simpa using h1)]
    congr 1
    exact ih fun hm => h (by simp [hm])
theorem lineA_split {t : Str} (h : (10 : UInt8) ∈ t) : t = lineA t ++ 10 :: t.drop ((lineA t).length + 1) := by
  induction t with
  | nil => cases h
  | cons c r ih =>
    by_cases hc : c = 10
    · subst hc
      have : lineA ((10 : UInt8) :: r) = [] := by unfold lineA; rw [List.takeWhile_cons, if_neg (by simp)]
      rw [this]; rfl
    · have hr : (10 : UInt8) ∈ r := by
        rcases List.mem_cons.1 h with h | h
        · exact absurd h.symm hc
        · exact h
      have e : lineA (c :: r) = c :: lineA r := by unfold lineA; rw [List.takeWhile_cons, if_pos (by simpa using hc)]
      rw [e]
      show c :: r = c :: (lineA r ++ 10 :: r.drop ((lineA r).length + 1))
      rw [← ih hr]
theorem cutA_yes {t : Str} (h : (10 : UInt8) ∈ t) : Lib.cut t [10] = (lineA t, t.drop ((lineA t).length + 1), true) := by
  have e : Lib.index t [10] = ((lineA t).length : Nat) := by
    conv => lhs; rw [lineA_split h]
    exact idx_byte (lineA_no t)
  unfold Lib.cut
  rw [if_pos (by rw [e]; omega), e, Int.toNat_natCast]
  congr 1
  have e2 := congrArg (List.take (lineA t).length) (lineA_split h)
  rw [List.take_left] at e2
  exact e2
theorem cutA_no {t : Str} (h : (10 : UInt8) ∉ t) : Lib.cut t [10] = (t, [], false) := by
  unfold Lib.cut
  rw [if_neg (by rw [idx_no h]; decide)]
/-- A text's lines. -/
def linesA (t : Str) : List Str := if (sp [10] t).getLast? = some [] then (sp [10] t).dropLast else sp [10] t
theorem linesA_nil : linesA [] = [] := by
  unfold linesA
  rw [sp_end (by simp)]
  rfl
theorem linesA_one {w : Str} (h : (10 : UInt8) ∉ w) (h0 : w ≠ []) : linesA w = [w] := by
  unfold linesA
  rw [sp_end h, if_neg (by simpa using h0)]
theorem linesA_cons {w r : Str} (h : (10 : UInt8) ∉ w) : linesA (w ++ 10 :: r) = w :: linesA r := by
  unfold linesA
  rw [sp_one h]
  have hne := sp_ne [10] r
  have e : (w :: sp [10] r).getLast? = (sp [10] r).getLast? := by
    cases hs : sp [10] r with
    | nil => exact absurd hs hne
    | cons a l => rw [List.getLast?_cons_cons]
  rw [e]
  split
  · cases hs : sp [10] r with
    | nil => exact absurd hs hne
    | cons a l => rw [List.dropLast_cons_cons]
  · rfl
/-- A text that isn't empty: its first line, and what is left. -/
theorem linesA_step {t : Str} (h : t ≠ []) : linesA t = (Lib.cut t [10]).1 :: linesA (Lib.cut t [10]).2.1 ∧ (Lib.cut t [10]).2.1.length < t.length ∧ (Lib.cut t [10]).1.length ≤ t.length := by
  by_cases hn : (10 : UInt8) ∈ t
  · rw [cutA_yes hn]
    have e := lineA_split hn
    refine ⟨?_, ?_, ?_⟩
    · conv => lhs; rw [e]
      exact linesA_cons (lineA_no t)
    · have := congrArg List.length e
      simp only [List.length_append, List.length_cons] at this
      show (t.drop ((lineA t).length + 1)).length < t.length
      omega
    · have := congrArg List.length e
      simp only [List.length_append, List.length_cons] at this
      show (lineA t).length ≤ t.length
      omega
  · rw [cutA_no hn]
    refine ⟨?_, ?_, Nat.le_refl _⟩
    · show linesA t = t :: linesA []
      rw [linesA_nil]; exact linesA_one hn h
    · exact List.length_pos_iff.2 h
/-- A line that tells nothing. -/
def emptyL (l : Str) : Prop := l = [] ∨ l[0]? = some 35
instance (l : Str) : Decidable (emptyL l) := by unfold emptyL; infer_instance
/-- The words of lines; or the number of the first one that can't be, and why. -/
def wordsP : List Str → Nat → List Nat → List Nat × Nat × Int
  | [], _, out => (out, 0, 0)
  | l :: ls, n, out => if emptyL l then wordsP ls (n + 1) out else match parseA l with
    | .error e => ([], n, e)
    | .ok x => wordsP ls (n + 1) (out ++ [encW x])
theorem parse_chk {s : Str} {x : Ins} (h : parseA s = .ok x) : x.chk = 0 := by
  unfold parseA at h
  split at h
  · cases h
  split at h
  · cases h
  split at h
  · cases h
  split at h
  · cases h
  · unfold lineP at h
    split at h
    · cases h
    · split at h
      · cases h
      · split at h
        · cases h
        · rename_i y _
          split at h
          · rename_i hc
            obtain rfl : y = x := by injection h
            exact hc
          · cases h
theorem chk_rng {x : Ins} (h : x.chk = 0) : -9223372036854775808 ≤ x.m ∧ x.m ≤ 9223372036854775807 := by
  obtain ⟨_, _, _, _, _, _, _, hfit, hbad⟩ := chk_ok h
  have hf15 := fmtN_lt x.op
  have rng : ∀ f : Nat, f < 15 → (2 ≤ f ∧ f ≤ 8) ∨ (fieldsL.getD f []).getD 3 false = false := by decide
  rcases rng _ hf15 with hr | hr
  · rw [fits_eq] at hfit
    exact fits_rng hr hfit
  · have := (bad_fld hbad (flds_len _ hf15)).2.2.2.1 hr
    rw [this]; decide
theorem field_err {x : Ins} {c : UInt8} {w : Str} {e : Int} (h : fieldP x c w = .error e) : e ≠ 0 := by
  unfold fieldP at h
  repeat' split at h
  all_goals first | (cases h; done) | (cases h; decide)
theorem fields_err : ∀ (fs : Str) (r : List Str) (x : Ins) {e : Int}, fieldsP x fs r = .error e → e ≠ 0
  | [], r, x, e, h => by cases r <;> cases h
  | c :: fs, [], x, e, h => by cases h
  | c :: fs, w :: r, x, e, h => by
    rw [fieldsP_cons] at h
    split at h
    · exact fields_err fs r _ h
    · rename_i e' he
      obtain rfl : e' = e := by injection h
      exact field_err he
theorem parse_err {s : Str} {e : Int} (h : parseA s = .error e) : e ≠ 0 := by
  unfold parseA at h
  split at h
  · cases h; decide
  split at h
  · cases h; decide
  split at h
  · cases h; decide
  split at h
  · cases h; decide
  · unfold lineP at h
    split at h
    · cases h; decide
    · split at h
      · cases h; decide
      · split at h
        · rename_i e' he
          obtain rfl : e' = e := by injection h
          exact fields_err _ _ _ he
        · split at h
          · cases h
          · rename_i hc
            cases h; exact hc
theorem words_lt : ∀ (ls : List Str) (n : Nat) (out : List Nat), (∀ w ∈ out, w < 2 ^ 32) → ∀ w ∈ (wordsP ls n out).1, w < 2 ^ 32
  | [], n, out, h, w, hw => h w hw
  | l :: ls, n, out, h, w, hw => by
    have hw : w ∈ (if emptyL l then wordsP ls (n + 1) out else match parseA l with
      | .error e => ([], n, e)
      | .ok x => wordsP ls (n + 1) (out ++ [encW x])).1 := hw
    split at hw
    · exact words_lt ls _ _ h w hw
    · split at hw
      · cases hw
      · rename_i x hx
        refine words_lt ls _ _ (fun v hv => ?_) w hw
        rcases List.mem_append.1 hv with hv | hv
        · exact h v hv
        · rw [List.mem_singleton.1 hv]; exact enc_lt (parse_chk hx)
end Go.Proofs.YtlobclgbbhoeiaaGreatDoor
/-! Texts' words: the program's. -/
namespace Go.Proofs.YtlobclgbbhoeiaaGreatDoor
set_option linter.unusedSimpArgs false
set_option linter.unusedVariables false
open Go Go.Mid Go.RowKit Go.Bits
attribute [local irreducible] mid
section
set_option maxHeartbeats 8000000
set_option maxRecDepth 10000
variable {h : Hp} {K : Value → Hp → Prop}
theorem agg32 : isAggT Tryz.prog 42 = some false := by kernel_rfl
theorem inf32 : Tryz.prog.info? 42 = some Tryz.prog.types[42] := by kernel_rfl
theorem emptyL_head {l : Str} {c : UInt8} (h0 : l[0]? = some c) : emptyL l ↔ c = 35 := by
  unfold emptyL
  rw [h0]
  constructor
  · rintro (h | h)
    · rw [h] at h0; cases h0
    · exact Option.some.inj h
  · intro h; exact .inr (by rw [h])
/-- What a text's words tell: a slice of one's own, the line's number, why. -/
def WordsV (k h : Hp) (v : Value) (t : List Nat × Nat × Int) : Prop := ∃ sl, v = .tuple #[sl, .int .i64 t.2.1, .int .i64 t.2.2] ∧ Owns k h 42 1 sl t.1.length (t.1.map wx)
theorem words_x (hm : Mx h) (her : Er h) (hp : Pow h) (text : Str) (hl : text.length ≤ 2 ^ 20) (hk : ∀ v h', WordsV h h' v (wordsP (linesA text) 1 []) → K v h') : X Tryz.prog 14 #[.string (bs text)] h K := by
  refine fnv (args := _) mixed [(10, 10)] [] [] Tryz.func14 rfl (by kernel_rfl) ?_; conv => whnf
  refine loop_at [0, 6, 5] [] (fun r vs _ h' => ∃ (t : Str) (n : Nat) (out : List Nat) (sl : Value), r = t.length ∧ t.length ≤ text.length ∧ vs = [.v (.string (bs t)), .v (.int .i64 n), .v sl] ∧ n + t.length ≤ text.length + 1 ∧ out.length + t.length ≤ text.length ∧ Owns h h' 42 1 sl out.length (out.map wx) ∧ wordsP (linesA t) n out = wordsP (linesA text) 1 []) text.length
    ⟨text, 1, [], .slice none 0 0, rfl, Nat.le_refl _, rfl, by omega, by simp, Owns.nil (Hp.le_refl _), rfl⟩ ?_
  rintro r vs cs mm bx h1 ⟨t, n, out, sl, rfl, htl, rfl, hn, hol, hO, hR⟩
  obtain ⟨sa, sc, rfl⟩ := hO.shape
  have hle := hO.le
  by_cases ht : t = []
  · rw [ht, linesA_nil] at hR
    have hR : (out, 0, 0) = wordsP (linesA text) 1 [] := hR
    rw [← hR] at hk
    conv => whnf
    refine seq_true (ht) ?_; conv => whnf
    exact hk _ h1 ⟨_, rfl, hO⟩
  · obtain ⟨s1, s2, s3⟩ := linesA_step ht
    rw [s1] at hR
    have hR : (if emptyL (Lib.cut t [10]).1 then wordsP (linesA (Lib.cut t [10]).2.1) (n + 1) out else match parseA (Lib.cut t [10]).1 with
      | .error e => ([], n, e)
      | .ok x => wordsP (linesA (Lib.cut t [10]).2.1) (n + 1) (out ++ [encW x])) = wordsP (linesA text) 1 [] := hR
    conv => whnf
    refine seq_false (ht) ?_; conv => whnf
    refine cut_x (hm.le hle) t [10] (by omega) ?_
    generalize (Lib.cut t [10]).1 = l at hR s3 ⊢
    generalize (Lib.cut t [10]).2.1 = u at hR s2 ⊢
    generalize (Lib.cut t [10]).2.2 = z
    conv => whnf
    by_cases hl0 : l = []
    · rw [if_pos (.inl hl0)] at hR
      refine seq_true (hl0) ?_; conv => whnf
      (first | refine ov_c (by simp only [loK, hiK]; omega) ?_ | refine ov_c (by decide) ?_); conv => whnf
      refine ⟨u.length, by omega, u, n + 1, out, _, rfl, by omega, rfl, by omega, by omega, hO, hR⟩
    · obtain ⟨c, hc⟩ : ∃ c, l[0]? = some c := ⟨_, List.getElem?_eq_getElem (List.length_pos_iff.2 hl0)⟩
      refine seq_false (hl0) ?_; conv => whnf
      refine ch_intro (c) (by omega) (hc) ?_; conv => whnf
      by_cases hc35 : c = 35
      · rw [if_pos ((emptyL_head hc).2 hc35)] at hR
        refine bsel_true (by rw [hc35]; rfl) ?_; conv => whnf
        (first | refine ov_c (by simp only [loK, hiK]; omega) ?_ | refine ov_c (by decide) ?_); conv => whnf
        refine ⟨u.length, by omega, u, n + 1, out, _, rfl, by omega, rfl, by omega, by omega, hO, hR⟩
      · rw [if_neg (fun h => hc35 ((emptyL_head hc).1 h))] at hR
        refine bsel_false (by simpa using fun e => hc35 (UInt8.toNat_inj.1 (by have : (35 : UInt8).toNat = 35 := rfl; omega))) ?_; conv => whnf
        refine XE.noE (parse_x (hm.le hle) (her.le hle) (hp.le hle) l (by omega) fun h2 le2 => ?_)
        have hO2 := hO.up le2
        cases hpa : parseA l with
        | error e =>
          rw [hpa] at hR
          have hR : (([] : List Nat), n, e) = wordsP (linesA text) 1 [] := hR
          rw [← hR] at hk
          have hne := parse_err hpa
          conv => whnf
          refine bsel_true (by simpa [errOf] using hne) ?_; conv => whnf
          exact hk _ h2 ⟨_, rfl, Owns.nil hO2.le⟩
        | ok x =>
          rw [hpa] at hR
          have hR : wordsP (linesA u) (n + 1) (out ++ [encW x]) = wordsP (linesA text) 1 [] := hR
          have hck := parse_chk hpa
          obtain ⟨m1, m2⟩ := chk_rng hck
          rw [show parsedV (.ok x) = .tuple #[.agg x.cs.toArray, .int .i64 0] from rfl]
          conv => whnf
          refine encode_x x m1 m2 ?_
          rw [if_pos hck, hck]
          conv => whnf
          refine new_intro (o := rowO 42 [wx (encW x)]) (fun y h3 n_y le_y at_y ot_y => ?_); conv => whnf
          refine Owns.app1 (z := .int .u32 0) (by kernel_rfl) inf32 (by kernel_rfl) (by kernel_rfl) (by kernel_rfl) rfl (bytes := 4) (by decide) rfl rfl rfl (hO2.up le_y) at_y rfl rfl (by omega) fun s3 h4 hO3 => ?_
          conv => whnf
          (first | refine ov_c (by simp only [loK, hiK]; omega) ?_ | refine ov_c (by decide) ?_); conv => whnf
          refine ⟨u.length, by omega, u, n + 1, out ++ [encW x], s3, rfl, by omega, rfl, by omega, by simp; omega, ?_, hR⟩
          rw [List.length_append, List.map_append]
          exact hO3
end
end Go.Proofs.YtlobclgbbhoeiaaGreatDoor
/-! Texts' words: the document's. -/
namespace Go.Proofs.YtlobclgbbhoeiaaGreatDoor
set_option linter.unusedSimpArgs false
set_option linter.unusedVariables false
open Go Go.Mid Go.RowKit Go.Bits
attribute [local irreducible] mid
section
set_option maxHeartbeats 8000000
set_option maxRecDepth 10000
variable {h : Hp} {K : Value → Hp → Prop}
theorem rlines_x (t : Str) (hl : t.length ≤ 2 ^ 20) (hk : ∀ sl h', Owns h h' 9 1 sl (linesA t).length ((linesA t).map sv) → K sl h') : X Tryz.prog 50 #[.string (bs t)] h K := by
  have hsz : (bs t).size = t.length := bs_size t
  refine fnv (args := _) mixed [] [] [] Tryz.func50 rfl (by kernel_rfl) ?_; conv => whnf
  refine loop_at [5, 3, 4] [] (fun r vs _ h' => ∃ (i f : Nat) (sl : Value) (acc : List Str), i ≤ t.length ∧ f ≤ i ∧ r = t.length - i ∧ vs = [.v (.int .i64 i), .v sl, .v (.int .i64 f)] ∧ Owns h h' 9 1 sl acc.length (acc.map sv) ∧ acc.length ≤ i ∧ (10 : UInt8) ∉ (t.take i).drop f ∧ acc ++ linesA (t.drop f) = linesA t) t.length
    ⟨0, 0, .slice none 0 0, [], by omega, by omega, by omega, rfl, Owns.nil (Hp.le_refl _), by simp, by simp, by simp⟩ ?_
  rintro r vs cs mm bx h1 ⟨i, f, sl, acc, hi, hf, rfl, rfl, hO, ha, hno, hR⟩
  obtain ⟨sa, sc, rfl⟩ := hO.shape
  conv => whnf
  refine bsel_intro (fun q1 => ?_) (fun q1 => ?_) <;> try simp only [bsL] at q1
  · have hi2 : i < t.length := by omega
    obtain ⟨c, hc⟩ : ∃ c, t[i]? = some c := ⟨_, List.getElem?_eq_getElem hi2⟩
    have hd : t.drop f = (t.take i).drop f ++ c :: t.drop (i + 1) := by
      obtain ⟨hp2, rfl⟩ := List.getElem?_eq_some_iff.1 hc
      rw [← List.drop_eq_getElem_cons hp2, ← List.drop_append_of_le_length (by rw [List.length_take]; omega), List.take_append_drop]
    conv => whnf
    refine ch_intro (c) (by omega) (by rw [Int.toNat_natCast]; exact hc) ?_; conv => whnf
    by_cases hc10 : c = 10
    · rw [hd, hc10, linesA_cons hno] at hR
      refine bsel_true (by rw [hc10]; rfl) ?_; conv => whnf
      (first | refine need_intro (⟨by omega, by omega⟩) ?_ | refine must.mk (⟨by omega, by omega⟩) ?_); conv => whnf
      (first | refine need_intro (⟨by omega, by omega⟩) ?_ | refine must.mk (⟨by omega, by omega⟩) ?_); conv => whnf
      refine sub_by (m := (t.take i).drop f) (by rw [Int.toNat_natCast, Int.toNat_natCast]) ?_
      conv => whnf
      refine new_intro (o := rowO 9 [sv ((t.take i).drop f)]) (fun y h2 n_y le_y at_y ot_y => ?_); conv => whnf
      refine Owns.app1 (z := .string ⟨#[]⟩) (by kernel_rfl) infS (by kernel_rfl) (by kernel_rfl) (by kernel_rfl) rfl (bytes := 16) (by decide) rfl rfl rfl (hO.up le_y) at_y rfl rfl (by omega) fun s3 h3 hO3 => ?_
      conv => whnf
      (first | refine ov_c (by simp only [loK, hiK]; omega) ?_ | refine ov_c (by decide) ?_); conv => whnf
      (first | refine ov_c (by simp only [loK, hiK]; omega) ?_ | refine ov_c (by decide) ?_); conv => whnf
      refine ⟨t.length - (i + 1), by omega, i + 1, i + 1, s3, acc ++ [(t.take i).drop f], by omega, by omega, rfl, rfl, ?_, by simp; omega, ?_, by rw [← hR]; simp⟩
      · rw [List.length_append, List.map_append]; exact hO3
      · rw [List.drop_of_length_le (by rw [List.length_take]; omega)]; simp
    · refine bsel_false (by simpa using fun e => hc10 (UInt8.toNat_inj.1 (by have : (10 : UInt8).toNat = 10 := rfl; omega))) ?_; conv => whnf
      (first | refine ov_c (by simp only [loK, hiK]; omega) ?_ | refine ov_c (by decide) ?_); conv => whnf
      refine ⟨t.length - (i + 1), by omega, i + 1, f, _, acc, by omega, by omega, rfl, rfl, hO, by omega, ?_, hR⟩
      rw [List.take_add_one, hc, List.drop_append_of_le_length (by rw [List.length_take]; omega)]
      intro hm
      rcases List.mem_append.1 hm with hm | hm
      · exact hno hm
      · simp only [Option.toList_some, List.mem_singleton] at hm; exact hc10 hm.symm
  · have hin : i = t.length := by omega
    rw [hin, List.take_length] at hno
    conv => whnf
    refine bsel_intro (fun q2 => ?_) (fun q2 => ?_) <;> try simp only [bsL] at q2
    · have hf2 : f < t.length := by omega
      rw [linesA_one hno (fun e => by have := congrArg List.length e; rw [List.length_drop] at this; simp at this; omega)] at hR
      conv => whnf
      (first | refine need_intro (⟨by omega, by omega⟩) ?_ | refine must.mk (⟨by omega, by omega⟩) ?_); conv => whnf
      refine sub_from (m := t.drop f) (by rw [Int.toNat_natCast]) ?_
      conv => whnf
      refine new_intro (o := rowO 9 [sv (t.drop f)]) (fun y h2 n_y le_y at_y ot_y => ?_); conv => whnf
      refine Owns.app1 (z := .string ⟨#[]⟩) (by kernel_rfl) infS (by kernel_rfl) (by kernel_rfl) (by kernel_rfl) rfl (bytes := 16) (by decide) rfl rfl rfl (hO.up le_y) at_y rfl rfl (by omega) fun s3 h3 hO3 => ?_
      conv => whnf
      refine hk _ _ ?_
      rw [← hR, List.length_append, List.map_append]
      exact hO3
    · rw [List.drop_of_length_le (by omega), linesA_nil, List.append_nil] at hR
      conv => whnf
      refine hk _ _ ?_
      rw [← hR]
      exact hO
theorem linesA_len (t : Str) : (linesA t).length ≤ t.length + 1 := by
  unfold linesA
  have := sp_length [10] t (by decide)
  split
  · rw [List.length_dropLast]; omega
  · exact this
theorem linesA_word (t : Str) : ∀ w ∈ linesA t, w.length ≤ t.length := by
  intro w hw
  refine sp_word [10] (by decide) _ t (Nat.le_refl _) w ?_
  unfold linesA at hw
  split at hw
  · exact List.dropLast_subset _ hw
  · exact hw
/-- What the document's words tell. -/
def RWordsV (k h : Hp) (v : Value) (t : List Nat × Nat × Int) : Prop := ∃ sl, v = .tuple #[sl, .int .i64 t.2.1, .int .i64 t.2.2] ∧ Owns k h 41 1 sl t.1.length (t.1.map uv)
theorem rwords_x (text : Str) (hl : text.length ≤ 2 ^ 20) (hk : ∀ v h', RWordsV h h' v (wordsP (linesA text) 1 []) → K v h') : X Tryz.prog 15 #[.string (bs text)] h K := by
  refine fnv (args := _) mixed [(8, 8)] [] [] Tryz.func15 rfl (by kernel_rfl) ?_; conv => whnf
  refine rlines_x text hl fun ls h0 hL => ?_
  have hw := linesA_word text
  have hn := linesA_len text
  generalize linesA text = L at hk hL hw hn
  obtain ⟨la, lc, rfl⟩ := hL.shape
  have hle0 := hL.le
  conv => whnf
  refine loop_at [7, 6] [] (fun r vs _ h' => ∃ (i : Nat) (out : List Nat) (sl : Value), i ≤ L.length ∧ r = L.length - i ∧ vs = [.v (.int .i64 i), .v sl] ∧ out.length ≤ i ∧ Owns h0 h' 41 1 sl out.length (out.map uv) ∧ wordsP (L.drop i) (i + 1) out = wordsP L 1 []) L.length
    ⟨0, [], .slice none 0 0, by omega, by omega, rfl, by simp, Owns.nil (Hp.le_refl _), rfl⟩ ?_
  rintro r vs cs mm bx h1 ⟨i, out, sl, hi, rfl, rfl, hol, hO, hR⟩
  obtain ⟨sa, sc, rfl⟩ := hO.shape
  have hle := hO.le
  conv => whnf
  refine bsel_intro (fun q1 => ?_) (fun q1 => ?_) <;> try simp only [bsL] at q1
  · have hi2 : i < L.length := by omega
    obtain ⟨l, hx⟩ : ∃ l, L[i]? = some l := ⟨_, List.getElem?_eq_getElem hi2⟩
    obtain ⟨b, cap, rest, e0, hc, hb, _⟩ := (hL.up hle).row (by omega)
    obtain ⟨rfl, rfl⟩ : la = some ⟨b, 0, none⟩ ∧ lc = cap := by injection e0 with e1 e2 e3; exact ⟨e1, e3⟩
    have hcell : (L.map sv ++ rest)[i]? = some (sv l) := by
      rw [List.getElem?_append_left (by simpa using hi2), List.getElem?_map, hx]; rfl
    have hll := hw l (List.mem_of_getElem? hx)
    have hd : L.drop i = l :: L.drop (i + 1) := by
      rw [List.drop_eq_getElem_cons hi2]
      congr 1
      exact (List.getElem?_eq_some_iff.1 hx).2
    rw [hd] at hR
    have hR : (if emptyL l then wordsP (L.drop (i + 1)) (i + 1 + 1) out else match parseA l with
      | .error e => ([], i + 1, e)
      | .ok x => wordsP (L.drop (i + 1)) (i + 1 + 1) (out ++ [encW x])) = wordsP L 1 [] := hR
    conv => whnf
    (first | refine need_intro (⟨by omega, by omega⟩) ?_ | refine must.mk (⟨by omega, by omega⟩) ?_); conv => whnf
    refine ⟨_, loadI aggStr hb (j := i) rfl hcell, ?_⟩; conv => whnf
    by_cases hl0 : l = []
    · rw [if_pos (.inl hl0)] at hR
      refine seq_true (hl0) ?_; conv => whnf
      (first | refine ov_c (by simp only [loK, hiK]; omega) ?_ | refine ov_c (by decide) ?_); conv => whnf
      refine ⟨L.length - (i + 1), by omega, i + 1, out, _, by omega, rfl, rfl, by omega, hO, hR⟩
    · obtain ⟨c, hc0⟩ : ∃ c, l[0]? = some c := ⟨_, List.getElem?_eq_getElem (List.length_pos_iff.2 hl0)⟩
      refine seq_false (hl0) ?_; conv => whnf
      (first | refine need_intro (⟨by omega, by omega⟩) ?_ | refine must.mk (⟨by omega, by omega⟩) ?_); conv => whnf
      refine ⟨_, loadI aggStr hb (j := i) rfl hcell, ?_⟩; conv => whnf
      refine ch_intro (c) (by omega) (hc0) ?_; conv => whnf
      by_cases hc35 : c = 35
      · rw [if_pos ((emptyL_head hc0).2 hc35)] at hR
        refine bsel_true (by rw [hc35]; rfl) ?_; conv => whnf
        (first | refine ov_c (by simp only [loK, hiK]; omega) ?_ | refine ov_c (by decide) ?_); conv => whnf
        refine ⟨L.length - (i + 1), by omega, i + 1, out, _, by omega, rfl, rfl, by omega, hO, hR⟩
      · rw [if_neg (fun h => hc35 ((emptyL_head hc0).1 h))] at hR
        refine bsel_false (by simpa using fun e => hc35 (UInt8.toNat_inj.1 (by have : (35 : UInt8).toNat = 35 := rfl; omega))) ?_; conv => whnf
        (first | refine need_intro (⟨by omega, by omega⟩) ?_ | refine must.mk (⟨by omega, by omega⟩) ?_); conv => whnf
        refine ⟨_, loadI aggStr hb (j := i) rfl hcell, ?_⟩; conv => whnf
        refine rparse_x l (by omega) ?_
        cases hpa : parseA l with
        | error e =>
          rw [hpa] at hR
          have hR : (([] : List Nat), i + 1, e) = wordsP L 1 [] := hR
          rw [← hR] at hk
          have hne := parse_err hpa
          conv => whnf
          refine bsel_true (by simpa [errOf] using hne) ?_; conv => whnf
          (first | refine ov_c (by simp only [loK, hiK]; omega) ?_ | refine ov_c (by decide) ?_); conv => whnf
          exact hk _ h1 ⟨_, rfl, Owns.nil (Hp.le_trans hle0 hle)⟩
        | ok x =>
          rw [hpa] at hR
          have hR : wordsP (L.drop (i + 1)) (i + 1 + 1) (out ++ [encW x]) = wordsP L 1 [] := hR
          have hck := parse_chk hpa
          obtain ⟨m1, m2⟩ := chk_rng hck
          rw [show parsedV (.ok x) = .tuple #[.agg x.cs.toArray, .int .i64 0] from rfl]
          conv => whnf
          refine rencode_x x m1 m2 ?_
          rw [if_pos hck, hck, enc_eq hck]
          conv => whnf
          refine new_intro (o := rowO 41 [uv (encW x)]) (fun y h3 n_y le_y at_y ot_y => ?_); conv => whnf
          refine Owns.app1 (z := .int .u64 0) (by kernel_rfl) infU64 (by kernel_rfl) (by kernel_rfl) (by kernel_rfl) rfl (bytes := 8) (by decide) rfl rfl rfl (hO.up le_y) at_y rfl rfl (by omega) fun s3 h4 hO3 => ?_
          conv => whnf
          (first | refine ov_c (by simp only [loK, hiK]; omega) ?_ | refine ov_c (by decide) ?_); conv => whnf
          refine ⟨L.length - (i + 1), by omega, i + 1, out ++ [encW x], s3, by omega, rfl, rfl, by simp; omega, ?_, hR⟩
          rw [List.length_append, List.map_append]
          exact hO3
  · have hin : i = L.length := by omega
    rw [hin, List.drop_length] at hR
    have hR : (out, 0, 0) = wordsP L 1 [] := hR
    rw [← hR] at hk
    conv => whnf
    exact hk _ h1 ⟨_, rfl, hO.weak hle0⟩
end
end Go.Proofs.YtlobclgbbhoeiaaGreatDoor
/-! Words' listings: the program's and the document's. -/
namespace Go.Proofs.YtlobclgbbhoeiaaGreatDoor
set_option linter.unusedSimpArgs false
set_option linter.unusedVariables false
open Go Go.Mid Go.RowKit Go.Bits
attribute [local irreducible] mid
theorem words_count : ∀ (ls : List Str) (n : Nat) (out : List Nat), (wordsP ls n out).1.length ≤ out.length + ls.length
  | [], n, out => by show out.length ≤ _; simp
  | l :: ls, n, out => by
    show (if emptyL l then wordsP ls (n + 1) out else match parseA l with
      | .error e => ([], n, e)
      | .ok x => wordsP ls (n + 1) (out ++ [encW x])).1.length ≤ _
    split
    · have := words_count ls (n + 1) out
      simp only [List.length_cons]; omega
    · split
      · simp
      · rename_i x _
        have := words_count ls (n + 1) (out ++ [encW x])
        simp only [List.length_cons, List.length_append, List.length_nil] at this ⊢; omega
/-- A word's line. -/
def wordT (w : Nat) : Str := match opOf w with
  | some i => lineT (decI w i)
  | none => [119, 111, 114, 100, 32] ++ Lib.decDigits w
def listT (ws : List Nat) : Str := ws.flatMap fun w => wordT w ++ [10]
theorem listT_cons (w : Nat) (ws : List Nat) : listT (w :: ws) = wordT w ++ (10 :: listT ws) := by
  unfold listT; rw [List.flatMap_cons, List.append_assoc]; rfl
theorem fieldT_len {x : Ins} (h : x.chk = 0) (c : UInt8) : (fieldT x c).length ≤ 21 := by
  obtain ⟨_, _, _, ha, hb, hc, hs, _, _⟩ := chk_ok h
  obtain ⟨m1, m2⟩ := chk_rng h
  obtain ⟨d1, d2⟩ := tdiv_rng m1 m2
  unfold fieldT
  split
  · have := (nameN_ne x.a.toNat (by omega)).2; omega
  split
  · have := (nameN_ne x.b.toNat (by omega)).2; omega
  split
  · have := (nameN_ne x.c.toNat (by omega)).2; omega
  split
  · exact itoa_len m1 m2
  split
  · exact itoa_len d1 d2
  split
  · exact itoa_len (by omega) (by omega)
  · exact itoa_len (by omega) (by omega)
theorem fieldsT_len {x : Ins} (h : x.chk = 0) : ∀ fs : Str, (fieldsT x fs).length ≤ 22 * fs.length
  | [] => by simp [fieldsT]
  | c :: fs => by
    rw [fieldsT_cons]
    have h1 := fieldT_len h c
    have h2 := fieldsT_len h fs
    simp only [List.length_cons, List.length_append]
    omega
theorem lineT_len {x : Ins} (h : x.chk = 0) : (lineT x).length ≤ 100 ∧ lineT x ≠ [] := by
  obtain ⟨o1, o2, _⟩ := chk_ok h
  obtain ⟨n1, n2⟩ := opName_ne ⟨o1, o2⟩
  have h1 := order_lt _ (fmtN_lt x.op)
  have h2 := fieldsT_len h (orderS (fmtN x.op))
  have h3 := bitsS_len x.aq x.rl
  unfold lineT
  refine ⟨?_, fun e => n1 (List.append_eq_nil_iff.1 e).1⟩
  simp only [List.length_append]
  omega
theorem wordT_len {w : Nat} (hw : w < 2 ^ 32) : (wordT w).length ≤ 100 ∧ wordT w ≠ [] := by
  unfold wordT
  cases h : opOf w with
  | some i => exact lineT_len (enc_dec hw (opOf_hit h)).1
  | none =>
    have := dec_len (u := w) (by omega)
    exact ⟨by simp only [List.length_append, List.length_cons, List.length_nil]; omega, by simp⟩
theorem textA_dec {w i : Nat} (hw : w < 2 ^ 32) (h : opOf w = some i) : textA (decI w i) = wordT w ∧ (decI w i).chk = 0 := by
  have hc := (enc_dec hw (opOf_hit h)).1
  refine ⟨?_, hc⟩
  unfold textA wordT
  rw [if_pos hc, h]
section
set_option maxHeartbeats 8000000
set_option maxRecDepth 10000
variable {h : Hp} {K : Value → Hp → Prop}
/-- Words that are handed over. -/
def InW (h : Hp) (a : Option Addr) (ws : List Nat) : Prop := (∀ w ∈ ws, w < 2 ^ 32) ∧ ∀ (i : Nat) (w : Nat), ws[i]? = some w → ∃ b, a = some b ∧ loadH Tryz.prog 42 h (b.add (((i : Nat) : Int).toNat * 1)) = some (wx w)
theorem InW.le {h h' : Hp} {a : Option Addr} {ws : List Nat} (w : InW h a ws) (hle : h.le h') : InW h' a ws :=
  ⟨w.1, fun i x hx => by
    obtain ⟨b, e1, e2⟩ := w.2 i x hx
    exact ⟨b, e1, loadH_le hle e2⟩⟩
theorem listing_x (hp : Pow h) (ws : List Nat) (a : Option Addr) (cap : Nat) (hW : InW h a ws) (hl : ws.length ≤ 2 ^ 20) (hk : ∀ h', h.le h' → K (.string (bs (listT ws))) h') : X Tryz.prog 16 #[.slice a ws.length cap] h K := by
  refine fnv (args := _) mixed [(6, 6)] [] [] Tryz.func16 rfl (by kernel_rfl) ?_; conv => whnf
  refine new_intro (o := rowO 53 [.pointer none, .slice none 0 0]) (fun bb h1 n_bb le_bb at_bb ot_bb => ?_); conv => whnf
  have w1 : Bds 53 h h1 bb [] := Bds.of le_bb n_bb at_bb
  refine loop_at [12] [] (fun r vs _ h' => ∃ (i : Nat) (acc : Str), i ≤ ws.length ∧ r = ws.length - i ∧ vs = [.v (.int .i64 i)] ∧ Bds 53 h h' bb acc ∧ acc.length ≤ 110 * i ∧ acc ++ listT (ws.drop i) = listT ws) ws.length
    ⟨0, [], by omega, by omega, rfl, w1, by simp, by simp⟩ ?_
  rintro r vs cs mm bx h2 ⟨i, acc, hi, rfl, rfl, w2, hal, hR⟩
  have hle := w2.le
  conv => whnf
  refine bsel_intro (fun q1 => ?_) (fun q1 => ?_) <;> try simp only [bsL] at q1
  · have hi2 : i < ws.length := by omega
    obtain ⟨w, hx⟩ : ∃ w, ws[i]? = some w := ⟨_, List.getElem?_eq_getElem hi2⟩
    obtain ⟨ba, rfl, hld⟩ := (hW.le hle).2 i w hx
    have hw := hW.1 w (List.mem_of_getElem? hx)
    have hd : ws.drop i = w :: ws.drop (i + 1) := by
      rw [List.drop_eq_getElem_cons hi2]
      congr 1
      exact (List.getElem?_eq_some_iff.1 hx).2
    rw [hd, listT_cons] at hR
    obtain ⟨t1, t2⟩ := wordT_len hw
    conv => whnf
    (first | refine need_intro (⟨by omega, by omega⟩) ?_ | refine must.mk (⟨by omega, by omega⟩) ?_); conv => whnf
    refine ⟨_, hld, ?_⟩; conv => whnf
    refine decode_x w hw ?_
    unfold decV
    cases ho : opOf w with
    | some j =>
      obtain ⟨e1, e2⟩ := textA_dec hw ho
      obtain ⟨m1, m2⟩ := chk_rng e2
      conv => whnf
      refine text_x (hp.le hle) (decI w j) m1 m2 fun h3 le3 => ?_
      rw [e1, e2]
      conv => whnf
      refine (w2.up le3).wsN liesB (wordT w) (.inr t2) (by omega) fun h4 w4 => ?_
      conv => whnf
      refine w4.wb liesB 10 (by rw [List.length_append]; omega) fun h5 w5 => ?_
      conv => whnf
      (first | refine ov_c (by simp only [loK, hiK]; omega) ?_ | refine ov_c (by decide) ?_); conv => whnf
      exact ⟨ws.length - (i + 1), by omega, i + 1, _, by omega, rfl, rfl, w5, by simp only [List.length_append, List.length_cons, List.length_nil]; omega, by rw [← hR]; simp⟩
    | none =>
      have et : wordT w = [119, 111, 114, 100, 32] ++ Lib.decDigits w := by unfold wordT; rw [ho]
      conv => whnf
      refine w2.wsN liesB [119, 111, 114, 100, 32] (.inr (by simp)) (by simp; omega) fun h3 w3 => ?_
      conv => whnf
      refine ov_u64 (by omega) ?_; conv => whnf
      refine fmtU_x (hp.le w3.le) w (by omega) ?_
      conv => whnf
      rw [et] at t1
      refine w3.wsN liesB (Lib.decDigits w) (.inr (dec_ne w)) (by simp only [List.length_append, List.length_cons, List.length_nil] at t1 ⊢; omega) fun h4 w4 => ?_
      conv => whnf
      refine w4.wb liesB 10 (by simp only [List.length_append, List.length_cons, List.length_nil] at t1 ⊢; omega) fun h5 w5 => ?_
      conv => whnf
      (first | refine ov_c (by simp only [loK, hiK]; omega) ?_ | refine ov_c (by decide) ?_); conv => whnf
      exact ⟨ws.length - (i + 1), by omega, i + 1, _, by omega, rfl, rfl, w5, by simp only [List.length_append, List.length_cons, List.length_nil] at t1 ⊢; omega, by rw [← hR, et]; simp⟩
  · have hin : i = ws.length := by omega
    rw [hin, List.drop_length] at hR
    have hR : acc ++ [] = listT ws := hR
    rw [List.append_nil] at hR
    subst hR
    conv => whnf
    refine w2.str (by omega) fun h3 le3 => ?_
    conv => whnf
    exact hk h3 le3
theorem rlisting_x (ws : List Nat) (a : Option Addr) (cap : Nat) (hW : InW h a ws) (hl : ws.length ≤ 2 ^ 20) (hk : K (.string (bs (listT ws))) h) : X Tryz.prog 17 #[.slice a ws.length cap] h K := by
  refine fnv (args := _) mixed [(5, 5)] [] [] Tryz.func17 rfl (by kernel_rfl) ?_; conv => whnf
  refine loop_at [4, 3] [] (fun r vs _ h' => h = h' ∧ ∃ (i : Nat) (acc : Str), i ≤ ws.length ∧ r = ws.length - i ∧ vs = [.v (.int .i64 i), .v (sv acc)] ∧ acc.length ≤ 110 * i ∧ acc ++ listT (ws.drop i) = listT ws) ws.length
    ⟨rfl, 0, [], by omega, by omega, rfl, by simp, by simp⟩ ?_
  rintro r vs cs mm bx _ ⟨rfl, i, acc, hi, rfl, rfl, hal, hR⟩
  conv => whnf
  refine bsel_intro (fun q1 => ?_) (fun q1 => ?_) <;> try simp only [bsL] at q1
  · have hi2 : i < ws.length := by omega
    obtain ⟨w, hx⟩ : ∃ w, ws[i]? = some w := ⟨_, List.getElem?_eq_getElem hi2⟩
    obtain ⟨ba, rfl, hld⟩ := hW.2 i w hx
    have hw := hW.1 w (List.mem_of_getElem? hx)
    have hd : ws.drop i = w :: ws.drop (i + 1) := by
      rw [List.drop_eq_getElem_cons hi2]
      congr 1
      exact (List.getElem?_eq_some_iff.1 hx).2
    rw [hd, listT_cons] at hR
    obtain ⟨t1, t2⟩ := wordT_len hw
    conv => whnf
    (first | refine need_intro (⟨by omega, by omega⟩) ?_ | refine must.mk (⟨by omega, by omega⟩) ?_); conv => whnf
    refine ⟨_, hld, ?_⟩; conv => whnf
    refine ov_u64 (by omega) ?_; conv => whnf
    refine rdecode_x w hw ?_
    unfold decV
    cases ho : opOf w with
    | some j =>
      obtain ⟨e1, e2⟩ := textA_dec hw ho
      obtain ⟨m1, m2⟩ := chk_rng e2
      conv => whnf
      refine rtext_x (decI w j) m1 m2 ?_
      rw [e1, e2]
      conv => whnf
      refine cat_by (m := acc ++ wordT w) (by omega) rfl ?_
      conv => whnf
      refine cat_by (m := acc ++ wordT w ++ [10]) (by rw [List.length_append]; simp; omega) rfl ?_
      conv => whnf
      (first | refine ov_c (by simp only [loK, hiK]; omega) ?_ | refine ov_c (by decide) ?_); conv => whnf
      exact ⟨ws.length - (i + 1), by omega, rfl, i + 1, _, by omega, rfl, rfl, by simp only [List.length_append, List.length_cons, List.length_nil]; omega, by rw [← hR]; simp⟩
    | none =>
      have et : wordT w = [119, 111, 114, 100, 32] ++ Lib.decDigits w := by unfold wordT; rw [ho]
      rw [et] at t1 hR
      simp only [List.length_append, List.length_cons, List.length_nil] at t1
      conv => whnf
      refine cat_by (m := acc ++ [119, 111, 114, 100, 32]) (by simp; omega) rfl ?_
      conv => whnf
      (first | refine need_intro (⟨by omega, by omega⟩) ?_ | refine must.mk (⟨by omega, by omega⟩) ?_); conv => whnf
      refine ⟨_, hld, ?_⟩; conv => whnf
      refine ov_u64 (by omega) ?_; conv => whnf
      refine rplain_x w (by omega) ?_
      conv => whnf
      refine cat_by (m := acc ++ [119, 111, 114, 100, 32] ++ Lib.decDigits w) (by simp; omega) rfl ?_
      conv => whnf
      refine cat_by (m := acc ++ [119, 111, 114, 100, 32] ++ Lib.decDigits w ++ [10]) (by simp; omega) rfl ?_
      conv => whnf
      (first | refine ov_c (by simp only [loK, hiK]; omega) ?_ | refine ov_c (by decide) ?_); conv => whnf
      exact ⟨ws.length - (i + 1), by omega, rfl, i + 1, _, by omega, rfl, rfl, by simp only [List.length_append, List.length_cons, List.length_nil]; omega, by rw [← hR]; simp⟩
  · have hin : i = ws.length := by omega
    rw [hin, List.drop_length] at hR
    have hR : acc ++ [] = listT ws := hR
    rw [List.append_nil] at hR
    subst hR
    conv => whnf
    exact hk
end
end Go.Proofs.YtlobclgbbhoeiaaGreatDoor
