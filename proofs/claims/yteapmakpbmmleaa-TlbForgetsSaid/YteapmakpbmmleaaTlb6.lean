/-
  A cache: looked for, made, told, copied.
-/
import Derived.Test.YteapmakpbmmleaaTlb5
namespace Go.Proofs.Yteapmakpbmmleaa
set_option linter.unusedSimpArgs false
set_option linter.unusedVariables false
open Go Go.Mid Go.RowKit
attribute [local irreducible] mid structOk
def kyOf (a va l : Int) : Ky := ⟨a, pageI va l, l⟩
def cands (asid va : Int) : List Ky := if asid < 0 then [kyOf (-1) va 0, kyOf (-1) va 1, kyOf (-1) va 2] else [kyOf asid va 0, kyOf (-1) va 0, kyOf asid va 1, kyOf (-1) va 1, kyOf asid va 2, kyOf (-1) va 2]
def firstE (L : List En) : List Ky → Option En
  | [] => none
  | k :: r => match L.find? (fun e => decide (keyI e = k)) with
    | some e => some e
    | none => firstE L r
def findI (L : List En) (asid va : Int) : Option En := firstE L (cands asid va)
def foundV (o : Option En) : Value := match o with
  | some e => .tuple #[e.v, .bool true]
  | none => .tuple #[En.v ⟨0, 0, 0, 0⟩, .bool false]
theorem lookE_some {L : List En} {k : Ky} {e : En} (h : L.find? (fun e => decide (keyI e = k)) = some e) : lookE L k = some e.v := by unfold lookE; rw [h]; rfl
theorem lookE_no {L : List En} {k : Ky} (h : L.find? (fun e => decide (keyI e = k)) = none) : lookE L k = none := by unfold lookE; rw [h]; rfl
section
set_option maxHeartbeats 8000000
set_option maxRecDepth 10000
theorem common_x {c : Nat} {size : Int} {L : List En} (va : Int) (hva : 0 ≤ va ∧ va < 2 ^ 64) (h : Hp) (K : Value → Hp → Prop) (hT : TlbH h c size L) (hk : K (foundV (firstE L [kyOf (-1) va 0, kyOf (-1) va 1, kyOf (-1) va 2])) h) :
    X Try.prog 26 #[.pointer (some ⟨c, 0, none⟩), .int .u64 va] h K := by
  obtain ⟨m, b, om, age, ob, h0, h1, h2, h3, h4⟩ := hT
  have hu : ∀ l, 0 ≤ pageI va l ∧ pageI va l < 2 ^ 64 := fun l => pageI_u hva
  refine fnv (args := _) mixed [(4, 4), (7, 7)] [] [19] Try.func26 rfl (by kernel_rfl) ?_
  conv => whnf
  refine loop_step ?_
  conv => whnf
  refine ⟨fun h' => h' = h, rfl, ?_⟩
  conv => whnf
  refine ⟨_, fun h' hh => (by rw [hh]; exact loadC (i := 1) aggM h1 rfl), ?_⟩
  conv => whnf
  refine page_x _ _ hva ?_
  refine ⟨rfl, ?_⟩
  conv => whnf
  refine ⟨_, MapO.look mapU enZ kyT h2 h3 (kyOf (-1) va 0) true, ?_⟩
  conv => whnf
  cases hf0 : L.find? (fun e => decide (keyI e = kyOf (-1) va 0))
  rotate_left
  · rw [lookE_some hf0]
    conv => whnf
    exact kq hk (by simp only [firstE, *]; rfl)
  rw [lookE_no hf0]
  conv => whnf
  first | refine ov_i64 (by omega) ?_ | refine ov_u64 (by omega) ?_ | refine ov_i64 (by decide) ?_ | refine ov_u64 (by decide) ?_ | refine ov_u8 (by omega) ?_ | refine ov_i32 (by omega) ?_ | refine ov_u32 (by omega) ?_
  conv => whnf
  refine loop_step ?_
  conv => whnf
  refine ⟨fun h' => h' = h, rfl, ?_⟩
  conv => whnf
  refine ⟨_, fun h' hh => (by rw [hh]; exact loadC (i := 1) aggM h1 rfl), ?_⟩
  conv => whnf
  refine page_x _ _ hva ?_
  refine ⟨rfl, ?_⟩
  conv => whnf
  refine ⟨_, MapO.look mapU enZ kyT h2 h3 (kyOf (-1) va 1) true, ?_⟩
  conv => whnf
  cases hf1 : L.find? (fun e => decide (keyI e = kyOf (-1) va 1))
  rotate_left
  · rw [lookE_some hf1]
    conv => whnf
    exact kq hk (by simp only [firstE, *]; rfl)
  rw [lookE_no hf1]
  conv => whnf
  first | refine ov_i64 (by omega) ?_ | refine ov_u64 (by omega) ?_ | refine ov_i64 (by decide) ?_ | refine ov_u64 (by decide) ?_ | refine ov_u8 (by omega) ?_ | refine ov_i32 (by omega) ?_ | refine ov_u32 (by omega) ?_
  conv => whnf
  refine loop_step ?_
  conv => whnf
  refine ⟨fun h' => h' = h, rfl, ?_⟩
  conv => whnf
  refine ⟨_, fun h' hh => (by rw [hh]; exact loadC (i := 1) aggM h1 rfl), ?_⟩
  conv => whnf
  refine page_x _ _ hva ?_
  refine ⟨rfl, ?_⟩
  conv => whnf
  refine ⟨_, MapO.look mapU enZ kyT h2 h3 (kyOf (-1) va 2) true, ?_⟩
  conv => whnf
  cases hf2 : L.find? (fun e => decide (keyI e = kyOf (-1) va 2))
  rotate_left
  · rw [lookE_some hf2]
    conv => whnf
    exact kq hk (by simp only [firstE, *]; rfl)
  rw [lookE_no hf2]
  conv => whnf
  first | refine ov_i64 (by omega) ?_ | refine ov_u64 (by omega) ?_ | refine ov_i64 (by decide) ?_ | refine ov_u64 (by decide) ?_ | refine ov_u8 (by omega) ?_ | refine ov_i32 (by omega) ?_ | refine ov_u32 (by omega) ?_
  conv => whnf
  refine loop_step ?_
  conv => whnf
  exact kq hk (by simp only [firstE, *]; rfl)
theorem find_x {c : Nat} {size : Int} {L : List En} (asid va : Int) (hva : 0 ≤ va ∧ va < 2 ^ 64) (h : Hp) (K : Value → Hp → Prop) (hT : TlbH h c size L) (hk : K (foundV (findI L asid va)) h) :
    X Try.prog 12 #[.pointer (some ⟨c, 0, none⟩), .int .i64 asid, .int .u64 va] h K := by
  have hT0 := hT
  obtain ⟨m, b, om, age, ob, h0, h1, h2, h3, h4⟩ := hT0
  have hu : ∀ l, 0 ≤ pageI va l ∧ pageI va l < 2 ^ 64 := fun l => pageI_u hva
  unfold findI cands at hk
  refine fnv (args := _) mixed [(6, 6), (11, 11)] [] [36] Try.func12 rfl (by kernel_rfl) ?_
  conv => whnf
  refine bsel_intro (fun q1 => ?_) (fun q1 => ?_) <;> try simp only [decide_eq_true_eq, decide_eq_false_iff_not, beq_iff_eq, beq_eq_false_iff_ne, ne_eq, Bool.not_eq_true', Bool.not_eq_false', bne_iff_ne, bne_eq_false_iff_eq, Bool.not_eq_true, Bool.not_eq_false, Bool.and_eq_true, Bool.or_eq_true] at q1
  · rw [if_pos q1] at hk
    conv => whnf
    refine common_x va hva h _ hT ?_
    conv => whnf
    generalize firstE L [kyOf (-1) va 0, kyOf (-1) va 1, kyOf (-1) va 2] = r at hk
    cases r with
    | none =>
      conv => whnf
      exact hk
    | some e =>
      conv => whnf
      exact hk
  rw [if_neg q1] at hk
  conv => whnf
  refine loop_step ?_
  conv => whnf
  refine loop_step ?_
  conv => whnf
  refine ⟨fun h' => h' = h, rfl, ?_⟩
  conv => whnf
  refine ⟨_, fun h' hh => (by rw [hh]; exact loadC (i := 1) aggM h1 rfl), ?_⟩
  conv => whnf
  refine page_x _ _ hva ?_
  refine ⟨rfl, ?_⟩
  conv => whnf
  refine ⟨_, MapO.look mapU enZ kyT h2 h3 (kyOf asid va 0) true, ?_⟩
  conv => whnf
  cases hf0 : L.find? (fun e => decide (keyI e = kyOf asid va 0))
  rotate_left
  · rw [lookE_some hf0]
    conv => whnf
    exact kq hk (by simp only [firstE, *]; rfl)
  rw [lookE_no hf0]
  conv => whnf
  first | refine ov_i64 (by omega) ?_ | refine ov_u64 (by omega) ?_ | refine ov_i64 (by decide) ?_ | refine ov_u64 (by decide) ?_ | refine ov_u8 (by omega) ?_ | refine ov_i32 (by omega) ?_ | refine ov_u32 (by omega) ?_
  conv => whnf
  refine loop_step ?_
  conv => whnf
  refine ⟨fun h' => h' = h, rfl, ?_⟩
  conv => whnf
  refine ⟨_, fun h' hh => (by rw [hh]; exact loadC (i := 1) aggM h1 rfl), ?_⟩
  conv => whnf
  refine page_x _ _ hva ?_
  refine ⟨rfl, ?_⟩
  conv => whnf
  refine ⟨_, MapO.look mapU enZ kyT h2 h3 (kyOf (-1) va 0) true, ?_⟩
  conv => whnf
  cases hg0 : L.find? (fun e => decide (keyI e = kyOf (-1) va 0))
  rotate_left
  · rw [lookE_some hg0]
    conv => whnf
    exact kq hk (by simp only [firstE, *]; rfl)
  rw [lookE_no hg0]
  conv => whnf
  first | refine ov_i64 (by omega) ?_ | refine ov_u64 (by omega) ?_ | refine ov_i64 (by decide) ?_ | refine ov_u64 (by decide) ?_ | refine ov_u8 (by omega) ?_ | refine ov_i32 (by omega) ?_ | refine ov_u32 (by omega) ?_
  conv => whnf
  refine loop_step ?_
  conv => whnf
  first | refine ov_i64 (by omega) ?_ | refine ov_u64 (by omega) ?_ | refine ov_i64 (by decide) ?_ | refine ov_u64 (by decide) ?_ | refine ov_u8 (by omega) ?_ | refine ov_i32 (by omega) ?_ | refine ov_u32 (by omega) ?_
  conv => whnf
  refine loop_step ?_
  conv => whnf
  refine loop_step ?_
  conv => whnf
  refine ⟨fun h' => h' = h, rfl, ?_⟩
  conv => whnf
  refine ⟨_, fun h' hh => (by rw [hh]; exact loadC (i := 1) aggM h1 rfl), ?_⟩
  conv => whnf
  refine page_x _ _ hva ?_
  refine ⟨rfl, ?_⟩
  conv => whnf
  refine ⟨_, MapO.look mapU enZ kyT h2 h3 (kyOf asid va 1) true, ?_⟩
  conv => whnf
  cases hf1 : L.find? (fun e => decide (keyI e = kyOf asid va 1))
  rotate_left
  · rw [lookE_some hf1]
    conv => whnf
    exact kq hk (by simp only [firstE, *]; rfl)
  rw [lookE_no hf1]
  conv => whnf
  first | refine ov_i64 (by omega) ?_ | refine ov_u64 (by omega) ?_ | refine ov_i64 (by decide) ?_ | refine ov_u64 (by decide) ?_ | refine ov_u8 (by omega) ?_ | refine ov_i32 (by omega) ?_ | refine ov_u32 (by omega) ?_
  conv => whnf
  refine loop_step ?_
  conv => whnf
  refine ⟨fun h' => h' = h, rfl, ?_⟩
  conv => whnf
  refine ⟨_, fun h' hh => (by rw [hh]; exact loadC (i := 1) aggM h1 rfl), ?_⟩
  conv => whnf
  refine page_x _ _ hva ?_
  refine ⟨rfl, ?_⟩
  conv => whnf
  refine ⟨_, MapO.look mapU enZ kyT h2 h3 (kyOf (-1) va 1) true, ?_⟩
  conv => whnf
  cases hg1 : L.find? (fun e => decide (keyI e = kyOf (-1) va 1))
  rotate_left
  · rw [lookE_some hg1]
    conv => whnf
    exact kq hk (by simp only [firstE, *]; rfl)
  rw [lookE_no hg1]
  conv => whnf
  first | refine ov_i64 (by omega) ?_ | refine ov_u64 (by omega) ?_ | refine ov_i64 (by decide) ?_ | refine ov_u64 (by decide) ?_ | refine ov_u8 (by omega) ?_ | refine ov_i32 (by omega) ?_ | refine ov_u32 (by omega) ?_
  conv => whnf
  refine loop_step ?_
  conv => whnf
  first | refine ov_i64 (by omega) ?_ | refine ov_u64 (by omega) ?_ | refine ov_i64 (by decide) ?_ | refine ov_u64 (by decide) ?_ | refine ov_u8 (by omega) ?_ | refine ov_i32 (by omega) ?_ | refine ov_u32 (by omega) ?_
  conv => whnf
  refine loop_step ?_
  conv => whnf
  refine loop_step ?_
  conv => whnf
  refine ⟨fun h' => h' = h, rfl, ?_⟩
  conv => whnf
  refine ⟨_, fun h' hh => (by rw [hh]; exact loadC (i := 1) aggM h1 rfl), ?_⟩
  conv => whnf
  refine page_x _ _ hva ?_
  refine ⟨rfl, ?_⟩
  conv => whnf
  refine ⟨_, MapO.look mapU enZ kyT h2 h3 (kyOf asid va 2) true, ?_⟩
  conv => whnf
  cases hf2 : L.find? (fun e => decide (keyI e = kyOf asid va 2))
  rotate_left
  · rw [lookE_some hf2]
    conv => whnf
    exact kq hk (by simp only [firstE, *]; rfl)
  rw [lookE_no hf2]
  conv => whnf
  first | refine ov_i64 (by omega) ?_ | refine ov_u64 (by omega) ?_ | refine ov_i64 (by decide) ?_ | refine ov_u64 (by decide) ?_ | refine ov_u8 (by omega) ?_ | refine ov_i32 (by omega) ?_ | refine ov_u32 (by omega) ?_
  conv => whnf
  refine loop_step ?_
  conv => whnf
  refine ⟨fun h' => h' = h, rfl, ?_⟩
  conv => whnf
  refine ⟨_, fun h' hh => (by rw [hh]; exact loadC (i := 1) aggM h1 rfl), ?_⟩
  conv => whnf
  refine page_x _ _ hva ?_
  refine ⟨rfl, ?_⟩
  conv => whnf
  refine ⟨_, MapO.look mapU enZ kyT h2 h3 (kyOf (-1) va 2) true, ?_⟩
  conv => whnf
  cases hg2 : L.find? (fun e => decide (keyI e = kyOf (-1) va 2))
  rotate_left
  · rw [lookE_some hg2]
    conv => whnf
    exact kq hk (by simp only [firstE, *]; rfl)
  rw [lookE_no hg2]
  conv => whnf
  first | refine ov_i64 (by omega) ?_ | refine ov_u64 (by omega) ?_ | refine ov_i64 (by decide) ?_ | refine ov_u64 (by decide) ?_ | refine ov_u8 (by omega) ?_ | refine ov_i32 (by omega) ?_ | refine ov_u32 (by omega) ?_
  conv => whnf
  refine loop_step ?_
  conv => whnf
  first | refine ov_i64 (by omega) ?_ | refine ov_u64 (by omega) ?_ | refine ov_i64 (by decide) ?_ | refine ov_u64 (by decide) ?_ | refine ov_u8 (by omega) ?_ | refine ov_i32 (by omega) ?_ | refine ov_u32 (by omega) ?_
  conv => whnf
  refine loop_step ?_
  conv => whnf
  exact kq hk (by simp only [firstE, *]; rfl)
theorem new_x (n : Int) (h : Hp) (K : Value → Hp → Prop) (hbad : (n < 1 ∨ 32 < n) → K (.tuple #[.pointer none, .int .i64 1]) h)
    (hk : 1 ≤ n → n ≤ 32 → ∀ c h', h.le h' → h c = none → TlbH h' c n [] → Turned h Hp.emp h' Hp.emp → K (.tuple #[.pointer (some ⟨c, 0, none⟩), .int .i64 0]) h') :
    X Try.prog 6 #[.int .i64 n] h K := by
  refine fnv (args := _) mixed [] [] [] Try.func6 rfl (by kernel_rfl) ?_
  conv => whnf
  refine bsel_intro (fun q1 => ?_) (fun q1 => ?_) <;> try simp only [decide_eq_true_eq, decide_eq_false_iff_not, beq_iff_eq, beq_eq_false_iff_ne, ne_eq, Bool.not_eq_true', Bool.not_eq_false', bne_iff_ne, bne_eq_false_iff_eq, Bool.not_eq_true, Bool.not_eq_false, Bool.and_eq_true, Bool.or_eq_true] at q1
  · conv => whnf
    exact hbad (.inl q1)
  conv => whnf
  refine bsel_intro (fun q2 => ?_) (fun q2 => ?_) <;> try simp only [decide_eq_true_eq, decide_eq_false_iff_not, beq_iff_eq, beq_eq_false_iff_ne, ne_eq, Bool.not_eq_true', Bool.not_eq_false', bne_iff_ne, bne_eq_false_iff_eq, Bool.not_eq_true, Bool.not_eq_false, Bool.and_eq_true, Bool.or_eq_true] at q2
  · conv => whnf
    exact hbad (.inr q2)
  conv => whnf
  refine new_intro (o := .map #[] 0) (fun m H1 n_m le_m at_m ot_m => ?_)
  conv => whnf
  refine new_intro (o := rowO 55 [.int .i64 n, .map (some m), .slice none 0 0]) (fun c H2 n_c le_c at_c ot_c => ?_)
  conv => whnf
  refine hk (by omega) (by omega) c H2 (Hp.le_trans le_m le_c) (none_le le_m n_c) ⟨m, 0, .map #[] 0, _, none, fun _ hx => (by cases hx), at_c, le_c _ _ at_m, MapO.congr MapO.nil fun a => rfl, Gr.nil⟩ ?_
  exact ⟨fun b o e _ => le_c _ _ (le_m _ _ e), Hp.emp_le _, fun _ _ e => (by cases e)⟩
theorem loadK {h : Hp} {b : Nat} {ks : List Ky} {rest : List Value} {i : Nat} {k : Ky} (hb : h b = some (rowO 58 (ks.flatMap Ky.cells ++ rest))) (hi : ks[i]? = some k) : loadH Try.prog 58 h ((⟨b, 0, none⟩ : Addr).add (i * 3)) = some k.v := loadH_agg tKyA tKyS kyLen hb hi
theorem all2_x {c : Nat} {size : Int} {L : List En} (hg : Good size L) (h : Hp) (K : Value → Hp → Prop) (hT : TlbH h c size L)
    (hk : ∀ s h', h.le h' → Rd Try.prog 25 4 (news h h') s (L.map En.v) → K s h') :
    X Try.prog 10 #[.pointer (some ⟨c, 0, none⟩)] h K := by
  obtain ⟨m, b, om, age, ob, h0, h1, h2, h3, h4⟩ := hT
  have hsz := hg.sz
  have hlen := hg.len
  have hrd : ∃ sa sc, age = .slice sa L.length sc ∧ ∀ (i : Nat) (e : En), L[i]? = some e → ∃ bb rest, sa = some ⟨bb, 0, none⟩ ∧ h bb = some (rowO 58 ((L.map keyI).flatMap Ky.cells ++ rest)) := by
    obtain ⟨g1, ⟨_, e, g2⟩ | ⟨bb, cap, rest, e1, e2, g2, g3, g4⟩⟩ := h4
    · refine ⟨none, 0, by rw [e, g2], fun i e hi => ?_⟩
      obtain rfl := List.eq_nil_of_length_eq_zero g2
      simp at hi
    · exact ⟨_, cap, e2, fun i e hi => ⟨bb, rest, rfl, g4⟩⟩
  obtain ⟨sa, sc, rfl, hrow⟩ := hrd
  refine fnv (args := _) mixed [(5, 5)] [] [] Try.func10 rfl (by kernel_rfl) ?_
  conv => whnf
  refine ⟨_, loadC (i := 2) aggS h1 rfl, ?_⟩
  conv => whnf
  refine loop_at [13, 3] [] (fun r vs _ h' => ∃ (j : Nat) (s : Value) (ob' : Option Nat), j ≤ L.length ∧ r = L.length - j ∧ vs = [.v (.int .i64 j), .v s] ∧ h.le h' ∧ Gr h' 25 4 s j ((L.take j).flatMap En.cells) ob' ∧ ∀ x, ob' = some x → h x = none) L.length ⟨0, .slice none 0 0, none, by omega, by omega, rfl, Hp.le_refl h, Gr.nil, fun x hx => (by cases hx)⟩ ?_
  rintro r vs cs mm bx h' ⟨j, s, ob', hj, rfl, rfl, hle, hgr, hob⟩
  conv => whnf
  refine bsel_intro (fun q1 => ?_) (fun q1 => ?_) <;> try simp only [decide_eq_true_eq, decide_eq_false_iff_not, beq_iff_eq, beq_eq_false_iff_ne, ne_eq, Bool.not_eq_true', Bool.not_eq_false', bne_iff_ne, bne_eq_false_iff_eq, Bool.not_eq_true, Bool.not_eq_false, Bool.and_eq_true, Bool.or_eq_true] at q1
  · have hjl : j < L.length := by omega
    have hget : L[j]? = some L[j] := List.getElem?_eq_getElem hjl
    have heL : L[j] ∈ L := List.getElem_mem hjl
    have htk : (L.take (j + 1)).flatMap En.cells = (L.take j).flatMap En.cells ++ En.cells L[j] := by rw [List.take_succ_eq_append_getElem hjl, List.flatMap_append]; simp
    obtain ⟨bb, rest, rfl, hbb⟩ := hrow j _ hget
    conv => whnf
    first | refine need_intro (by omega) ?_ | refine must.mk (by omega) ?_
    conv => whnf
    refine ⟨_, loadK (k := keyI L[j]) (hle _ _ hbb) (by show (L.map keyI)[j]? = _; rw [List.getElem?_map, hget]; rfl), ?_⟩
    conv => whnf
    refine ⟨_, loadC (i := 1) aggM (hle _ _ h1) rfl, ?_⟩
    conv => whnf
    refine ⟨_, MapO.look mapU enZ kyT (hle _ _ h2) h3 (keyI L[j]) false, ?_⟩
    conv => whnf
    rw [lookE_mem hg.dist heL]
    conv => whnf
    refine new_intro (o := rowO 25 (En.cells L[j])) (fun bn H6 n_bn le_bn at_bn ot_bn => ?_)
    conv => whnf
    refine appOne (t := 37) (e := 25) (i := Try.prog.types[25]) (z := En.v ⟨0, 0, 0, 0⟩) (size := 4) (bytes := 32) (by kernel_rfl) (by kernel_rfl) (by kernel_rfl) (by kernel_rfl) (by kernel_rfl) rfl (by decide) (h := H6) rfl rfl rfl (hgr.le le_bn) at_bn (enLen _) rfl (by omega) (fun s7 h7 ob7 hg7 ht7 => ?_)
    have t1 := ht7.le (Hp.le_trans hle le_bn) hob
    rw [← htk] at hg7
    refine ⟨trivial, ?_⟩
    conv => whnf
    first | refine ov_i64 (by omega) ?_ | refine ov_u64 (by omega) ?_ | refine ov_i64 (by decide) ?_ | refine ov_u64 (by decide) ?_ | refine ov_u8 (by omega) ?_ | refine ov_i32 (by omega) ?_ | refine ov_u32 (by omega) ?_
    conv => whnf
    exact ⟨L.length - (j + 1), by omega, j + 1, s7, ob7, by omega, rfl, rfl, t1.1, hg7, t1.2⟩
  · obtain rfl : j = L.length := by omega
    rw [List.take_length] at hgr
    conv => whnf
    exact hk s h' hle ((hgr.agree (h' := news h h') fun x hx => news_at (hob x hx)).rdN tEnA tEnS enLen)
theorem all_x {c : Nat} {size : Int} {L : List En} (hg : Good size L) (h : Hp) (K : Value → Hp → Prop) (hT : TlbH h c size L)
    (hk : ∀ s h', h.le h' → Rd Try.prog 25 4 h' s (L.map En.v) → K s h') :
    X Try.prog 10 #[.pointer (some ⟨c, 0, none⟩)] h K := all2_x hg h K hT fun s h' hle r => hk s h' hle (r.le (news_le _ _))
end
end Go.Proofs.Yteapmakpbmmleaa
