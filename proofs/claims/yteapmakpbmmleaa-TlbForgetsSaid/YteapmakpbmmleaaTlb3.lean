/-
  Rows of keys: the first one that is wanted, those that are not wanted, a copy.
-/
import Derived.Test.YteapmakpbmmleaaTlb2
namespace Go.Proofs.Yteapmakpbmmleaa
set_option linter.unusedSimpArgs false
set_option linter.unusedVariables false
open Go Go.Mid Go.RowKit
attribute [local irreducible] mid structOk
theorem aRunK_call {P : Program} {ρ : Operand → Value} {o : Oper} {g : FuncId} {args : List Value} {h : Hp} {K : Value → Hp → Prop} (hA : actOf P ρ o = if callable P g = true then .call g args else .sem (execOp ρ o)) (hc : callable P g = true) (hx : X P g args.toArray h K) : aRunK P (actOf P ρ o) h K := by
  rw [hA, if_pos hc]; exact hx
theorem kyLen (k : Ky) : k.cells.length = 3 := rfl
theorem enLen (e : En) : e.cells.length = 4 := rfl
theorem tKyA : isAggT Try.prog 58 = some true := by kernel_rfl
theorem tKyS : sizeT Try.prog 58 = some 3 := by kernel_rfl
theorem tEnA : isAggT Try.prog 25 = some true := by kernel_rfl
theorem tEnS : sizeT Try.prog 25 = some 4 := by kernel_rfl
/-- What is asked of a function that is called with each key of a row: 'Inv i' holds behind i calls. -/
structure Calls1 (g : FuncId) (first captured : Array Value) (ks : List Ky) (p : Ky → Bool) (b : Nat) (Inv : Nat → Hp → Prop) : Prop where
  call : callable Try.prog g = true
  stab : ∀ i h o, Inv i h → Inv i (h.set b o)
  run : ∀ i k h ob K, ks[i]? = some k → Inv i h → h b = some ob → (∀ h', Inv (i + 1) h' → h' b = some ob → K (.bool (p k)) h') → X Try.prog g (first.toList ++ ([k.v] ++ captured.toList)).toArray h K
theorem flat_split {α : Type} (f : α → List Value) {l : List α} {i : Nat} (hi : i < l.length) : l.flatMap f = (l.take i).flatMap f ++ (f l[i] ++ (l.drop (i + 1)).flatMap f) := by
  have e : l = l.take i ++ l[i] :: l.drop (i + 1) := by rw [← List.drop_eq_getElem_cons hi, List.take_append_drop]
  rw [← List.flatMap_cons, ← List.flatMap_append, ← e]
set_option maxHeartbeats 4000000 in
set_option maxRecDepth 10000 in
theorem indexFunc_x {g : FuncId} {first captured : Array Value} {ks : List Ky} {p : Ky → Bool} {b cap : Nat} {Inv : Nat → Hp → Prop} (c : Calls1 g first captured ks p b Inv) {ob : Obj} {rest : List Value} (ho : ob = rowO 58 (ks.flatMap Ky.cells ++ rest)) (hl : ks.length ≤ 2 ^ 40) (h : Hp) (K : Value → Hp → Prop) (hi : Inv 0 h) (hb : h b = some ob)
    (hno : (∀ k ∈ ks, p k = false) → ∀ h', Inv ks.length h' → h' b = some ob → K (.int .i64 (-1)) h')
    (hyes : ∀ i, (hi : i < ks.length) → (∀ k ∈ ks.take i, p k = false) → p ks[i] = true → ∀ h', Inv (i + 1) h' → h' b = some ob → K (.int .i64 i) h') :
    X Try.prog 44 #[.slice (some ⟨b, 0, none⟩) ks.length cap, .func (.func g) first captured] h K := by
  refine fnv (args := _) mixed [] [] [] Try.func44 rfl (by kernel_rfl) ?_
  conv => whnf
  refine loop_at [8] [] (fun r vs _ h' => ∃ j : Nat, j ≤ ks.length ∧ r = ks.length - j ∧ vs = [.v (.int .i64 j)] ∧ Inv j h' ∧ h' b = some ob ∧ ∀ k ∈ ks.take j, p k = false) ks.length ⟨0, by omega, by omega, rfl, hi, hb, by simp⟩ ?_
  rintro r vs cs mm bx h' ⟨j, hj, rfl, rfl, hinv, hb', hp⟩
  conv => whnf
  refine bsel_intro (fun h1 => ?_) (fun h1 => ?_) <;> try simp only [decide_eq_true_eq, decide_eq_false_iff_not, beq_iff_eq, beq_eq_false_iff_ne, ne_eq, Bool.not_eq_true', Bool.not_eq_false', bne_iff_ne, bne_eq_false_iff_eq, Bool.not_eq_true, Bool.not_eq_false, Bool.and_eq_true, Bool.or_eq_true] at h1
  · have hjl : j < ks.length := by omega
    conv => whnf
    first | refine need_intro (by omega) ?_ | refine must.mk (by omega) ?_
    conv => whnf
    refine ⟨_, loadH_agg tKyA tKyS kyLen (by rw [hb', ho]) (List.getElem?_eq_getElem hjl), ?_⟩
    conv => whnf
    refine aRunK_call (args := first.toList ++ ([Ky.v ks[j]] ++ captured.toList)) rfl c.call ?_
    refine c.run j ks[j] h' ob _ (List.getElem?_eq_getElem hjl) hinv hb' (fun h2 i2 b2 => ?_)
    conv => whnf
    refine bsel_intro (fun h2 => ?_) (fun h2 => ?_) <;> try simp only [decide_eq_true_eq, decide_eq_false_iff_not, beq_iff_eq, beq_eq_false_iff_ne, ne_eq, Bool.not_eq_true', Bool.not_eq_false', bne_iff_ne, bne_eq_false_iff_eq, Bool.not_eq_true, Bool.not_eq_false, Bool.and_eq_true, Bool.or_eq_true] at h2
    · conv => whnf
      exact hyes j hjl hp h2 _ i2 b2
    · conv => whnf
      first | refine ov_i64 (by omega) ?_ | refine ov_u64 (by omega) ?_ | refine ov_i64 (by decide) ?_ | refine ov_u64 (by decide) ?_ | refine ov_u8 (by omega) ?_ | refine ov_i32 (by omega) ?_ | refine ov_u32 (by omega) ?_
      conv => whnf
      refine ⟨ks.length - (j + 1), by omega, j + 1, by omega, rfl, rfl, i2, b2, fun k hk => ?_⟩
      rw [List.take_succ_eq_append_getElem hjl] at hk
      rcases List.mem_append.1 hk with hk | hk
      · exact hp k hk
      · simp only [List.mem_singleton] at hk; subst hk; exact h2
  · obtain rfl : j = ks.length := by omega
    conv => whnf
    rw [List.take_length] at hp
    exact hno hp _ hinv hb'
/-- What is left of the first j. -/
abbrev left (p : Ky → Bool) (ks : List Ky) (j : Nat) : List Ky := (ks.take j).filter (fun k => !p k)
theorem left_succ {p : Ky → Bool} {ks : List Ky} {j : Nat} (hj : j < ks.length) : left p ks (j + 1) = if p ks[j] then left p ks j else left p ks j ++ [ks[j]] := by
  unfold left
  rw [List.take_succ_eq_append_getElem hj, List.filter_append]
  cases hp : p ks[j] <;> simp [hp]
theorem left_le (p : Ky → Bool) (ks : List Ky) (j : Nat) : (left p ks j).length ≤ j := by
  have := List.length_filter_le (fun k => !p k) (ks.take j)
  rw [List.length_take] at this
  unfold left; omega
set_option maxHeartbeats 4000000 in
set_option maxRecDepth 10000 in
theorem deleteFunc_x {g : FuncId} {first captured : Array Value} {ks : List Ky} {p : Ky → Bool} {b cap : Nat} {Inv : Nat → Hp → Prop} (c : Calls1 g first captured ks p b Inv) {n : Nat} (hkn : ks.length = n) {rest : List Value} (hcap : ks.length ≤ cap) (hr : rest.length = (cap - ks.length) * 3) (hl : ks.length ≤ 2 ^ 40) (h : Hp) (K : Value → Hp → Prop) (hi : Inv 0 h) (hb : h b = some (rowO 58 (ks.flatMap Ky.cells ++ rest)))
    (hk : ∀ s h', Inv ks.length h' → Gr h' 58 3 s (ks.filter (fun k => !p k)).length ((ks.filter (fun k => !p k)).flatMap Ky.cells) (some b) → K s h') :
    X Try.prog 35 #[.slice (some ⟨b, 0, none⟩) n cap, .func (.func g) first captured] h K := by
  subst hkn
  refine fnv (args := _) mixed [(7, 7)] [] [] Try.func35 rfl (by kernel_rfl) ?_
  conv => whnf
  refine indexFunc_x c rfl hl h _ hi hb (fun hno h1 i1 b1 => ?_) (fun i hil hno hyes h1 i1 b1 => ?_)
  · conv => whnf
    refine hk _ _ i1 ?_
    have e : ks.filter (fun k => !p k) = ks := List.filter_eq_self.2 fun k hk => by rw [hno k hk]; rfl
    rw [e]
    exact ⟨flat_length kyLen _, .inr ⟨b, cap, rest, rfl, rfl, hcap, hr, b1⟩⟩
  · conv => whnf
    skip
    first | refine ov_i64 (by omega) ?_ | refine ov_u64 (by omega) ?_ | refine ov_i64 (by decide) ?_ | refine ov_u64 (by decide) ?_ | refine ov_u8 (by omega) ?_ | refine ov_i32 (by omega) ?_ | refine ov_u32 (by omega) ?_
    conv => whnf
    have hl0 : left p ks i = ks.take i := List.filter_eq_self.2 fun k hk => by rw [hno k hk]; rfl
    refine loop_at [6, 5] [] (fun r vs _ h' => ∃ j : Nat, i + 1 ≤ j ∧ j ≤ ks.length ∧ r = ks.length - j ∧ vs = [.v (.int .i64 j), .v (.int .i64 (left p ks j).length)] ∧ Inv j h' ∧ (left p ks j).length < j ∧ ∃ mid : List Value, mid.length = (j - (left p ks j).length) * 3 ∧ h' b = some (rowO 58 ((left p ks j).flatMap Ky.cells ++ (mid ++ ((ks.drop j).flatMap Ky.cells ++ rest))))) (ks.length - (i + 1))
      ⟨i + 1, by omega, by omega, by omega, ?_, i1, ?_, Ky.cells ks[i], ?_, ?_⟩ ?_
    · show [MV.v _, MV.v _] = _
      rw [show left p ks (i + 1) = ks.take i by rw [left_succ hil, if_pos hyes, hl0], List.length_take, Nat.min_eq_left (by omega)]
      rfl
    · rw [show left p ks (i + 1) = ks.take i by rw [left_succ hil, if_pos hyes, hl0], List.length_take]; omega
    · rw [show left p ks (i + 1) = ks.take i by rw [left_succ hil, if_pos hyes, hl0], List.length_take, Nat.min_eq_left (by omega), show i + 1 - i = 1 by omega]; rfl
    · rw [show left p ks (i + 1) = ks.take i by rw [left_succ hil, if_pos hyes, hl0], b1, flat_split Ky.cells hil]
      simp only [List.append_assoc]
    rintro r vs cs mm bx h' ⟨j, hj1, hj2, rfl, rfl, hinv, hlt, mid, hmid, hb'⟩
    conv => whnf
    refine bsel_intro (fun h3 => ?_) (fun h3 => ?_) <;> try simp only [decide_eq_true_eq, decide_eq_false_iff_not, beq_iff_eq, beq_eq_false_iff_ne, ne_eq, Bool.not_eq_true', Bool.not_eq_false', bne_iff_ne, bne_eq_false_iff_eq, Bool.not_eq_true, Bool.not_eq_false, Bool.and_eq_true, Bool.or_eq_true] at h3
    · have hjl : j < ks.length := by omega
      have hls := left_succ (p := p) hjl
      conv => whnf
      first | refine need_intro (by omega) ?_ | refine must.mk (by omega) ?_
      conv => whnf
      have e1 : h' b = some (rowO 58 (((left p ks j).flatMap Ky.cells ++ mid) ++ (Ky.cells ks[j] ++ ((ks.drop (j + 1)).flatMap Ky.cells ++ rest)))) := by
        rw [hb', List.drop_eq_getElem_cons hjl, List.flatMap_cons]; simp only [List.append_assoc]
      have hA : ((left p ks j).flatMap Ky.cells ++ mid).length = j * 3 := by rw [List.length_append, flat_length kyLen, hmid]; omega
      refine ⟨_, loadH_at tKyA tKyS e1 hA (kyLen _), ?_⟩
      conv => whnf
      refine aRunK_call (args := first.toList ++ ([Ky.v ks[j]] ++ captured.toList)) rfl c.call ?_
      refine c.run j ks[j] h' _ _ (List.getElem?_eq_getElem hjl) hinv e1 (fun h2 i2 b2 => ?_)
      conv => whnf
      cases hpk : p ks[j] with
      | true =>
        rw [if_pos hpk] at hls
        conv => whnf
        first | refine ov_i64 (by omega) ?_ | refine ov_u64 (by omega) ?_ | refine ov_i64 (by decide) ?_ | refine ov_u64 (by decide) ?_ | refine ov_u8 (by omega) ?_ | refine ov_i32 (by omega) ?_ | refine ov_u32 (by omega) ?_
        conv => whnf
        refine ⟨ks.length - (j + 1), by omega, j + 1, by omega, by omega, rfl, ?_, i2, by rw [hls]; omega, mid ++ Ky.cells ks[j], ?_, ?_⟩
        · show [MV.v _, MV.v _] = _
          rw [hls]; rfl
        · rw [hls, List.length_append, hmid, kyLen]; omega
        · rw [hls, b2]; simp only [List.append_assoc]
      | false =>
        rw [if_neg (by simp [hpk])] at hls
        conv => whnf
        first | refine need_intro (by omega) ?_ | refine must.mk (by omega) ?_
        conv => whnf
        obtain ⟨m3, mid', hm3, rfl⟩ : ∃ m3 mid' : List Value, m3.length = 3 ∧ mid = m3 ++ mid' := ⟨mid.take 3, mid.drop 3, by rw [List.length_take]; omega, (List.take_append_drop 3 mid).symm⟩
        have e2 : h2 b = some (rowO 58 ((left p ks j).flatMap Ky.cells ++ (m3 ++ (mid' ++ (Ky.cells ks[j] ++ ((ks.drop (j + 1)).flatMap Ky.cells ++ rest)))))) := by rw [b2]; simp only [List.append_assoc]
        refine ⟨_, storeH_at (z := Ky.v ks[j]) tKyS e2 (flat_length kyLen _) hm3 (kyLen _) rfl, ?_⟩
        conv => whnf
        first | refine ov_i64 (by omega) ?_ | refine ov_u64 (by omega) ?_ | refine ov_i64 (by decide) ?_ | refine ov_u64 (by decide) ?_ | refine ov_u8 (by omega) ?_ | refine ov_i32 (by omega) ?_ | refine ov_u32 (by omega) ?_
        conv => whnf
        first | refine ov_i64 (by omega) ?_ | refine ov_u64 (by omega) ?_ | refine ov_i64 (by decide) ?_ | refine ov_u64 (by decide) ?_ | refine ov_u8 (by omega) ?_ | refine ov_i32 (by omega) ?_ | refine ov_u32 (by omega) ?_
        conv => whnf
        refine ⟨ks.length - (j + 1), by omega, j + 1, by omega, by omega, rfl, ?_, c.stab _ _ _ i2, by rw [hls, List.length_append]; simp; omega, mid' ++ Ky.cells ks[j], ?_, ?_⟩
        · show [MV.v _, MV.v _] = _
          rw [hls, List.length_append]; rfl
        · rw [hls, List.length_append, List.length_append, kyLen]
          rw [List.length_append, hm3] at hmid
          simp only [List.length_singleton]; omega
        · rw [hls, Hp.set_same, List.flatMap_append]
          simp only [List.append_assoc]
          rfl
    · obtain rfl : j = ks.length := by omega
      have hfl : left p ks ks.length = ks.filter (fun k => !p k) := by unfold left; rw [List.take_length]
      rw [hfl] at hb' hmid hlt
      rw [List.drop_length, List.flatMap_nil, List.nil_append] at hb'
      conv => whnf
      rw [hfl]
      obtain ⟨Z, hZ, hclr⟩ := clrH_at (P := Try.prog) (t := 53) (e := 58) (z := .agg #[.int .i64 0, .int .u64 0, .int .i64 0]) (n := ks.length - (ks.filter (fun k => !p k)).length) (c := cap - (ks.filter (fun k => !p k)).length) (by kernel_rfl) (by kernel_rfl) rfl hb' (flat_length kyLen _) hmid (by omega)
      first | refine need_intro (by omega) ?_ | refine must.mk (by omega) ?_
      conv => whnf
      refine bsel_false ?_ ?_
      · rw [decide_eq_false_iff_not]; omega
      conv => whnf
      refine io_intro (by
        show clrH Try.prog 53 h' (.slice (some ((⟨b, 0, none⟩ : Addr).add ((ks.filter (fun k => !p k)).length * 3))) (ks.length - (ks.filter (fun k => !p k)).length) (cap - (ks.filter (fun k => !p k)).length)) = _
        rw [addr_add, Nat.zero_add]; exact hclr) (fun h6 at6 ot6 => ?_)
      conv => whnf
      first | refine need_intro (by omega) ?_ | refine must.mk (by omega) ?_
      conv => whnf
      refine bsel_false ?_ ?_
      · rw [decide_eq_false_iff_not]; omega
      conv => whnf
      have e6 : h6 = h'.set b (rowO 58 ((ks.filter (fun k => !p k)).flatMap Ky.cells ++ (Z ++ rest))) := by
        funext x
        by_cases hx : x = b
        · subst hx; rw [at6, Hp.set_same]
        · rw [ot6 x hx, Hp.set_other _ _ hx]
      refine hk _ _ (by rw [e6]; exact c.stab _ _ _ hinv) ⟨flat_length kyLen _, .inr ⟨b, cap, Z ++ rest, rfl, rfl, by omega, ?_, at6⟩⟩
      rw [List.length_append, hZ, hmid, hr, ← Nat.add_mul]
      congr 1; omega
set_option maxHeartbeats 4000000 in
set_option maxRecDepth 10000 in
theorem cloneK_x (a : Addr) (ks : List Ky) (n cap : Nat) (hkn : ks.length = n) (h : Hp) (K : Value → Hp → Prop) (hl : n ≤ 2 ^ 30)
    (hx : ∀ j v, (ks.flatMap Ky.cells)[j]? = some v → h.cell? (a.add j) = some v)
    (hk : ∀ s h' b, h.le h' → h b = none → Gr h' 58 3 s ks.length (ks.flatMap Ky.cells) (some b) → K s h') : X Try.prog 22 #[.slice (some a) n cap] h K := by
  subst hkn
  refine fnv (args := _) mixed [] [] [] Try.func22 rfl (by kernel_rfl) ?_
  conv => whnf
  intro b hb
  conv => whnf
  have hle := Hp.le_set (o := rowO 58 []) hb
  refine appMany (t := 53) (e := 58) (i := Try.prog.types[58]) (z := .agg #[.int .i64 0, .int .u64 0, .int .i64 0]) (size := 3) (bytes := 24) (by kernel_rfl) (by kernel_rfl) (by kernel_rfl) (by kernel_rfl) (by kernel_rfl) rfl (by decide)
    (h := h.set b (rowO 58 [])) (cs := []) (n := 0) (ob := some b) (base := some a) rfl rfl rfl ⟨rfl, .inr ⟨b, 0, [], rfl, rfl, Nat.le_refl _, rfl, Hp.set_same _ _ _⟩⟩ (flat_length kyLen _) (fun j v hj => ⟨a, rfl, cell_le hle (hx j v hj)⟩) (fun hh => by cases hh) ?_ (by omega) (fun s' h' ob' hg ht => ?_)
  · rw [List.all_eq_true]
    intro v hv
    obtain ⟨k, _, hv⟩ := List.mem_flatMap.1 hv
    simp only [Ky.cells, List.mem_cons, List.not_mem_nil, or_false] at hv
    rcases hv with rfl | rfl | rfl <;> rfl
  · have ht2 := ht.le hle fun c hc => by cases hc; exact hb
    conv => whnf
    rw [Nat.zero_add, List.nil_append] at hg
    obtain ⟨b', hb'⟩ : ∃ b', ob' = some b' := by
      rcases ht with ⟨_, rfl⟩ | ⟨b', _, rfl, _⟩
      · exact ⟨b, rfl⟩
      · exact ⟨b', rfl⟩
    subst hb'
    exact hk s' h' b' ht2.1 (ht2.2 b' rfl) hg
end Go.Proofs.Yteapmakpbmmleaa
