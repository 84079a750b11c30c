/-
  Scripts that are read: what was deferred.
-/
import Derived.Test.YtjipfibbkmmfbaaGreatDoorSpZ
import Derived.Test.YtjipfibbkmmfbaaGreatDoorMidUc
/-! Scripts that are read: what was deferred. -/
namespace Go.Proofs.YtjipfibbkmmfbaaGreatDoor
set_option linter.unusedSimpArgs false
set_option linter.unusedVariables false
open Go Go.Mid Go.RowKit
attribute [local irreducible] mid
theorem lay_rng {c : Cf} {s s' : St} {l : Ln} {n : Int} (h : layK c s l n = some s') (hl : l.n ≤ 9223372036854775807) (hs : ∀ x ∈ s.L, x.n ≤ 9223372036854775807) : ∀ x ∈ s'.L, x.n ≤ 9223372036854775807 := by
  unfold layK at h
  split at h
  · cases h
    intro x hx
    rcases List.mem_append.1 hx with hx | hx
    · exact hs x hx
    · rw [(List.mem_replicate.1 hx).2]; exact hl
  · cases h
theorem one_rng {c : Cf} {s s' : St} {wh : Int} {r : List Str} (h : oneK c s wh r = some s') (hs : ∀ x ∈ s.L, x.n ≤ 9223372036854775807) : ∀ x ∈ s'.L, x.n ≤ 9223372036854775807 := by
  unfold oneK at h
  split at h
  · rename_i a
    cases hn : numK a with
    | none => rw [hn] at h; cases h
    | some n => rw [hn] at h; exact lay_rng h (numK_rng hn).2 hs
  · cases h
theorem step_rng {c : Cf} {s s' : St} {w : Str} {r : List Str} (h : stepK c s (w :: r) = some s') (hs : ∀ x ∈ s.L, x.n ≤ 9223372036854775807) : ∀ x ∈ s'.L, x.n ≤ 9223372036854775807 := by
  rw [stepK_cons] at h
  split at h
  · split at h
    · cases h
    · unfold atK at h
      split at h
      · rename_i a b
        cases hn : numK a with
        | none => rw [hn] at h; cases h
        | some n =>
          cases hb : rawK b with
          | none => rw [hn, Option.bind_some, hb] at h; cases h
          | some y =>
            rw [hn, Option.bind_some, hb, Option.bind_some] at h
            split at h
            · cases h; exact hs
            · cases h
      · cases h
  split at h
  · unfold pickK at h
    split at h
    · rename_i a b
      cases hn : numK a with
      | none => rw [hn] at h; cases h
      | some i =>
        cases hb : numK b with
        | none => rw [hn, Option.bind_some, hb] at h; cases h
        | some n =>
          rw [hn, Option.bind_some, hb, Option.bind_some] at h
          split at h
          · cases h
          · exact lay_rng h (numK_rng hn).2 hs
    · cases h
  split at h
  · exact one_rng h hs
  split at h
  · exact one_rng h hs
  split at h
  · unfold wireK at h
    split at h
    · rename_i a b
      cases hn : numK a with
      | none => rw [hn] at h; cases h
      | some n =>
        rw [hn, Option.bind_some] at h
        split at h
        · exact lay_rng h (numK_rng hn).2 hs
        · split at h
          · exact lay_rng h (numK_rng hn).2 hs
          · cases h
    · cases h
  · cases h
theorem restK_step {c : Cf} {f : Nat} {s : St} {t : Str} (h : t ≠ []) : restK c (f + 1) s t = (nextK c s t).bind fun s' => restK c f s' (t.drop ((lineA t).length + 1)) := by
  conv => lhs; unfold restK
  rw [if_neg h]
  unfold nextK
  split <;> rfl
theorem restK_end {c : Cf} {f : Nat} {s : St} : restK c f s [] = some s := by
  cases f <;> (unfold restK; rw [if_pos rfl])
section
set_option maxHeartbeats 8000000
set_option maxRecDepth 10000
variable {k h : Hp} {K : FrameMode → Hp → Prop}
def sc0 : List Value := [zv 0, zv 0, zv 0, zv 0, zv 0, zv 0, zv 0, zv 0, zv 0, zv 0, zv 0, zv 0, .slice none 0 0, .slice none 0 0]
theorem sizSc : sizeT Tryz.prog 28 = some 14 := by kernel_rfl
theorem sizEr : sizeT Tryz.prog 31 = some 1 := by kernel_rfl
theorem aggRp : isAggT Tryz.prog 61 = some false := by kernel_rfl
theorem sparse1_ret {a b c d : Addr} (hk : K .returning h) : XD Tryz.prog 16 #[.pointer (some a), .pointer (some b), .pointer (some c), .pointer (some d)] .returning h K := by
  refine xd_of mixed [(5, 5), (23, 5)] [] [] [] Tryz.func16 rfl (by kernel_rfl) (by kernel_rfl) ?_
  conv => whnf
  exact hk
theorem sparse1_pan {p br a b c : Nat} {x : Rx} {n : Int} {sP sL : Value} {xl : List Value} {nv ev : Value} {e : Int} {r : List PanicEntry} (hab : a ≠ b) (hac : a ≠ c) (hbc : b ≠ c) (hp : h p = some (rowO 61 [.pointer (some ⟨br, 0, none⟩)])) (hr : h br = some (rowO rdrT (x.cs n sP sL)))
    (ha : h a = some (rowO 28 xl)) (hb : h b = some (rowO 3 [nv])) (hc : h c = some (rowO 31 [ev])) (hxs : xl.length = 14)
    (hk : ∀ h', h' a = some (rowO 28 sc0) → h' b = some (rowO 3 [zv n]) → h' c = some (rowO 31 [zv e]) → (∀ d, d ≠ a → d ≠ b → d ≠ c → h' d = h d) → K (.panicking ({ v := stopK e, recovered := true } :: r)) h') : XD Tryz.prog 16 #[.pointer (some ⟨p, 0, none⟩), .pointer (some ⟨a, 0, none⟩), .pointer (some ⟨b, 0, none⟩), .pointer (some ⟨c, 0, none⟩)] (.panicking ({ v := stopK e, recovered := false } :: r)) h K := by
  refine xd_of mixed [(5, 5), (23, 5)] [] [] [] Tryz.func16 rfl (by kernel_rfl) (by kernel_rfl) ?_
  conv => whnf
  refine sem_ta (v := .agg #[.int .i64 e]) Tryz.underlying65 (fun _ hh => by cases hh) rfl rfl ?_
  conv => whnf
  refine ⟨_, loadC0 aggRp hp rfl, ?_⟩; conv => whnf
  refine ⟨_, loadC (i := 1) aggi hr rfl, ?_⟩; conv => whnf
  refine wr_intro (by exact storeA0 sizSc ha hxs (by kernel_rfl) (by kernel_rfl)) (fun h1 at_h1 ot_h1 => ?_)
  try (conv => whnf)
  refine ⟨trivial, ?_⟩; conv => whnf
  have hb1 : h1 b = some (rowO 3 [nv]) := (ot_h1 _ (Ne.symm hab)).trans hb
  have hc1 : h1 c = some (rowO 31 [ev]) := (ot_h1 _ (Ne.symm hac)).trans hc
  conv => whnf
  refine wr_intro (by exact storeC0 sizi hb1 (show (0 : Nat) < 1 by decide) rfl rfl) (fun h2 at_h2 ot_h2 => ?_)
  try (conv => whnf)
  refine ⟨trivial, ?_⟩; conv => whnf
  have hc2 : h2 c = some (rowO 31 [ev]) := (ot_h2 _ (Ne.symm hbc)).trans hc1
  conv => whnf
  refine wr_intro (by exact storeC0 sizEr hc2 (show (0 : Nat) < 1 by decide) rfl rfl) (fun h3 at_h3 ot_h3 => ?_)
  try (conv => whnf)
  refine ⟨trivial, ?_⟩; conv => whnf
  exact hk h3 ((ot_h3 _ hac).trans ((ot_h2 _ hab).trans at_h1)) ((ot_h3 _ hbc).trans at_h2) at_h3 fun d h4 h5 h6 => by rw [ot_h3 d h6, ot_h2 d h5, ot_h1 d h4]
/-- It returns: what was deferred recovers nothing. -/
theorem sdl_ret {a b c d : Nat} {args : Array Value} {KK : FrameMode → Hp → Prop} (ea : args = #[.pointer (some ⟨a, 0, none⟩), .pointer (some ⟨b, 0, none⟩), .pointer (some ⟨c, 0, none⟩), .pointer (some ⟨d, 0, none⟩)]) (hk : KK .returning h) :
    callable Tryz.prog 16 = true ∧ XD Tryz.prog 16 args .returning h fun u' h' => settle u' ≠ .run ∧ KK (settle u') h' :=
  ⟨by kernel_rfl, XD.arg ea (sparse1_ret ⟨settle_ret, hk⟩)⟩
/-- It panics with a stop: that is recovered. -/
theorem sdl_pan {p br a b c : Nat} {x : Rx} {n : Int} {sP sL : Value} {xl : List Value} {nv ev : Value} {e : Int} {args : Array Value} {KK : FrameMode → Hp → Prop} (ea : args = #[.pointer (some ⟨p, 0, none⟩), .pointer (some ⟨a, 0, none⟩), .pointer (some ⟨b, 0, none⟩), .pointer (some ⟨c, 0, none⟩)]) (hab : a ≠ b) (hac : a ≠ c) (hbc : b ≠ c) (hp : h p = some (rowO 61 [.pointer (some ⟨br, 0, none⟩)])) (hr : h br = some (rowO rdrT (x.cs n sP sL)))
    (ha : h a = some (rowO 28 xl)) (hb : h b = some (rowO 3 [nv])) (hc : h c = some (rowO 31 [ev])) (hxs : xl.length = 14)
    (hk : ∀ h', h' a = some (rowO 28 sc0) → h' b = some (rowO 3 [zv n]) → h' c = some (rowO 31 [zv e]) → (∀ d, d ≠ a → d ≠ b → d ≠ c → h' d = h d) → KK .returning h') :
    callable Tryz.prog 16 = true ∧ XD Tryz.prog 16 args (.panicking [{ v := stopK e, recovered := false }]) h fun u' h' => settle u' ≠ .run ∧ KK (settle u') h' :=
  ⟨by kernel_rfl, XD.arg ea (sparse1_pan (r := []) hab hac hbc hp hr ha hb hc hxs fun h' a1 b1 c1 o1 => by
    rw [settle_rec (v := stopK e) (r := []) rfl]
    exact ⟨by simp, hk h' a1 b1 c1 o1⟩)⟩
end
end Go.Proofs.YtjipfibbkmmfbaaGreatDoor
/-! Scripts that are read: the script of any text. -/
namespace Go.Proofs.YtjipfibbkmmfbaaGreatDoor
set_option linter.unusedSimpArgs false
set_option linter.unusedVariables false
open Go Go.Mid Go.RowKit
attribute [local irreducible] mid
/-- A row of another kind is turned. -/
theorem RdrW.off {k h h' : Hp} {b m : Nat} {x : Rx} {n : Int} {sP sL : Value} {oP oL : Option Nat} {el : TypeId} {l : List Value} (w : RdrW k h b x n sP sL oP oL) (hm : h m = some (rowO el l)) (km : k m = none) (h1 : el ≠ rdrT) (h2 : el ≠ ptT) (h3 : el ≠ lnT) (h4 : el ≠ 5) (o : ∀ c, c ≠ m → h' c = h c) : RdrW k h' b x n sP sL oP oL :=
  ⟨fun c y hc => by rw [o c fun e => by subst e; rw [km] at hc; cases hc]; exact w.le _ _ hc, (o b (rowNe w.row hm (Ne.symm h1))).trans w.row, w.kb, w.gP.agree fun c hc => o c (w.gP.offR hm (Ne.symm h2) c hc), w.gL.agree fun c hc => o c (w.gL.offR hm (Ne.symm h3) c hc), w.nP, w.nL, fun p hp => ⟨(w.ok p hp).1.agree hm h4 o, (w.ok p hp).2⟩⟩
theorem cfK_right {ws : List Str} {c : Cf} (h : cfK ws = some c) : c.right := by
  unfold cfK at h
  split at h
  · split at h
    · simp only [Option.bind_eq_some_iff] at h
      obtain ⟨a, _, b, _, d, _, e, _, h⟩ := h
      split at h
      · rename_i hr; cases h; exact (rightB_iff _).1 hr
      · cases h
    · cases h
  · cases h
section
set_option maxHeartbeats 8000000
set_option maxRecDepth 10000
variable {h : Hp} {K : Value → Hp → Prop} {E : List PanicEntry → Hp → Prop}
theorem aggRd : isAggT Tryz.prog 63 = some true := by kernel_rfl
theorem aggEr : isAggT Tryz.prog 31 = some false := by kernel_rfl
def rx0 (t : Str) : Rx := ⟨t, ⟨0, 0, 0, 0⟩, Bu.of [], [], [], false⟩
theorem sparse_x (hmx : Mx h) (hk0 : Er h) (hp : Pow h) (t : Str) (ht : t.length ≤ 2 ^ 28)
    (hn : parseK t = none → ∀ h' n e, h.le h' → e ≠ 0 → K (.tuple #[.agg sc0.toArray, zv n, zv e]) h')
    (hy : ∀ (x : Rx) sP sL h', parseK t = some (x.c, x.u, x.st) → h.le h' → Sc.ok ptT h' ⟨x.c, x.u, sP, x.P, sL, x.L⟩ → K (.tuple #[Sc.v ⟨x.c, x.u, sP, x.P, sL, x.L⟩, zv 0, zv 0]) h') : XE Tryz.prog 7 #[sv t] h K E := by
  refine fnd (args := _) mixed [] [] [] [(999998, [3, 4, 6])] Tryz.func7 rfl (by kernel_rfl) ?_; conv => whnf
  refine new_intro (o := rowO 28 sc0) (fun ba h1 n_ba le_ba at_ba ot_ba => ?_); conv => whnf
  refine new_intro (o := rowO 3 [zv 0]) (fun bb h2 n_bb le_bb at_bb ot_bb => ?_); conv => whnf
  refine new_intro (o := rowO 31 [zv 0]) (fun bc h3 n_bc le_bc at_bc ot_bc => ?_); conv => whnf
  refine big_by (v := .agg ((rx0 t).cs 0 (.slice none 0 0) (.slice none 0 0)).toArray) (by kernel_rfl) ?_
  conv => whnf
  refine new_intro (o := rowO rdrT ((rx0 t).cs 0 (.slice none 0 0) (.slice none 0 0))) (fun br h4 n_br le_br at_br ot_br => ?_); conv => whnf
  refine new_intro (o := rowO 61 [.pointer none]) (fun bp h5 n_bp le_bp at_bp ot_bp => ?_); conv => whnf
  refine wr_intro (by exact storeC0 (show sizeT Tryz.prog 61 = some 1 by kernel_rfl) at_bp (show (0 : Nat) < 1 by decide) rfl rfl) (fun h6 at_h6 ot_h6 => ?_)
  try (conv => whnf)
  refine ⟨rfl, ?_⟩
  have n3 : ∀ c o, h c = some o → c ≠ ba ∧ c ≠ bb ∧ c ≠ bc := fun c o hc => ⟨Hp.ne n_ba hc, Hp.ne n_bb (le_ba _ _ hc), Hp.ne n_bc (le_bb _ _ (le_ba _ _ hc))⟩
  have n3bp : h3 bp = none := Hp.none_le le_br n_bp
  have dbr : br ≠ bp := Hp.ne n_bp at_br
  obtain ⟨k, hkd⟩ : ∃ k : Hp, k = h3.set bp (rowO 61 [.pointer (some ⟨br, 0, none⟩)]) := ⟨_, rfl⟩
  have l3k : h3.le k := by rw [hkd]; exact Hp.le_set n3bp
  have lhk : h.le k := Hp.le_trans (Hp.le_trans le_ba (Hp.le_trans le_bb le_bc)) l3k
  have kp : k bp = some (rowO 61 [.pointer (some ⟨br, 0, none⟩)]) := by rw [hkd, Hp.set_same]
  have ka : k ba = some (rowO 28 sc0) := l3k _ _ (le_bc _ _ (le_bb _ _ at_ba))
  have kb : k bb = some (rowO 3 [zv 0]) := l3k _ _ (le_bc _ _ at_bb)
  have kc : k bc = some (rowO 31 [zv 0]) := l3k _ _ at_bc
  have kbr : k br = none := by rw [hkd, Hp.set_other _ _ dbr]; exact n_br
  have hab : ba ≠ bb := rowNe ka kb (by decide)
  have hac : ba ≠ bc := rowNe ka kc (by decide)
  have hbc : bb ≠ bc := rowNe kb kc (by decide)
  have lk6 : k.le h6 := by
    rw [hkd]
    intro c o hc
    by_cases e : c = bp
    · subst e; rw [Hp.set_same] at hc; cases hc; exact at_h6
    · rw [Hp.set_other _ _ e] at hc
      rw [ot_h6 c e]
      exact le_bp _ _ (le_br _ _ hc)
  have hR : Rdr k h6 br (rx0 t) := ⟨0, .slice none 0 0, .slice none 0 0, none, none, lk6, (ot_h6 br dbr).trans (le_bp _ _ at_br), kbr, Gr.nil, Gr.nil, fun c e => (by cases e), fun c e => (by cases e), fun p hp => (by cases hp)⟩
  have hle : ∀ hz hz' : Hp, k.le hz → (∀ d, d ≠ ba → d ≠ bb → d ≠ bc → hz' d = hz d) → h.le hz' := fun hz hz' hl ho c o hc => by
    obtain ⟨m1, m2, m3⟩ := n3 c o hc
    rw [ho c m1 m2 m3]
    exact hl _ _ (lhk _ _ hc)
  clear hkd l3k n3bp at_h6 ot_h6 at_bp le_bp n_bp at_br le_br n_br at_bc le_bc n_bc at_bb le_bb n_bb at_ba le_ba n_ba ot_ba ot_bb ot_bc ot_br ot_bp
  have hpar : parseK t = if (10 : UInt8) ∈ t then (cfK (sp [32] (lineA t))).bind fun c =>
    if (10 : UInt8) ∈ t.drop ((lineA t).length + 1) then (buK c (sp [32] (lineA (t.drop ((lineA t).length + 1))))).bind fun u =>
      (restK c ((t.drop ((lineA t).length + 1)).drop ((lineA (t.drop ((lineA t).length + 1))).length + 1)).length ⟨[], [], false⟩ ((t.drop ((lineA t).length + 1)).drop ((lineA (t.drop ((lineA t).length + 1))).length + 1))).map fun s => (c, u, s)
    else none
  else none := rfl
  conv => whnf
  refine ⟨_, loadC0 aggRp (hR.le _ _ kp) rfl, ?_⟩; conv => whnf
  refine machine_x (hmx.le lhk) (hk0.le lhk) (hp.le lhk) hR ht (fun c h7 m1 m2 hR7 => ?_) (fun hno e xz hz EZ RZ => ?_)
  rotate_left
  · have NONE : parseK t = none := by
      rw [hpar]
      rcases hno with hno | hno
      · have hno : (10 : UInt8) ∉ t := hno
        rw [if_neg hno]
      · have hno : cfK (sp [32] (lineA t)) = none := hno
        rw [hno]; split <;> rfl
    obtain ⟨nz, sPz, sLz, oPz, oLz, wz⟩ := RZ
    refine sdl_pan rfl hab hac hbc (wz.le _ _ kp) wz.row (wz.le _ _ ka) (wz.le _ _ kb) (wz.le _ _ kc) rfl fun hf a1 b1 c1 o1 => ?_
    conv => whnf
    refine ⟨_, loadA0 aggT sizSc a1 rfl, ?_⟩; conv => whnf
    refine ⟨_, loadC0 aggi b1 rfl, ?_⟩; conv => whnf
    refine ⟨_, loadC0 aggEr c1 rfl, ?_⟩; conv => whnf
    exact hn NONE hf _ _ (hle _ hf wz.le o1) EZ
  have m1 : (10 : UInt8) ∈ t := m1
  have m2 : cfK (sp [32] (lineA t)) = some c := m2
  rw [if_pos m1, m2, Option.bind_some] at hpar
  have hcr := cfK_right m2
  have ht7 : (t.drop ((lineA t).length + 1)).length ≤ 2 ^ 28 := Nat.le_trans (by rw [List.length_drop]; omega) ht
  have hR7 : Rdr k h7 br ⟨t.drop ((lineA t).length + 1), c, Bu.of [], [], [], false⟩ := hR7
  clear hR m2
  generalize t.drop ((lineA t).length + 1) = t1 at hR7 ht7 hpar
  conv => whnf
  refine ⟨_, loadC0 aggRp (hR7.le _ _ kp) rfl, ?_⟩; conv => whnf
  refine budget_x (hmx.le lhk) (hk0.le lhk) (hp.le lhk) hR7 ht7 hcr rfl (fun u h8 m3 m4 hR8 => ?_) (fun hno e xz hz EZ RZ => ?_)
  rotate_left
  · have NONE : parseK t = none := by
      rw [hpar]
      rcases hno with hno | hno
      · have hno : (10 : UInt8) ∉ t1 := hno
        rw [if_neg hno]
      · have hno : buK c (sp [32] (lineA t1)) = none := hno
        rw [hno]; split <;> rfl
    obtain ⟨nz, sPz, sLz, oPz, oLz, wz⟩ := RZ
    refine sdl_pan rfl hab hac hbc (wz.le _ _ kp) wz.row (wz.le _ _ ka) (wz.le _ _ kb) (wz.le _ _ kc) rfl fun hf a1 b1 c1 o1 => ?_
    conv => whnf
    refine ⟨_, loadA0 aggT sizSc a1 rfl, ?_⟩; conv => whnf
    refine ⟨_, loadC0 aggi b1 rfl, ?_⟩; conv => whnf
    refine ⟨_, loadC0 aggEr c1 rfl, ?_⟩; conv => whnf
    exact hn NONE hf _ _ (hle _ hf wz.le o1) EZ
  have m3 : (10 : UInt8) ∈ t1 := m3
  have m4 : buK c (sp [32] (lineA t1)) = some u := m4
  rw [if_pos m3, m4, Option.bind_some] at hpar
  have ht8 : (t1.drop ((lineA t1).length + 1)).length ≤ 2 ^ 28 := Nat.le_trans (by rw [List.length_drop]; omega) ht7
  have hR8 : Rdr k h8 br ⟨t1.drop ((lineA t1).length + 1), c, u, [], [], false⟩ := hR8
  clear hR7 m4
  generalize t1.drop ((lineA t1).length + 1) = t2 at hR8 ht8 hpar
  conv => whnf
  refine loop_at [] [] (fun q vs cs h' => ∃ (x : Rx) (f : Nat), x.c = c ∧ x.u = u ∧ q = x.t.length ∧ vs = [] ∧ x.t.length ≤ 2 ^ 28 ∧ x.t.length ≤ f ∧ x.st.inv c ∧ (∀ l ∈ x.L, l.n ≤ 9223372036854775807) ∧ Rdr k h' br x ∧ parseK t = (restK c f x.st x.t).map fun s => (c, u, s)) t2.length ⟨⟨t2, c, u, [], [], false⟩, t2.length, rfl, rfl, rfl, rfl, ht8, Nat.le_refl _, ⟨fun _ => rfl, Nat.zero_le _, fun p hp => (by cases hp), Nat.zero_le _, fun l hl => (by cases hl)⟩, fun l hl => (by cases hl), hR8, hpar⟩ ?_
  clear hR8 hpar ht8
  rintro q vs cs mm bx h9 ⟨x, f, xc, xu, rfl, rfl, hxt, hxf, hin, hrng, hR9, hpar⟩
  conv => whnf
  refine ⟨_, loadC0 aggRp (hR9.le _ _ kp) rfl, ?_⟩; conv => whnf
  obtain ⟨n9, sP9, sL9, oP9, oL9, w9⟩ := id hR9
  obtain ⟨pa9, pc9, rfl⟩ := w9.gP.shape
  obtain ⟨la9, lc9, rfl⟩ := w9.gL.shape
  refine ⟨_, loadC0 aggStr w9.row rfl, ?_⟩; conv => whnf
  by_cases ht0 : x.t = []
  · rw [ht0, restK_end] at hpar
    have hpar : parseK t = some (x.c, x.u, x.st) := by rw [hpar, xc, xu]; rfl
    refine seq_true (ht0) ?_; conv => whnf
    refine ⟨_, loadC0 aggRp (hR9.le _ _ kp) rfl, ?_⟩; conv => whnf
    refine ⟨_, loadPA (k := 2) (x := Sc.cs ⟨x.c, x.u, .slice pa9 x.P.length pc9, x.P, .slice la9 x.L.length lc9, x.L⟩) rfl aggT sizSc w9.row rfl rfl, ?_⟩; conv => whnf
    have nba : k ba ≠ none := by rw [ka]; simp
    have ha9 := hR9.le _ _ ka
    have hb9 := hR9.le _ _ kb
    have hc9 := hR9.le _ _ kc
    refine wr_intro (by exact storeA0 sizSc ha9 rfl rfl rfl) (fun ha at_ha ot_ha => ?_)
    try (conv => whnf)
    refine wr_intro (by exact storeC0 sizi ((ot_ha _ (Ne.symm hab)).trans hb9) (show (0 : Nat) < 1 by decide) rfl rfl) (fun hb at_hb ot_hb => ?_)
    try (conv => whnf)
    have hcb : hb bc = some (rowO 31 [zv 0]) := (ot_hb _ (Ne.symm hbc)).trans ((ot_ha _ (Ne.symm hac)).trans hc9)
    refine wr_intro (by exact storeC0 sizEr hcb (show (0 : Nat) < 1 by decide) rfl rfl) (fun hc at_hc ot_hc => ?_)
    try (conv => whnf)
    have fa : hc ba = some (rowO 28 (Sc.cs ⟨x.c, x.u, .slice pa9 x.P.length pc9, x.P, .slice la9 x.L.length lc9, x.L⟩)) := (ot_hc _ hac).trans ((ot_hb _ hab).trans at_ha)
    have fb : hc bb = some (rowO 3 [zv 0]) := (ot_hc _ hbc).trans at_hb
    have fc : hc bc = some (rowO 31 [zv 0]) := at_hc
    refine sdl_ret rfl ?_
    conv => whnf
    refine ⟨_, loadA0 aggT sizSc fa rfl, ?_⟩; conv => whnf
    refine ⟨_, loadC0 aggi fb rfl, ?_⟩; conv => whnf
    refine ⟨_, loadC0 aggEr fc rfl, ?_⟩; conv => whnf
    have fo : ∀ d, d ≠ ba → d ≠ bb → d ≠ bc → hc d = h9 d := fun d d1 d2 d3 => by rw [ot_hc d d3, ot_hb d d2, ot_ha d d1]
    have hz : ∀ c, (c = ba ∨ c = bb ∨ c = bc) → h c = none := fun c e => by
      cases hh : h c with
      | none => rfl
      | some o => obtain ⟨m1, m2, m3⟩ := n3 c o hh; rcases e with e | e | e <;> first | exact absurd e m1 | exact absurd e m2 | exact absurd e m3
    have wa := (w9.weak lhk).off ha9 (hz ba (by simp)) (by decide) (by decide) (by decide) (by decide) ot_ha
    have wb := wa.off ((ot_ha _ (Ne.symm hab)).trans hb9) (hz bb (by simp)) (by decide) (by decide) (by decide) (by decide) ot_hb
    have wc := wb.off hcb (hz bc (by simp)) (by decide) (by decide) (by decide) (by decide) ot_hc
    have hok := wc.sc (by rw [xc]; exact hcr) (Nat.le_trans (by have := hin.lenP; simpa [Rx.st] using this) (by decide)) (Nat.le_trans hin.lenL (by decide)) fun l hl => ⟨by have := line_rng ((rightB_iff c).2 hcr) (hin.okL l hl); omega, hrng l hl⟩
    exact hy x _ _ hc hpar (hle _ _ hR9.le fo) hok
  obtain ⟨f', rfl⟩ : ∃ f', f = f' + 1 := ⟨f - 1, by have := List.length_pos_iff.2 ht0; omega⟩
  rw [restK_step ht0] at hpar
  refine seq_false (ht0) ?_; conv => whnf
  refine ⟨_, loadC0 aggRp (hR9.le _ _ kp) rfl, ?_⟩; conv => whnf
  refine rest_x (hmx.le lhk) (hk0.le lhk) (hp.le lhk) hR9 (by rw [xc]; exact hcr) (by have := hin.lenP; simpa [Rx.st] using this) hin.lenL hxt (fun x' h10 e1 e2 e3 e4 hR10 => ?_) (fun hno e xz hz EZ RZ => ?_)
  rotate_left
  · have NONE : parseK t = none := by
      rw [hpar]
      rw [xc] at hno
      rw [hno]; rfl
    obtain ⟨nz, sPz, sLz, oPz, oLz, wz⟩ := RZ
    refine sdl_pan rfl hab hac hbc (wz.le _ _ kp) wz.row (wz.le _ _ ka) (wz.le _ _ kb) (wz.le _ _ kc) rfl fun hf a1 b1 c1 o1 => ?_
    conv => whnf
    refine ⟨_, loadA0 aggT sizSc a1 rfl, ?_⟩; conv => whnf
    refine ⟨_, loadC0 aggi b1 rfl, ?_⟩; conv => whnf
    refine ⟨_, loadC0 aggEr c1 rfl, ?_⟩; conv => whnf
    exact hn NONE hf _ _ (hle _ hf wz.le o1) EZ
  rw [xc] at e1 e2
  have hst : stepK c x.st (sp [32] (lineA x.t)) = some x'.st := by
    unfold nextK at e1
    split at e1
    · exact e1
    · cases e1
  have hin' := (step_law hin hst).2
  have hrng' : ∀ l ∈ x'.L, l.n ≤ 9223372036854775807 := by
    obtain ⟨w0, r0, hsp⟩ := sp_first (lineA x.t)
    rw [hsp] at hst
    exact step_rng hst hrng
  rw [e1, Option.bind_some, ← e4] at hpar
  have hlt : x'.t.length < x.t.length := by
    have h0 := List.length_pos_iff.2 ht0
    rw [e4, List.length_drop]
    omega
  conv => whnf
  exact ⟨x'.t.length, hlt, x', f', e2, e3.trans xu, rfl, rfl, by omega, by omega, hin', hrng', hR10, hpar⟩
end
end Go.Proofs.YtjipfibbkmmfbaaGreatDoor
