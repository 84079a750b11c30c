/-
  Scripts: what is written is read as it was; and the other way round.
-/
import Derived.Test.YtjipfibbkmmfbaaGreatDoorSpW
import Derived.Test.YtjipfibbkmmfbaaGreatDoorStxC
import Derived.Test.YtjipfibbkmmfbaaGreatDoorRows
namespace Go.Proofs.YtjipfibbkmmfbaaGreatDoor
set_option linter.unusedSimpArgs false
set_option linter.unusedVariables false
open Go Go.Mid Go.RowKit
attribute [local irreducible] mid
theorem firstNZ_zero : ∀ {l : List Int}, firstNZ l = 0 → ∀ x ∈ l, x = 0
  | [], _, x, hx => by cases hx
  | y :: l, h, x, hx => by
    rw [firstNZ] at h
    split at h
    · rename_i hy; exact absurd h hy
    · rename_i hy
      rcases List.mem_cons.1 hx with rfl | hx
      · simpa using hy
      · exact firstNZ_zero h x hx
theorem firstNZ_of {l : List Int} (h : ∀ x ∈ l, x = 0) : firstNZ l = 0 := firstNZ_all l fun _ y _ hy => h y (List.mem_of_getElem? hy)
theorem check_all {s : Sc} (h : checkE s = 0) : rightB s.c = true ∧ budE s.c.a s.u = 0 ∧ s.P.length ≤ 256 ∧ (∀ p ∈ s.P, partE s.c.c p.at_ p.b.length = 0) ∧ s.L.length ≤ 60000 ∧ ∀ l ∈ s.L, lineE s.c.a l = 0 := by
  unfold checkE at h
  split at h
  · cases h
  rename_i h1
  split at h
  · rename_i h2; exact absurd h h2
  rename_i h2
  split at h
  · cases h
  rename_i h3
  split at h
  · rename_i h4; exact absurd h h4
  rename_i h4
  refine ⟨by simpa using h1, by simpa using h2, by omega, fun p hp => ?_, by omega, fun l hl => ?_⟩
  · exact firstNZ_zero (l := partsE s) (Classical.byContradiction h4) _ (List.mem_map.2 ⟨p, hp, rfl⟩)
  · exact firstNZ_zero (l := linesE s) h _ (List.mem_map.2 ⟨l, hl, rfl⟩)
theorem check_of {s : Sc} (h1 : rightB s.c = true) (h2 : budE s.c.a s.u = 0) (h3 : s.P.length ≤ 256) (h4 : ∀ p ∈ s.P, partE s.c.c p.at_ p.b.length = 0) (h5 : s.L.length ≤ 60000) (h6 : ∀ l ∈ s.L, lineE s.c.a l = 0) : checkE s = 0 := by
  unfold checkE
  rw [if_neg (by rw [h1]; decide), if_neg (by rw [h2]; decide), if_neg (by omega)]
  have e1 : firstNZ (partsE s) = 0 := firstNZ_of fun x hx => by
    obtain ⟨p, hp, rfl⟩ := List.mem_map.1 hx
    exact h4 p hp
  have e2 : firstNZ (linesE s) = 0 := firstNZ_of fun x hx => by
    obtain ⟨p, hp, rfl⟩ := List.mem_map.1 hx
    exact h6 p hp
  rw [e1, if_neg (by decide), e2]
theorem textT_K (s : Sc) (b : Bool) : textT s = textK s.c s.u ⟨s.P.map keyP, s.L, b⟩ := by
  unfold textT headT textK textR
  rw [List.append_assoc (head1 s.c ++ head2 s.c s.u)]
  congr 2
  unfold partsT partsK
  rw [List.flatMap_map]
  rfl
theorem partE_len {c : Int} {a n : Int} (h : partE c a n = 0) : n ≤ 256 := by
  unfold partE at h
  split at h
  · cases h
  · omega
section
set_option maxHeartbeats 8000000
set_option maxRecDepth 10000
variable {h : Hp} {K : Value → Hp → Prop}
theorem textT_len {s : Sc} {h : Hp} {T : TypeId} (ho : s.ok T h) (hc : checkE s = 0) : (textT s).length ≤ 2 ^ 28 := by
  obtain ⟨c1, c2, c3, c4, c5, c6⟩ := check_all hc
  have h9 := of_decide_eq_true c1
  obtain ⟨hsm, hsl⟩ := sm_budW (c := s.c) c2
  have lb : (J (sBudget :: budW s.c s.u)).length ≤ 13064 := J_len hsm (Nat.le_trans hsl (by decide))
  have lm : (J [sMachine, Lib.itoa s.c.a, Lib.itoa s.c.b, Lib.itoa s.c.c, Lib.itoa s.c.d]).length ≤ 13064 := J_len (Sm.cons (by decide) (Sm.cons (sm_itoa ho.a0 ho.a1) (Sm.cons (sm_itoa ho.b0 ho.b1) (Sm.cons (sm_itoa ho.c0 ho.c1) (Sm.cons (sm_itoa ho.d0 ho.d1) Sm.nil))))) (by simp)
  have lp := partsT_len s.P fun q hq => ⟨(ho.P q hq).at_, by have := partE_len (c4 q hq); omega⟩
  have lr := runsT_len ho.L (Nat.le_trans c5 (by decide)) s.L.length 0 (by omega)
  have lp2 : (partsT s.P).length ≤ 901 * 256 := Nat.le_trans lp (Nat.mul_le_mul_left _ c3)
  have lr2 : (runsT s.L 0).length ≤ 196 * 60000 := Nat.le_trans lr (Nat.mul_le_mul_left _ c5)
  have e1 : (head1 s.c).length ≤ 13065 := by rw [head1, List.length_append]; simp; omega
  have e2 : (head2 s.c s.u).length ≤ 13065 := by rw [head2, List.length_append]; simp; omega
  rw [textT, headT]
  simp only [List.length_append]
  omega
abbrev scZ : Sc := ⟨⟨0, 0, 0, 0⟩, ⟨0, 0, 0, 0, 0, 0, 0, 0⟩, .slice none 0 0, [], .slice none 0 0, []⟩
theorem scZ_ok : scZ.ok ptT h := ⟨by decide, by decide, by decide, by decide, by decide, by decide, by decide, by decide, Rd.nil, fun p hp => (by cases hp), by decide, Rd.nil, by decide, fun l hl => (by cases hl)⟩
theorem back_x (hmx : Mx h) (hk0 : Er h) (hp : Pow h) (s : Sc) (ho : s.ok ptT h) (t : Str) (hk : ∀ h', h.le h' → K (.bool true) h') : X Tryz.prog 3 #[s.v, sv t] h K := by
  obtain ⟨bP, cP, eP, _⟩ := ho.shapeP
  obtain ⟨bL, cL, eL, _⟩ := rdL ho.ls
  have hbz : (bs t).size = t.length := bs_size t
  obtain ⟨c, u, ps, P, ls, L⟩ := s
  simp only at eP eL
  subst eP
  subst eL
  refine fnv (args := _) mixed [(2, 2), (7, 7), (10, 10)] [] [] Tryz.func3 rfl (by kernel_rfl) ?_; conv => whnf
  refine few_x ⟨c, u, .slice bP P.length cP, P, .slice bL L.length cL, L⟩ ho ?_
  conv => whnf
  refine bsel_intro (fun q1 => ?_) (fun q1 => ?_)
  · conv => whnf
    refine live36_x hp ?_
    conv => whnf
    exact hk h (Hp.le_refl _)
  have q1 : fewB ⟨c, u, .slice bP P.length cP, P, .slice bL L.length cL, L⟩ = true := by simpa using q1
  obtain ⟨f1, f2, f3⟩ := few_spec q1
  simp only at f1 f2 f3
  conv => whnf
  rw [hbz]
  refine bsel_intro (fun q2 => ?_) (fun q2 => ?_) <;> try simp only [bsL] at q2
  · conv => whnf
    refine live36_x hp ?_
    conv => whnf
    exact hk h (Hp.le_refl _)
  have htl : t.length ≤ 2 ^ 28 := by omega
  conv => whnf
  refine text_x36 hp ⟨c, u, .slice bP P.length cP, P, .slice bL L.length cL, L⟩ ho f1 f3 (Nat.le_trans f2 (by decide)) ?_
  by_cases c0 : checkE ⟨c, u, .slice bP P.length cP, P, .slice bL L.length cL, L⟩ = 0
  rotate_left
  · rw [if_neg c0]
    generalize checkE ⟨c, u, .slice bP P.length cP, P, .slice bL L.length cL, L⟩ = ce at c0 ⊢
    conv => whnf
    refine bsel_false (by simpa using c0) ?_; conv => whnf
    have LE := Hp.le_refl h
    refine XE.noE (sparse_x (E := fun _ _ => False) (hmx.le LE) (hk0.le LE) (hp.le LE) t htl (fun _ h2 n e le2 he => ?_) (fun x sP sL h2 hpar le2 hok => ?_))
    · have le02 := Hp.le_trans LE le2
      conv => whnf
      refine bsel_true (by simpa using he) ?_; conv => whnf
      refine same_x scZ scZ scZ_ok scZ_ok ?_
      rw [show sameB scZ scZ = true by decide]
      conv => whnf
      refine live36_x (hp.le le02) ?_
      exact hk h2 le02
    · have le02 := Hp.le_trans LE le2
      obtain ⟨bP2, cP2, eP2, _⟩ := hok.shapeP
      obtain ⟨bL2, cL2, eL2, _⟩ := rdL hok.ls
      obtain ⟨t0, r1, r2, r3⟩ := parse_law hpar
      simp only at eP2 eL2
      subst eP2
      subst eL2
      have lP : x.P.length ≤ 256 := by have := r3.lenP; simpa [Rx.st] using this
      have oP : ∀ p ∈ x.P, partE x.c.c p.at_ p.b.length = 0 := fun p hp => r3.okP (keyP p) (List.mem_map.2 ⟨p, hp, rfl⟩)
      have hce : checkE ⟨x.c, x.u, .slice bP2 x.P.length cP2, x.P, .slice bL2 x.L.length cL2, x.L⟩ = 0 := check_of r1 r2 lP oP r3.lenL r3.okL
      have hte : textT ⟨x.c, x.u, .slice bP2 x.P.length cP2, x.P, .slice bL2 x.L.length cL2, x.L⟩ = t := (textT_K _ x.last).trans t0
      conv => whnf
      refine text_x36 (hp.le le02) ⟨x.c, x.u, .slice bP2 x.P.length cP2, x.P, .slice bL2 x.L.length cL2, x.L⟩ hok (Nat.le_trans lP (by decide)) (fun p hp => by have := partE_len (oP p hp); omega) r3.lenL ?_
      rw [hce, if_pos rfl, hte]
      conv => whnf
      refine seq_true (rfl) ?_; conv => whnf
      refine live36_x (hp.le le02) ?_
      conv => whnf
      exact hk h2 le02
  have htt := textT_len ho c0
  obtain ⟨c1, c2, c3, c4, c5, c6⟩ := check_all c0
  obtain ⟨b, hb⟩ := parse_back c1 c2 (P := P.map keyP) (L := L) (by rw [List.length_map]; exact c3) (fun p hp => by obtain ⟨q, hq, rfl⟩ := List.mem_map.1 hp; exact c4 q hq) c5 fun l hl => ⟨c6 l hl, (ho.L l hl).2⟩
  rw [← textT_K ⟨c, u, .slice bP P.length cP, P, .slice bL L.length cL, L⟩ b] at hb
  rw [if_pos c0, c0]
  generalize textT ⟨c, u, .slice bP P.length cP, P, .slice bL L.length cL, L⟩ = tt at hb htt ⊢
  conv => whnf
  refine XE.noE (sparse_x (E := fun _ _ => False) hmx hk0 hp tt htt (fun hno => by rw [hb] at hno; cases hno) (fun x sP sL h1 hpar le1 hok => ?_))
  obtain ⟨bP2, cP2, eP2, _⟩ := hok.shapeP
  obtain ⟨bL2, cL2, eL2, _⟩ := rdL hok.ls
  simp only at eP2 eL2
  subst eP2
  subst eL2
  rw [hb] at hpar
  have hs : sameB ⟨x.c, x.u, .slice bP2 x.P.length cP2, x.P, .slice bL2 x.L.length cL2, x.L⟩ ⟨c, u, .slice bP P.length cP, P, .slice bL L.length cL, L⟩ = true := by
    simp only [Option.some.injEq, Prod.mk.injEq, Rx.st, St.mk.injEq] at hpar
    obtain ⟨e1, e2, e3, e4, _⟩ := hpar
    exact decide_eq_true ⟨e1.symm, e2.symm, e3.symm, e4.symm⟩
  conv => whnf
  refine same_x ⟨x.c, x.u, .slice bP2 x.P.length cP2, x.P, .slice bL2 x.L.length cL2, x.L⟩ ⟨c, u, .slice bP P.length cP, P, .slice bL L.length cL, L⟩ hok (ho.le le1) ?_
  rw [hs]
  conv => whnf
  have LE := le1
  refine XE.noE (sparse_x (E := fun _ _ => False) (hmx.le LE) (hk0.le LE) (hp.le LE) t htl (fun _ h2 n e le2 he => ?_) (fun x sP sL h2 hpar le2 hok => ?_))
  · have le02 := Hp.le_trans LE le2
    conv => whnf
    refine bsel_true (by simpa using he) ?_; conv => whnf
    refine same_x scZ scZ scZ_ok scZ_ok ?_
    rw [show sameB scZ scZ = true by decide]
    conv => whnf
    refine live36_x (hp.le le02) ?_
    exact hk h2 le02
  · have le02 := Hp.le_trans LE le2
    obtain ⟨bP2, cP2, eP2, _⟩ := hok.shapeP
    obtain ⟨bL2, cL2, eL2, _⟩ := rdL hok.ls
    obtain ⟨t0, r1, r2, r3⟩ := parse_law hpar
    simp only at eP2 eL2
    subst eP2
    subst eL2
    have lP : x.P.length ≤ 256 := by have := r3.lenP; simpa [Rx.st] using this
    have oP : ∀ p ∈ x.P, partE x.c.c p.at_ p.b.length = 0 := fun p hp => r3.okP (keyP p) (List.mem_map.2 ⟨p, hp, rfl⟩)
    have hce : checkE ⟨x.c, x.u, .slice bP2 x.P.length cP2, x.P, .slice bL2 x.L.length cL2, x.L⟩ = 0 := check_of r1 r2 lP oP r3.lenL r3.okL
    have hte : textT ⟨x.c, x.u, .slice bP2 x.P.length cP2, x.P, .slice bL2 x.L.length cL2, x.L⟩ = t := (textT_K _ x.last).trans t0
    conv => whnf
    refine text_x36 (hp.le le02) ⟨x.c, x.u, .slice bP2 x.P.length cP2, x.P, .slice bL2 x.L.length cL2, x.L⟩ hok (Nat.le_trans lP (by decide)) (fun p hp => by have := partE_len (oP p hp); omega) r3.lenL ?_
    rw [hce, if_pos rfl, hte]
    conv => whnf
    refine seq_true (rfl) ?_; conv => whnf
    refine live36_x (hp.le le02) ?_
    conv => whnf
    exact hk h2 le02
theorem er_of {w : World} {l : List (String × DataW Unit)} (hL : laidMetH Tryz.prog l w) (h1 : l.filter (fun x => x.1 == "strconv.ErrSyntax") = [("strconv.ErrSyntax", .iface "*errors.errorString" (.ptr (.agg [.lit (.string [105, 110, 118, 97, 108, 105, 100, 32, 115, 121, 110, 116, 97, 120])])))]) (h2 : l.filter (fun x => x.1 == "strconv.ErrRange") = [("strconv.ErrRange", .iface "*errors.errorString" (.ptr (.agg [.lit (.string [118, 97, 108, 117, 101, 32, 111, 117, 116, 32, 111, 102, 32, 114, 97, 110, 103, 101])])))]) : Er (whole w) := by
  obtain ⟨e1, g1⟩ := sent_of hL (n := "strconv.ErrSyntax") (g := 4) h1 (by kernel_rfl) (by kernel_rfl)
  obtain ⟨e2, g2⟩ := sent_of hL (n := "strconv.ErrRange") (g := 5) h2 (by kernel_rfl) (by kernel_rfl)
  exact Er.of g1 g2
theorem sstr_of {h : Hp} {cs : List Value} (w : Wf h .str cs) : ∃ s : ByteArray, cs = [.string s] := by
  unfold Wf at w
  obtain ⟨s, e, _⟩ := w
  exact ⟨s, e⟩
theorem scriptBack_w (w : World) (hsh : w.ShapedOpen Tryz.prog) (hL : laidMetH Tryz.prog Rows.scriptBackRow.laid w) {cs0 cs1 : List Value} (w0 : Wf (whole w) shSc cs0) (l0 : cs0.length = Sh.n shSc) (w1 : Wf (whole w) .str cs1) (l1 : cs1.length = Sh.n .str) :
    X Tryz.prog 3 #[Sh.v shSc cs0, Sh.v .str cs1] (whole w) fun v h' => v = .bool true ∧ (whole w).le h' := by
  obtain ⟨s, hs, rfl⟩ := sc_of w0
  obtain ⟨b, rfl⟩ := sstr_of w1
  exact back_x (Mx.of hsh) (er_of hL (by rfl) (by rfl)) (pow_of hL (by rfl)) s hs b.data.toList fun h' hle => ⟨rfl, hle⟩
end
end Go.Proofs.YtjipfibbkmmfbaaGreatDoor
