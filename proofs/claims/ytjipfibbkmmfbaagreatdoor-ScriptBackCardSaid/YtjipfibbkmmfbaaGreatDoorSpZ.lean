/-
  Scripts that are read: lines that are laid.
-/
import Derived.Test.YtjipfibbkmmfbaaGreatDoorSpY
import Derived.Test.YtjipfibbkmmfbaaGreatDoorMidMO
/-! Scripts that are read: lines that are laid. -/
namespace Go.Proofs.YtjipfibbkmmfbaaGreatDoor
set_option linter.unusedSimpArgs false
set_option linter.unusedVariables false
open Go Go.Mid Go.RowKit
attribute [local irreducible] mid
theorem sizLs : sizeT Tryz.prog 26 = some 1 := by kernel_rfl
section
set_option maxHeartbeats 8000000
set_option maxRecDepth 10000
variable {k h : Hp} {K : Value → Hp → Prop} {E : List PanicEntry → Hp → Prop}
/-- Nothing but the script has turned. -/
structure Rx.same (x x' : Rx) : Prop where
  c : x'.c = x.c
  u : x'.u = x.u
  t : x'.t = x.t
theorem lay_x {b : Nat} {x : Rx} {l : Ln} {n : Int} (hR : Rdr k h b x) (hc : x.c.right) (hL : x.L.length ≤ 60000)
    (hk : ∀ x' h', layK x.c x.st l n = some x'.st → x.same x' → Rdr k h' b x' → K (.tuple #[]) h')
    (he : layK x.c x.st l n = none → ∀ e h', e ≠ 0 → Rdr k h' b x → E [{ v := stopK e, recovered := false }] h') : XE Tryz.prog 58 #[.pointer (some ⟨b, 0, none⟩), l.v, zv n] h K E := by
  obtain ⟨lw, ln, lo⟩ := l
  obtain ⟨n0, sP, sL, oP, oL, w⟩ := hR
  obtain ⟨sLa, sLc, rfl⟩ := w.gL.shape
  refine fnu (args := _) mixed [(4, 4)] [] [] [(999998, [1, 3])] Tryz.func58 rfl (by kernel_rfl) ?_; conv => whnf
  refine ⟨_, loadPA (k := 2) (x := x.c.cs) rfl aggC sizC w.row rfl rfl, ?_⟩; conv => whnf
  refine X.toE (line_x36 x.c hc ⟨lw, ln, lo⟩ ?_)
  refine ⟨trivial, ?_⟩; conv => whnf
  refine mustK_x _ (fun h0 => ?_) (fun h0 => ?_)
  rotate_left
  · exact he (by unfold layK; exact if_neg fun hh => h0 hh.1) _ h h0 ⟨_, _, _, _, _, w⟩
  refine ⟨trivial, ?_⟩; conv => whnf
  refine ⟨_, loadCA (k := 15) rfl aggS w.row rfl, ?_⟩; conv => whnf
  (first | refine ov_c (by simp only [loK, hiK]; omega) ?_ | refine ov_c (by decide) ?_); conv => whnf
  refine bsel_intro (fun q1 => ?_) (fun q1 => ?_) <;> try simp only [bsL] at q1
  · conv => whnf
    refine failK_x 4 ?_
    exact he (by unfold layK; exact if_neg fun hh => by have := hh.2; simp only [Rx.st] at this; omega) _ h (by decide) ⟨_, _, _, _, _, w⟩
  have hlay : layK x.c x.st ⟨lw, ln, lo⟩ n = some ⟨x.st.P, x.L ++ List.replicate n.toNat ⟨lw, ln, lo⟩, true⟩ := by
    unfold layK
    have hc2 : lineE x.c.a ⟨lw, ln, lo⟩ = 0 ∧ n ≤ 60000 - (x.st.L.length : Int) := ⟨h0, by simp only [Rx.st]; omega⟩
    rw [if_pos hc2]
    rfl
  have hRd : Rdr k h b x := ⟨_, _, _, _, _, w⟩
  clear w
  conv => whnf
  refine loop_at [25] [4] (fun r vs cs h' => ∃ i : Nat, i ≤ n.toNat ∧ r = n.toNat - i ∧ vs = [.v (zv i)] ∧ cs = [some [zv lw, zv ln, .bool lo]] ∧ Rdr k h' b { x with L := x.L ++ List.replicate i ⟨lw, ln, lo⟩ }) n.toNat ⟨0, by omega, by omega, rfl, rfl, by simpa using hRd⟩ ?_
  clear hRd
  rintro r vs cs mm bx h1 ⟨i, hi, rfl, rfl, rfl, n1, sP1, sL1, oP1, oL1, w⟩
  obtain ⟨sLa1, sLc1, rfl⟩ := w.gL.shape
  have hlen : (x.L ++ List.replicate i (⟨lw, ln, lo⟩ : Ln)).length = x.L.length + i := by simp
  conv => whnf
  refine bsel_intro (fun q2 => ?_) (fun q2 => ?_) <;> try simp only [bsL] at q2
  · conv => whnf
    refine ⟨_, loadCA (k := 15) rfl aggS w.row rfl, ?_⟩; conv => whnf
    refine new_intro (o := rowO 44 [zv lw, zv ln, .bool lo]) (fun z h2 n_z le_z at_z ot_z => ?_); conv => whnf
    have w2 := w.up le_z
    refine appOne (z := .agg #[zv 0, zv 0, .bool false]) (by kernel_rfl) (show Tryz.prog.info? lnT = some Tryz.prog.types[44] by kernel_rfl) (by kernel_rfl) (by kernel_rfl) (by kernel_rfl) rfl (bytes := 24) (by decide) rfl rfl rfl w2.gL at_z rfl rfl (by show (x.L ++ _).length ≤ _; omega) fun s' h3 oL' g3 t3 => ?_
    obtain ⟨sa3, sc3, rfl⟩ := g3.shape
    have r3 := (t3.keep w2.row (w2.gL.offR w2.row (by decide))).1
    refine ⟨trivial, ?_⟩; conv => whnf
    refine wr_intro (by exact storeCA (k := 15) (l' := Rx.cs { x with L := x.L ++ List.replicate i ⟨lw, ln, lo⟩ } n1 sP1 (.slice sa3 _ sc3)) rfl sizLs r3 (by rw [Rx.len]; decide) rfl rfl rfl) (fun h4 at_h4 ot_h4 => ?_)
    try (conv => whnf)
    have w4 := w2.appL (l := ⟨lw, ln, lo⟩) g3 t3 at_h4 ot_h4
    refine ⟨trivial, ?_⟩; conv => whnf
    (first | refine ov_c (by simp only [loK, hiK]; omega) ?_ | refine ov_c (by decide) ?_); conv => whnf
    have e4 : x.L ++ List.replicate (i + 1) (⟨lw, ln, lo⟩ : Ln) = (x.L ++ List.replicate i ⟨lw, ln, lo⟩) ++ [⟨lw, ln, lo⟩] := by rw [List.replicate_succ', ← List.append_assoc]
    refine ⟨n.toNat - (i + 1), by omega, i + 1, by omega, rfl, rfl, rfl, ?_⟩
    show Rdr k h4 b { x with L := x.L ++ List.replicate (i + 1) (⟨lw, ln, lo⟩ : Ln) }
    rw [e4]
    exact ⟨_, _, _, _, _, w4⟩
  · have hin : i = n.toNat := by omega
    subst hin
    conv => whnf
    refine wr_intro (by exact storeCA (k := 16) (l' := Rx.cs { x with L := x.L ++ List.replicate n.toNat ⟨lw, ln, lo⟩, last := true } n1 sP1 (.slice sLa1 _ sLc1)) rfl sizb w.row (by rw [Rx.len]; decide) rfl rfl rfl) (fun h2 at_h2 ot_h2 => ?_)
    try (conv => whnf)
    have w2 := w.st (x' := { x with L := x.L ++ List.replicate n.toNat ⟨lw, ln, lo⟩, last := true }) rfl rfl at_h2 ot_h2
    conv => whnf
    exact hk { x with L := x.L ++ List.replicate n.toNat ⟨lw, ln, lo⟩, last := true } h2 hlay ⟨rfl, rfl, rfl⟩ ⟨_, _, _, _, _, w2⟩
end
end Go.Proofs.YtjipfibbkmmfbaaGreatDoor
/-! Scripts that are read: lines of one number, of a wire, of picks. -/
namespace Go.Proofs.YtjipfibbkmmfbaaGreatDoor
set_option linter.unusedSimpArgs false
set_option linter.unusedVariables false
open Go Go.Mid Go.RowKit
attribute [local irreducible] mid
def oneK (c : Cf) (s : St) (wh : Int) : List Str → Option St
  | [a] => (numK a).bind fun n => layK c s ⟨wh, n, false⟩ 1
  | _ => none
def wireK (c : Cf) (s : St) : List Str → Option St
  | [a, b] => (numK a).bind fun n => if b = sOn then layK c s ⟨3, n, true⟩ 1 else if b = sOff then layK c s ⟨3, n, false⟩ 1 else none
  | _ => none
def pickK (c : Cf) (s : St) : List Str → Option St
  | [a, b] => (numK a).bind fun i => (numK b).bind fun n => if n < 1 ∨ s.L.getLast? = some ⟨0, i, false⟩ then none else layK c s ⟨0, i, false⟩ n
  | _ => none
def atK (c : Cf) (s : St) : List Str → Option St
  | [a, b] => (numK a).bind fun n => (rawK b).bind fun x => if partE c.c n x.length = 0 ∧ s.P.length < 256 then some ⟨s.P ++ [(n.toNat, x)], s.L, s.last⟩ else none
  | _ => none
theorem stepK_cons (c : Cf) (s : St) (w : Str) (r : List Str) : stepK c s (w :: r) = if w = sAt then (if s.last = true then none else atK c s r) else if w = sPick then pickK c s r else if w = sTick then oneK c s 1 r else if w = sInput then oneK c s 2 r else if w = sWire then wireK c s r else none := by
  rcases r with _ | ⟨a, _ | ⟨b, _ | ⟨d, r⟩⟩⟩
  · show none = _
    simp only [atK, pickK, oneK, wireK, ite_self]
  · show (if w = sTick then _ else if w = sInput then _ else none) = _
    simp only [atK, pickK, wireK, ite_self]
    by_cases h1 : w = sAt
    · rw [h1]; simp
    by_cases h2 : w = sPick
    · rw [h2]; simp
    rw [if_neg h1, if_neg h2]
    rfl
  · show (if w = sAt then _ else if w = sPick then _ else if w = sWire then _ else none) = _
    simp only [oneK]
    by_cases h1 : w = sAt
    · rw [if_pos h1, if_pos h1]; rfl
    by_cases h2 : w = sPick
    · rw [if_neg h1, if_neg h1, if_pos h2, if_pos h2]; rfl
    rw [if_neg h1, if_neg h1, if_neg h2, if_neg h2]
    by_cases h3 : w = sTick
    · rw [h3]; simp
    by_cases h4 : w = sInput
    · rw [h4]; simp
    rw [if_neg h3, if_neg h4]
    rfl
  · show none = _
    simp only [atK, pickK, oneK, wireK, ite_self]
section
set_option maxHeartbeats 8000000
set_option maxRecDepth 10000
variable {k h : Hp} {K : Value → Hp → Prop} {E : List PanicEntry → Hp → Prop}
/-- What may be the end of a line that is read: s' (nothing: it can't be). -/
def Ends (k : Hp) (b : Nat) (x : Rx) (s' : Option St) (K : Value → Hp → Prop) (E : List PanicEntry → Hp → Prop) : Prop :=
  (∀ x' h', s' = some x'.st → x.same x' → Rdr k h' b x' → K (.tuple #[]) h') ∧ (s' = none → ∀ e h', e ≠ 0 → Rdr k h' b x → E [{ v := stopK e, recovered := false }] h')
theorem one_x {b bw : Nat} {x : Rx} {w0 : Str} {r : List Str} {m : Nat} {wh : Int} (hk0 : Er k) (hp : Pow k) (hR : Rdr k h b x) (hc : x.c.right) (hL : x.L.length ≤ 60000) (hm : m = (w0 :: r).length) (hw : h bw = some (rowO 9 ((w0 :: r).map sv))) (hwl : ∀ w ∈ w0 :: r, w.length ≤ 2 ^ 28)
    (he : Ends k b x (oneK x.c x.st wh r) K E) : XE Tryz.prog 42 #[.pointer (some ⟨b, 0, none⟩), .slice (some ⟨bw, 0, none⟩) m m, zv wh] h K E := by
  obtain ⟨hk, he⟩ := he
  refine fnu (args := _) mixed [] [] [] [(999998, [0, 1])] Tryz.func42 rfl (by kernel_rfl) ?_; conv => whnf
  refine countK_x _ _ _ _ (fun hq => ?_) (fun hq => ?_)
  rotate_left
  · refine he ?_ 2 h (by decide) hR
    rcases r with _ | ⟨a, _ | ⟨b, r⟩⟩ <;> first | rfl | (exfalso; apply hq; simp at hm; omega)
  obtain ⟨a, rfl⟩ : ∃ a, r = [a] := by
    rcases r with _ | ⟨a, _ | ⟨b, r⟩⟩
    · simp at hm; omega
    · exact ⟨a, rfl⟩
    · simp at hm; omega
  have ho : oneK x.c x.st wh [a] = (numK a).bind fun n => layK x.c x.st ⟨wh, n, false⟩ 1 := rfl
  have ha := hwl a (by simp)
  conv => whnf
  (first | refine need_intro (⟨by omega, by omega⟩) ?_ | refine must.mk (⟨by omega, by omega⟩) ?_); conv => whnf
  refine ⟨_, loadI (j := 1) aggStr hw rfl rfl, ?_⟩; conv => whnf
  refine numberK_x (hk0.le hR.le) (hp.le hR.le) a (by omega) (fun n hn => ?_) (fun hn => ?_)
  rotate_left
  · exact he (by rw [ho, hn]; rfl) 2 h (by decide) hR
  have ho : oneK x.c x.st wh [a] = layK x.c x.st ⟨wh, n, false⟩ 1 := by rw [ho, hn]; rfl
  rw [ho] at hk he
  conv => whnf
  refine lay_x (l := ⟨wh, n, false⟩) hR hc hL (fun x' h' e1 e2 e3 => ?_) he
  conv => whnf
  exact hk x' h' e1 e2 e3
theorem two_of {r : List Str} {w0 : Str} {m : Nat} (hm : m = (w0 :: r).length) (hq : (m : Int) = 3) : ∃ a b, r = [a, b] := by
  rcases r with _ | ⟨a, _ | ⟨b, _ | ⟨d, r⟩⟩⟩
  · simp at hm; omega
  · simp at hm; omega
  · exact ⟨a, b, rfl⟩
  · simp at hm; omega
theorem wire_x {b bw : Nat} {x : Rx} {w0 : Str} {r : List Str} {m : Nat} (hk0 : Er k) (hp : Pow k) (hR : Rdr k h b x) (hc : x.c.right) (hL : x.L.length ≤ 60000) (hm : m = (w0 :: r).length) (hw : h bw = some (rowO 9 ((w0 :: r).map sv))) (hwl : ∀ w ∈ w0 :: r, w.length ≤ 2 ^ 28)
    (he : Ends k b x (wireK x.c x.st r) K E) : XE Tryz.prog 43 #[.pointer (some ⟨b, 0, none⟩), .slice (some ⟨bw, 0, none⟩) m m] h K E := by
  obtain ⟨hk, he⟩ := he
  refine fnu (args := _) mixed [(4, 4), (18, 4)] [] [] [(999998, [0, 1, 3, 7])] Tryz.func43 rfl (by kernel_rfl) ?_; conv => whnf
  refine countK_x _ _ _ _ (fun hq => ?_) (fun hq => ?_)
  rotate_left
  · refine he ?_ 2 h (by decide) hR
    rcases r with _ | ⟨a, _ | ⟨b, _ | ⟨d, r⟩⟩⟩ <;> first | rfl | (exfalso; apply hq; simp at hm; omega)
  obtain ⟨a, c, rfl⟩ := two_of hm hq
  have ho : wireK x.c x.st [a, c] = (numK a).bind fun n => if c = sOn then layK x.c x.st ⟨3, n, true⟩ 1 else if c = sOff then layK x.c x.st ⟨3, n, false⟩ 1 else none := rfl
  have ha := hwl a (by simp)
  conv => whnf
  (first | refine need_intro (⟨by omega, by omega⟩) ?_ | refine must.mk (⟨by omega, by omega⟩) ?_); conv => whnf
  refine ⟨_, loadI (j := 1) aggStr hw rfl rfl, ?_⟩; conv => whnf
  refine numberK_x (hk0.le hR.le) (hp.le hR.le) a (by omega) (fun n hn => ?_) (fun hn => ?_)
  rotate_left
  · exact he (by rw [ho, hn]; rfl) 2 h (by decide) hR
  have ho : wireK x.c x.st [a, c] = if c = sOn then layK x.c x.st ⟨3, n, true⟩ 1 else if c = sOff then layK x.c x.st ⟨3, n, false⟩ 1 else none := by rw [ho, hn]; rfl
  rw [ho] at hk he
  clear ho hn
  conv => whnf
  (first | refine need_intro (⟨by omega, by omega⟩) ?_ | refine must.mk (⟨by omega, by omega⟩) ?_); conv => whnf
  refine ⟨_, loadI (j := 2) aggStr hw rfl rfl, ?_⟩; conv => whnf
  by_cases h1 : c = sOn
  · rw [if_pos h1] at hk he
    refine seq_true (h1) ?_; conv => whnf
    refine lay_x (l := ⟨3, n, true⟩) hR hc hL (fun x' h' e1 e2 e3 => ?_) he
    conv => whnf
    exact hk x' h' e1 e2 e3
  rw [if_neg h1] at hk he
  refine seq_false (h1) ?_; conv => whnf
  by_cases h2 : c = sOff
  · rw [if_pos h2] at hk he
    refine seq_true (h2) ?_; conv => whnf
    refine lay_x (l := ⟨3, n, false⟩) hR hc hL (fun x' h' e1 e2 e3 => ?_) he
    conv => whnf
    exact hk x' h' e1 e2 e3
  rw [if_neg h2] at hk he
  refine seq_false (h2) ?_; conv => whnf
  refine failK_x 2 ?_
  exact he rfl 2 h (by decide) hR
theorem last_of {L : List Ln} {l : Ln} (h : L ≠ []) : (L.getLast? = some l ↔ L[L.length - 1]? = some l) := by rw [List.getLast?_eq_getElem?]
theorem pick_x {b bw : Nat} {x : Rx} {w0 : Str} {r : List Str} {m : Nat} (hk0 : Er k) (hp : Pow k) (hR : Rdr k h b x) (hc : x.c.right) (hL : x.L.length ≤ 60000) (hm : m = (w0 :: r).length) (hw : h bw = some (rowO 9 ((w0 :: r).map sv))) (hwl : ∀ w ∈ w0 :: r, w.length ≤ 2 ^ 28)
    (he : Ends k b x (pickK x.c x.st r) K E) : XE Tryz.prog 41 #[.pointer (some ⟨b, 0, none⟩), .slice (some ⟨bw, 0, none⟩) m m] h K E := by
  obtain ⟨hk, he⟩ := he
  refine fnu (args := _) mixed [(4, 4)] [] [] [(999998, [0, 1, 2, 4, 5])] Tryz.func41 rfl (by kernel_rfl) ?_; conv => whnf
  refine countK_x _ _ _ _ (fun hq => ?_) (fun hq => ?_)
  rotate_left
  · refine he ?_ 2 h (by decide) hR
    rcases r with _ | ⟨a, _ | ⟨b, _ | ⟨d, r⟩⟩⟩ <;> first | rfl | (exfalso; apply hq; simp at hm; omega)
  obtain ⟨a, c, rfl⟩ := two_of hm hq
  have ho : pickK x.c x.st [a, c] = (numK a).bind fun i => (numK c).bind fun n => if n < 1 ∨ x.st.L.getLast? = some ⟨0, i, false⟩ then none else layK x.c x.st ⟨0, i, false⟩ n := rfl
  have ha := hwl a (by simp)
  have hcl := hwl c (by simp)
  conv => whnf
  (first | refine need_intro (⟨by omega, by omega⟩) ?_ | refine must.mk (⟨by omega, by omega⟩) ?_); conv => whnf
  refine ⟨_, loadI (j := 1) aggStr hw rfl rfl, ?_⟩; conv => whnf
  refine numberK_x (hk0.le hR.le) (hp.le hR.le) a (by omega) (fun i hi => ?_) (fun hn => ?_)
  rotate_left
  · exact he (by rw [ho, hn]; rfl) 2 h (by decide) hR
  conv => whnf
  (first | refine need_intro (⟨by omega, by omega⟩) ?_ | refine must.mk (⟨by omega, by omega⟩) ?_); conv => whnf
  refine ⟨_, loadI (j := 2) aggStr hw rfl rfl, ?_⟩; conv => whnf
  refine numberK_x (hk0.le hR.le) (hp.le hR.le) c (by omega) (fun n hn => ?_) (fun hn => ?_)
  rotate_left
  · exact he (by rw [ho, hi, Option.bind_some, hn]; rfl) 2 h (by decide) hR
  have ho : pickK x.c x.st [a, c] = if n < 1 ∨ x.st.L.getLast? = some ⟨0, i, false⟩ then none else layK x.c x.st ⟨0, i, false⟩ n := by rw [ho, hi, Option.bind_some, hn]; rfl
  rw [ho] at hk he
  clear ho hn hi
  conv => whnf
  refine bsel_intro (fun q1 => ?_) (fun q1 => ?_) <;> try simp only [bsL] at q1
  · conv => whnf
    have BAD : n < 1 ∨ x.st.L.getLast? = some ⟨0, i, false⟩ := .inl (by omega)
    rw [if_pos BAD] at he
    refine failK_x 2 ?_
    exact he rfl 2 h (by decide) hR
  obtain ⟨n0, sP, sL, oP, oL, w⟩ := id hR
  obtain ⟨bL, cL, rfl, fL⟩ := rdL (w.gL.rdN (P := Tryz.prog) (f := lnC) aggL sizL (fun _ => rfl))
  conv => whnf
  refine ⟨_, loadCA (k := 15) rfl aggS w.row rfl, ?_⟩; conv => whnf
  refine bsel_intro (fun q2 => ?_) (fun q2 => ?_) <;> try simp only [bsL] at q2
  · have hpos : 0 < x.L.length := by omega
    obtain ⟨y, hy⟩ : ∃ y, x.L[x.L.length - 1]? = some y := ⟨_, List.getElem?_eq_getElem (by omega)⟩
    obtain ⟨ab, rfl, e1⟩ := fL _ y hy
    have hlast : x.st.L.getLast? = some y := by show x.L.getLast? = _; rw [List.getLast?_eq_getElem?]; exact hy
    conv => whnf
    refine ⟨_, loadCA (k := 15) rfl aggS w.row rfl, ?_⟩; conv => whnf
    refine ⟨_, loadCA (k := 15) rfl aggS w.row rfl, ?_⟩; conv => whnf
    (first | refine ov_c (by simp only [loK, hiK]; omega) ?_ | refine ov_c (by decide) ?_); conv => whnf
    (first | refine need_intro (⟨by omega, by omega⟩) ?_ | refine must.mk (⟨by omega, by omega⟩) ?_); conv => whnf
    have e2 : loadH Tryz.prog 44 h (ab.add (((x.L.length : Int) - 1).toNat * 3)) = some y.v := by rw [show ((x.L.length : Int) - 1).toNat = x.L.length - 1 by omega]; exact e1
    refine ⟨_, e2, ?_⟩; conv => whnf
    refine must_via (b := decide (y = ⟨0, i, false⟩)) ?_ ?_ ?_
    · kernel_rfl
    · exact eqLn y ⟨0, i, false⟩
    conv => whnf
    refine bsel_intro (fun q3 => ?_) (fun q3 => ?_) <;> try simp only [bsL] at q3
    · have BAD : n < 1 ∨ x.st.L.getLast? = some ⟨0, i, false⟩ := .inr (by rw [hlast]; simpa using q3)
      conv => whnf
      rw [if_pos BAD] at he
      refine failK_x 2 ?_
      exact he rfl 2 h (by decide) hR
    · have GOOD : x.st.L.getLast? = some ⟨0, i, false⟩ → False := fun e => by rw [hlast] at e; cases e; simp at q3
      conv => whnf
      have NB : ¬ (n < 1 ∨ x.st.L.getLast? = some ⟨0, i, false⟩) := fun hh => hh.elim (fun h1 => by omega) GOOD
      rw [if_neg NB] at hk he
      refine lay_x (l := ⟨0, i, false⟩) hR hc hL (fun x' h' e1 e2 e3 => ?_) he
      conv => whnf
      exact hk x' h' e1 e2 e3
  · have GOOD : x.st.L.getLast? = some ⟨0, i, false⟩ → False := fun e => by
      have : x.L = [] := List.length_eq_zero_iff.1 (by omega)
      simp only [Rx.st, this] at e
      cases e
    conv => whnf
    have NB : ¬ (n < 1 ∨ x.st.L.getLast? = some ⟨0, i, false⟩) := fun hh => hh.elim (fun h1 => by omega) GOOD
    rw [if_neg NB] at hk he
    refine lay_x (l := ⟨0, i, false⟩) hR hc hL (fun x' h' e1 e2 e3 => ?_) he
    conv => whnf
    exact hk x' h' e1 e2 e3
end
end Go.Proofs.YtjipfibbkmmfbaaGreatDoor
/-! Scripts that are read: parts. -/
namespace Go.Proofs.YtjipfibbkmmfbaaGreatDoor
set_option linter.unusedSimpArgs false
set_option linter.unusedVariables false
open Go Go.Mid Go.RowKit
attribute [local irreducible] mid
theorem numK_rng {w : Str} {v : Int} (h : numK w = some v) : 0 ≤ v ∧ v ≤ 9223372036854775807 := by
  have h0 := (numK_some h).1
  unfold numK at h
  split at h
  · rename_i v' hv
    split at h
    · cases h
      have := Lib.parseIntB_bounds hv
      have hb : -9223372036854775808 ≤ v ∧ v < 9223372036854775808 := this
      omega
    · cases h
  · cases h
section
set_option maxHeartbeats 8000000
set_option maxRecDepth 10000
variable {k h : Hp} {K : Value → Hp → Prop} {E : List PanicEntry → Hp → Prop}
theorem sizPs : sizeT Tryz.prog 25 = some 1 := by kernel_rfl
theorem at_x {b bw : Nat} {x : Rx} {w0 : Str} {r : List Str} {m : Nat} (hk0 : Er k) (hp : Pow k) (hR : Rdr k h b x) (hc : x.c.right) (hP : x.P.length ≤ 256) (hm : m = (w0 :: r).length) (hw : h bw = some (rowO 9 ((w0 :: r).map sv))) (hwl : ∀ w ∈ w0 :: r, w.length ≤ 2 ^ 28)
    (he : Ends k b x (atK x.c x.st r) K E) : XE Tryz.prog 40 #[.pointer (some ⟨b, 0, none⟩), .slice (some ⟨bw, 0, none⟩) m m] h K E := by
  obtain ⟨hk, he⟩ := he
  refine fnu (args := _) mixed [(4, 4)] [] [14] [(1, [0, 1, 2, 5, 6, 7, 10, 3, 4, 8, 9, 11]), (999998, [0, 1, 2, 4])] Tryz.func40 rfl (by kernel_rfl) ?_; conv => whnf
  refine countK_x _ _ _ _ (fun hq => ?_) (fun hq => ?_)
  rotate_left
  · refine he ?_ 2 h (by decide) hR
    rcases r with _ | ⟨a, _ | ⟨b, _ | ⟨d, r⟩⟩⟩ <;> first | rfl | (exfalso; apply hq; simp at hm; omega)
  obtain ⟨a, c, rfl⟩ := two_of hm hq
  have ho : atK x.c x.st [a, c] = (numK a).bind fun n => (rawK c).bind fun y => if partE x.c.c n y.length = 0 ∧ x.st.P.length < 256 then some ⟨x.st.P ++ [(n.toNat, y)], x.st.L, x.st.last⟩ else none := rfl
  have ha := hwl a (by simp)
  have hcl := hwl c (by simp)
  conv => whnf
  refine ⟨fun h' => h' bw = some (rowO 9 ([w0, a, c].map sv)), hw, ?_⟩
  conv => whnf
  (first | refine need_intro (⟨by omega, by omega⟩) ?_ | refine must.mk (⟨by omega, by omega⟩) ?_); conv => whnf
  refine ⟨_, loadI (j := 1) aggStr hw rfl rfl, ?_⟩; conv => whnf
  (first | refine need_intro (⟨by omega, by omega⟩) ?_ | refine must.mk (⟨by omega, by omega⟩) ?_); conv => whnf
  refine ⟨_, fun _ e => loadI (j := 2) aggStr e rfl rfl, ?_⟩
  conv => whnf
  refine numberK_x (hk0.le hR.le) (hp.le hR.le) a (by omega) (fun n hn => ?_) (fun hn => ?_)
  rotate_left
  · exact he (by rw [ho, hn]; rfl) 2 h (by decide) hR
  have hn0 := (numK_some hn).1
  refine ⟨hw, ?_⟩
  conv => whnf
  have hnr := numK_rng hn
  refine ov_u64 (by omega) ?_; conv => whnf
  refine rawE_x c (by omega) (fun y cc cap rest h1 hy n_cc le1 at_cc => ?_) (fun hy => ?_)
  rotate_left
  · exact he (by rw [ho, hn, Option.bind_some, hy]; rfl) 2 h (by decide) hR
  have ho : atK x.c x.st [a, c] = if partE x.c.c n y.length = 0 ∧ x.st.P.length < 256 then some ⟨x.st.P ++ [(n.toNat, y)], x.st.L, x.st.last⟩ else none := by rw [ho, hn, Option.bind_some, hy]; rfl
  rw [ho] at hk he
  clear ho hn
  have hyl : y.length ≤ 2 ^ 28 := by
    have := rawK_some hy
    have h2 := congrArg List.length this
    rw [hexS_len] at h2
    omega
  have hR1 := hR.up le1
  refine ⟨le1 _ _ hw, ?_⟩
  conv => whnf
  obtain ⟨n0, sP, sL, oP, oL, w⟩ := id hR1
  obtain ⟨sPa, sPc, rfl⟩ := w.gP.shape
  refine ⟨_, loadPA (k := 2) (x := x.c.cs) rfl aggC sizC w.row rfl rfl, ?_⟩; conv => whnf
  refine X.toE (part_x x.c hc n hn0 (by omega) (some ⟨cc, 0, none⟩) y.length cap (by omega) ?_)
  refine ⟨trivial, ?_⟩; conv => whnf
  refine mustK_x _ (fun h0 => ?_) (fun h0 => ?_)
  rotate_left
  · rw [if_neg fun hh => h0 hh.1] at he
    exact he rfl _ h1 h0 hR1
  refine ⟨trivial, ?_⟩; conv => whnf
  refine ⟨_, loadCA (k := 14) rfl aggPs w.row rfl, ?_⟩; conv => whnf
  refine bsel_intro (fun q1 => ?_) (fun q1 => ?_) <;> try simp only [bsL] at q1
  · conv => whnf
    refine failK_x 4 ?_
    rw [if_neg fun hh => by have := hh.2; simp only [Rx.st, List.length_map] at this; omega] at he
    exact he rfl 4 h1 (by decide) hR1
  rw [if_pos ⟨h0, by simp only [Rx.st, List.length_map]; omega⟩] at hk
  conv => whnf
  refine ⟨_, loadCA (k := 14) rfl aggPs w.row rfl, ?_⟩; conv => whnf
  refine new_intro (o := rowO 41 [.int .u64 n, .slice (some ⟨cc, 0, none⟩) y.length cap]) (fun z h2 n_z le_z at_z ot_z => ?_); conv => whnf
  have w2 := w.up le_z
  have ec : (n.toNat : Int) = n := Int.toNat_of_nonneg hn0
  have at_z : h2 z = some (rowO ptT (ptC ⟨n.toNat, .slice (some ⟨cc, 0, none⟩) y.length cap, y⟩)) := by
    rw [at_z]; show _ = some (rowO _ [.int .u64 (n.toNat : Int), _]); rw [ec]
  refine appOne (z := .agg #[.int .u64 0, .slice none 0 0]) (by kernel_rfl) (show Tryz.prog.info? ptT = some Tryz.prog.types[41] by kernel_rfl) (by kernel_rfl) (by kernel_rfl) (by kernel_rfl) rfl (bytes := 32) (by decide) rfl rfl rfl w2.gP at_z rfl rfl (by omega) fun s' h3 oP' g3 t3 => ?_
  obtain ⟨sa3, sc3, rfl⟩ := g3.shape
  have r3 := (t3.keep w2.row (w2.gP.offR w2.row (by decide))).1
  refine ⟨trivial, ?_⟩; conv => whnf
  refine wr_intro (by exact storeCA (k := 14) (l' := Rx.cs x n0 (.slice sa3 _ sc3) sL) rfl sizPs r3 (by rw [Rx.len]; decide) rfl rfl rfl) (fun h4 at_h4 ot_h4 => ?_)
  try (conv => whnf)
  have w4 := w2.appP (p := ⟨n.toNat, .slice (some ⟨cc, 0, none⟩) y.length cap, y⟩) ⟨⟨cc, cap, rest, rfl, le_z _ _ at_cc⟩, by show n.toNat < _; omega, by show y.length ≤ _; omega⟩ g3 t3 at_h4 ot_h4
  refine ⟨trivial, ?_⟩; conv => whnf
  exact hk { x with P := x.P ++ [⟨n.toNat, .slice (some ⟨cc, 0, none⟩) y.length cap, y⟩] } h4 (by simp [Rx.st, keyP]) ⟨rfl, rfl, rfl⟩ ⟨_, _, _, _, _, w4⟩
end
end Go.Proofs.YtjipfibbkmmfbaaGreatDoor
/-! Scripts that are read: a line behind the first two. -/
namespace Go.Proofs.YtjipfibbkmmfbaaGreatDoor
set_option linter.unusedSimpArgs false
set_option linter.unusedVariables false
open Go Go.Mid Go.RowKit
attribute [local irreducible] mid
/-- What the next line makes of what is read. -/
def nextK (c : Cf) (s : St) (t : Str) : Option St := if (10 : UInt8) ∈ t then stepK c s (sp [32] (lineA t)) else none
theorem lineA_le (t : Str) : (lineA t).length ≤ t.length := List.Sublist.length_le (List.takeWhile_sublist _)
section
set_option maxHeartbeats 8000000
set_option maxRecDepth 10000
variable {k h : Hp} {K : Value → Hp → Prop} {E : List PanicEntry → Hp → Prop}
theorem rest_x {b : Nat} {x : Rx} (hmx : Mx k) (hk0 : Er k) (hp : Pow k) (hR : Rdr k h b x) (hc : x.c.right) (hP : x.P.length ≤ 256) (hL : x.L.length ≤ 60000) (ht : x.t.length ≤ 2 ^ 28)
    (hk : ∀ x' h', nextK x.c x.st x.t = some x'.st → x'.c = x.c → x'.u = x.u → x'.t = x.t.drop ((lineA x.t).length + 1) → Rdr k h' b x' → K (.tuple #[]) h')
    (he : nextK x.c x.st x.t = none → ∀ e x' h', e ≠ 0 → Rdr k h' b x' → E [{ v := stopK e, recovered := false }] h') : XE Tryz.prog 19 #[.pointer (some ⟨b, 0, none⟩)] h K E := by
  unfold nextK at hk he
  refine fnu (args := _) mixed [] [] [] [(999998, [0, 2, 5, 6, 8, 10, 12, 14])] Tryz.func19 rfl (by kernel_rfl) ?_; conv => whnf
  refine next_x hmx hR (by omega) (fun hn bw h1 hR1 hw => ?_) (fun hn h1 hR1 => ?_)
  rotate_left
  · exact he (if_neg hn) 5 x h1 (by decide) hR1
  rw [if_pos hn] at hk he
  have hwl : ∀ w ∈ sp [32] (lineA x.t), w.length ≤ 2 ^ 28 := fun w hw => Nat.le_trans (sp_word [32] (by decide) _ _ (Nat.le_refl _) w hw) (Nat.le_trans (lineA_le _) ht)
  have hml : (sp [32] (lineA x.t)).length ≤ 2 ^ 28 + 1 := Nat.le_trans (sp_length [32] _ (by decide)) (Nat.succ_le_succ (Nat.le_trans (lineA_le _) ht))
  obtain ⟨w, r, hsp⟩ := sp_first (lineA x.t)
  rw [hsp] at hw hk he hwl hml
  rw [hsp]
  obtain ⟨m, hm⟩ : ∃ m, m = (w :: r).length := ⟨_, rfl⟩
  have hm1 : 0 < m := by rw [hm]; simp
  rw [← hm]
  have he1 : stepK x.c x.st (w :: r) = none → ∀ e h', e ≠ 0 → Rdr k h' b { x with t := x.t.drop ((lineA x.t).length + 1) } → E [{ v := stopK e, recovered := false }] h' := fun hh e h' h0 hr => he hh e _ h' h0 hr
  have hk1 : ∀ x' h', stepK x.c x.st (w :: r) = some x'.st → Rx.same { x with t := x.t.drop ((lineA x.t).length + 1) } x' → Rdr k h' b x' → K (.tuple #[]) h' := fun x' h' e1 e2 e3 => hk x' h' e1 e2.c e2.u e2.t e3
  clear hk he
  rw [stepK_cons] at hk1 he1
  conv => whnf
  (first | refine need_intro (⟨by omega, by omega⟩) ?_ | refine must.mk (⟨by omega, by omega⟩) ?_); conv => whnf
  refine ⟨_, loadI (j := 0) aggStr hw rfl rfl, ?_⟩; conv => whnf
  by_cases q1 : w = sAt
  · rw [if_pos q1] at hk1 he1
    refine seq_true (q1) ?_; conv => whnf
    obtain ⟨n0, sP, sL, oP, oL, wR⟩ := id hR1
    refine ⟨_, loadCA (k := 16) rfl aggb wR.row rfl, ?_⟩; conv => whnf
    cases hl : x.last with
    | true =>
      rw [if_pos (show x.st.last = true from hl)] at he1
      conv => whnf
      refine failK_x 9 ?_
      exact he1 rfl 9 h1 (by decide) hR1
    | false =>
      have hnl : ¬ x.st.last = true := fun e => by have e : x.last = true := e; rw [hl] at e; cases e
      rw [if_neg hnl] at hk1 he1
      conv => whnf
      refine at_x hk0 hp hR1 hc hP hm hw hwl ⟨fun x' h' e1 e2 e3 => ?_, he1⟩
      conv => whnf
      exact hk1 x' h' e1 e2 e3
  rw [if_neg q1] at hk1 he1
  refine seq_false (q1) ?_; conv => whnf
  by_cases q2 : w = sPick
  · rw [if_pos q2] at hk1 he1
    refine seq_true (q2) ?_; conv => whnf
    refine pick_x hk0 hp hR1 hc hL hm hw hwl ⟨fun x' h' e1 e2 e3 => ?_, he1⟩
    conv => whnf
    exact hk1 x' h' e1 e2 e3
  rw [if_neg q2] at hk1 he1
  refine seq_false (q2) ?_; conv => whnf
  by_cases q3 : w = sTick
  · rw [if_pos q3] at hk1 he1
    refine seq_true (q3) ?_; conv => whnf
    refine one_x hk0 hp hR1 hc hL hm hw hwl ⟨fun x' h' e1 e2 e3 => ?_, he1⟩
    conv => whnf
    exact hk1 x' h' e1 e2 e3
  rw [if_neg q3] at hk1 he1
  refine seq_false (q3) ?_; conv => whnf
  by_cases q4 : w = sInput
  · rw [if_pos q4] at hk1 he1
    refine seq_true (q4) ?_; conv => whnf
    refine one_x hk0 hp hR1 hc hL hm hw hwl ⟨fun x' h' e1 e2 e3 => ?_, he1⟩
    conv => whnf
    exact hk1 x' h' e1 e2 e3
  rw [if_neg q4] at hk1 he1
  refine seq_false (q4) ?_; conv => whnf
  by_cases q5 : w = sWire
  · rw [if_pos q5] at hk1 he1
    refine seq_true (q5) ?_; conv => whnf
    refine wire_x hk0 hp hR1 hc hL hm hw hwl ⟨fun x' h' e1 e2 e3 => ?_, he1⟩
    conv => whnf
    exact hk1 x' h' e1 e2 e3
  rw [if_neg q5] at hk1 he1
  refine seq_false (q5) ?_; conv => whnf
  refine failK_x 9 ?_
  exact he1 rfl 9 h1 (by decide) hR1
end
end Go.Proofs.YtjipfibbkmmfbaaGreatDoor
/-! Scripts that are read: the first two lines. -/
namespace Go.Proofs.YtjipfibbkmmfbaaGreatDoor
set_option linter.unusedSimpArgs false
set_option linter.unusedVariables false
open Go Go.Mid Go.RowKit
attribute [local irreducible] mid
theorem Hp.le_know {k h : Hp} {m : Nat} {o : Obj} (hle : k.le h) (hm : h m = some o) : k.le (k.set m o) := fun c y e => by
  by_cases hc : c = m
  · subst hc
    rw [Hp.set_same]
    exact hm.symm.trans (hle _ _ e)
  · rw [Hp.set_other _ _ hc]; exact e
theorem numsK_snoc {w : Str} : ∀ {ws : List Str}, numsK (ws ++ [w]) = (numsK ws).bind fun l => (numK w).map fun v => l ++ [v]
  | [] => by
    show (numK w).bind _ = _
    cases numK w <;> rfl
  | x :: ws => by
    show (numK x).bind (fun n => (numsK (ws ++ [w])).bind fun l => some (n :: l)) = ((numK x).bind fun n => (numsK ws).bind fun l => some (n :: l)).bind _
    rw [numsK_snoc (ws := ws)]
    cases numK x with
    | none => rfl
    | some n =>
      cases numsK ws with
      | none => rfl
      | some l => cases numK w <;> rfl
theorem numsK_none {w : Str} {r : List Str} : ∀ {ws : List Str}, numK w = none → numsK (ws ++ w :: r) = none
  | [], h => by show (numK w).bind _ = _; rw [h]; rfl
  | x :: ws, h => by
    have := numsK_none (ws := ws) (r := r) h
    show (numK x).bind (fun n => (numsK (ws ++ w :: r)).bind fun l => some (n :: l)) = none
    rw [this]
    cases numK x <;> rfl
theorem numsK_len : ∀ {ws : List Str} {l : List Int}, numsK ws = some l → l.length = ws.length
  | [], l, h => by cases h; rfl
  | x :: ws, l, h => by
    have h : (numK x).bind (fun n => (numsK ws).bind fun l => some (n :: l)) = some l := h
    cases hx : numK x with
    | none => rw [hx] at h; cases h
    | some n =>
      rw [hx] at h
      cases hw : numsK ws with
      | none => rw [hw] at h; cases h
      | some l2 =>
        rw [hw] at h
        have h : some (n :: l2) = some l := h
        cases h
        simp [numsK_len hw]
/-- A budget more. -/
theorem bu_set {x : Rx} {l : List Int} {i : Nat} {v n : Int} {sP sL : Value} (hl : l.length = i) (hi : i < 8) : (Rx.cs { x with u := Bu.of l } n sP sL).set (6 + i) (zv v) = Rx.cs { x with u := Bu.of (l ++ [v]) } n sP sL := by
  subst hl
  match l, hi with
  | [], _ => rfl
  | [_], _ => rfl
  | [_, _], _ => rfl
  | [_, _, _], _ => rfl
  | [_, _, _, _], _ => rfl
  | [_, _, _, _, _], _ => rfl
  | [_, _, _, _, _, _], _ => rfl
  | [_, _, _, _, _, _, _], _ => rfl
  | _ :: _ :: _ :: _ :: _ :: _ :: _ :: _ :: _, hi => simp at hi; omega
def conf0 : Cf := ⟨0, 0, 0, 0⟩
section
set_option maxHeartbeats 8000000
set_option maxRecDepth 10000
variable {k h : Hp} {K : Value → Hp → Prop} {E : List PanicEntry → Hp → Prop}
theorem sizC4 : sizeT Tryz.prog 23 = some 4 := by kernel_rfl
theorem aggB8 : isAggT Tryz.prog 24 = some true := by kernel_rfl
theorem sizB8 : sizeT Tryz.prog 24 = some 8 := by kernel_rfl
theorem szInt : Tryz.prog.types[3].size = 1 := by kernel_rfl
theorem szStr : Tryz.prog.types[9].size = 1 := by kernel_rfl
theorem machine_x {b : Nat} {x : Rx} (hmx : Mx k) (hk0 : Er k) (hp : Pow k) (hR : Rdr k h b x) (ht : x.t.length ≤ 2 ^ 28)
    (hk : ∀ c h', (10 : UInt8) ∈ x.t → cfK (sp [32] (lineA x.t)) = some c → Rdr k h' b { x with t := x.t.drop ((lineA x.t).length + 1), c := c } → K (.tuple #[]) h')
    (he : ((10 : UInt8) ∉ x.t ∨ cfK (sp [32] (lineA x.t)) = none) → ∀ e x' h', e ≠ 0 → Rdr k h' b x' → E [{ v := stopK e, recovered := false }] h') : XE Tryz.prog 17 #[.pointer (some ⟨b, 0, none⟩)] h K E := by
  refine fnu (args := _) mixed [] [] [16, 20, 24] [(3, [0, 1, 2, 3, 5, 6, 7, 9, 10, 11, 13, 14, 15, 18, 19, 20, 4, 8, 12, 16, 17, 21]), (999998, [0, 1, 2, 3, 5])] Tryz.func17 rfl (by kernel_rfl) ?_; conv => whnf
  refine next_x hmx hR (by omega) (fun hn bw h1 hR1 hw => ?_) (fun hn h1 hR1 => ?_)
  rotate_left
  · exact he (.inl hn) 5 x h1 (by decide) hR1
  have hwl : ∀ w ∈ sp [32] (lineA x.t), w.length ≤ 2 ^ 28 := fun w hw => Nat.le_trans (sp_word [32] (by decide) _ _ (Nat.le_refl _) w hw) (Nat.le_trans (lineA_le _) ht)
  have hml : (sp [32] (lineA x.t)).length ≤ 2 ^ 28 + 1 := Nat.le_trans (sp_length [32] _ (by decide)) (Nat.succ_le_succ (Nat.le_trans (lineA_le _) ht))
  obtain ⟨w, r, hsp⟩ := sp_first (lineA x.t)
  rw [hsp] at hw hk he hwl hml
  rw [hsp]
  obtain ⟨m, hm⟩ : ∃ m, m = (w :: r).length := ⟨_, rfl⟩
  have hm1 : 0 < m := by rw [hm]; simp
  rw [← hm]
  conv => whnf
  refine namedK_x hm1 hw sMachine (fun hq => ?_) (fun hq => ?_)
  rotate_left
  · refine he (.inr ?_) 9 _ h1 (by decide) hR1
    unfold cfK
    split
    · rename_i e; cases e; rw [if_neg hq]
    · rfl
  conv => whnf
  refine countK_x _ _ _ _ (fun hq2 => ?_) (fun hq2 => ?_)
  rotate_left
  · refine he (.inr ?_) 2 _ h1 (by decide) hR1
    unfold cfK
    split
    · rename_i e; cases e; simp at hm; omega
    · rfl
  obtain ⟨w1, w2, w3, w4, rfl⟩ : ∃ a b c d, r = [a, b, c, d] := by
    rcases r with _ | ⟨a, _ | ⟨b, _ | ⟨c, _ | ⟨d, _ | ⟨e, r⟩⟩⟩⟩⟩ <;> first | (simp at hm; omega) | exact ⟨_, _, _, _, rfl⟩
  have ho : cfK [w, w1, w2, w3, w4] = (numK w1).bind fun a => (numK w2).bind fun b => (numK w3).bind fun c => (numK w4).bind fun d => if rightB ⟨a, b, c, d⟩ = true then some ⟨a, b, c, d⟩ else none := if_pos hq
  have l1 := hwl w1 (by simp)
  have l2 := hwl w2 (by simp)
  have l3 := hwl w3 (by simp)
  have l4 := hwl w4 (by simp)
  conv => whnf
  refine ⟨fun h' => h' bw = some (rowO 9 ([w, w1, w2, w3, w4].map sv)), hw, ?_⟩
  conv => whnf
  (first | refine need_intro (⟨by omega, by omega⟩) ?_ | refine must.mk (⟨by omega, by omega⟩) ?_); conv => whnf
  refine ⟨_, loadI (j := 1) aggStr hw rfl rfl, ?_⟩; conv => whnf
  (first | refine need_intro (⟨by omega, by omega⟩) ?_ | refine must.mk (⟨by omega, by omega⟩) ?_); conv => whnf
  refine ⟨_, fun _ e => loadI (j := 2) aggStr e rfl rfl, ?_⟩
  conv => whnf
  (first | refine need_intro (⟨by omega, by omega⟩) ?_ | refine must.mk (⟨by omega, by omega⟩) ?_); conv => whnf
  refine ⟨_, fun _ e => loadI (j := 3) aggStr e rfl rfl, ?_⟩
  conv => whnf
  (first | refine need_intro (⟨by omega, by omega⟩) ?_ | refine must.mk (⟨by omega, by omega⟩) ?_); conv => whnf
  refine ⟨_, fun _ e => loadI (j := 4) aggStr e rfl rfl, ?_⟩
  conv => whnf
  refine numberK_x (hk0.le hR1.le) (hp.le hR1.le) w1 (by omega) (fun a ha => ?_) (fun ha => ?_)
  rotate_left
  · exact he (.inr (by rw [ho, ha]; rfl)) 2 _ h1 (by decide) hR1
  refine ⟨hw, ?_⟩
  conv => whnf
  refine numberK_x (hk0.le hR1.le) (hp.le hR1.le) w2 (by omega) (fun b2 hb2 => ?_) (fun hb2 => ?_)
  rotate_left
  · exact he (.inr (by rw [ho, ha, Option.bind_some, hb2]; rfl)) 2 _ h1 (by decide) hR1
  refine ⟨hw, ?_⟩
  conv => whnf
  refine numberK_x (hk0.le hR1.le) (hp.le hR1.le) w3 (by omega) (fun c hc => ?_) (fun hc => ?_)
  rotate_left
  · exact he (.inr (by rw [ho, ha, Option.bind_some, hb2, Option.bind_some, hc]; rfl)) 2 _ h1 (by decide) hR1
  refine ⟨hw, ?_⟩
  conv => whnf
  refine numberK_x (hk0.le hR1.le) (hp.le hR1.le) w4 (by omega) (fun d hd => ?_) (fun hd => ?_)
  rotate_left
  · exact he (.inr (by rw [ho, ha, Option.bind_some, hb2, Option.bind_some, hc, Option.bind_some, hd]; rfl)) 2 _ h1 (by decide) hR1
  have ho : cfK [w, w1, w2, w3, w4] = if rightB ⟨a, b2, c, d⟩ = true then some ⟨a, b2, c, d⟩ else none := by rw [ho, ha, Option.bind_some, hb2, Option.bind_some, hc, Option.bind_some, hd]; rfl
  refine ⟨hw, ?_⟩
  obtain ⟨n0, sP, sL, oP, oL, wR⟩ := id hR1
  conv => whnf
  refine wr_intro (by exact storePA (k := 2) (l' := Rx.cs { x with t := x.t.drop ((lineA x.t).length + 1), c := ⟨a, b2, c, d⟩ } n0 sP sL) rfl sizC4 wR.row (by rw [Rx.len]; decide) rfl rfl rfl) (fun h2 at_h2 ot_h2 => ?_)
  try (conv => whnf)
  have w2 := wR.st (x' := { x with t := x.t.drop ((lineA x.t).length + 1), c := ⟨a, b2, c, d⟩ }) rfl rfl at_h2 ot_h2
  have hR2 : Rdr k h2 b { x with t := x.t.drop ((lineA x.t).length + 1), c := ⟨a, b2, c, d⟩ } := ⟨_, _, _, _, _, w2⟩
  refine ⟨(ot_h2 bw (rowNe hw wR.row (by decide))).trans hw, ?_⟩
  conv => whnf
  refine ⟨_, loadPA (k := 2) (x := (⟨a, b2, c, d⟩ : Cf).cs) rfl aggC sizC4 w2.row rfl rfl, ?_⟩; conv => whnf
  refine right_x ⟨a, b2, c, d⟩ ?_
  cases hr : rightB ⟨a, b2, c, d⟩ with
  | true =>
    rw [hr, if_pos rfl] at ho
    conv => whnf
    exact hk _ h2 hn ho hR2
  | false =>
    rw [hr, if_neg (by decide)] at ho
    conv => whnf
    refine failK_x 1 ?_
    exact he (.inr ho) 1 _ h2 (by decide) hR2
theorem budget_x {b : Nat} {x : Rx} (hmx : Mx k) (hk0 : Er k) (hp : Pow k) (hR : Rdr k h b x) (ht : x.t.length ≤ 2 ^ 28) (hc : x.c.right) (hu : x.u = Bu.of [])
    (hk : ∀ u h', (10 : UInt8) ∈ x.t → buK x.c (sp [32] (lineA x.t)) = some u → Rdr k h' b { x with t := x.t.drop ((lineA x.t).length + 1), u := u } → K (.tuple #[]) h')
    (he : ((10 : UInt8) ∉ x.t ∨ buK x.c (sp [32] (lineA x.t)) = none) → ∀ e x' h', e ≠ 0 → Rdr k h' b x' → E [{ v := stopK e, recovered := false }] h') : XE Tryz.prog 18 #[.pointer (some ⟨b, 0, none⟩)] h K E := by
  have a0 := hc.a0
  have a1 := hc.a1
  refine fnu (args := _) mixed [] [] [] [(6, [0, 1, 2, 4, 5, 6, 7, 3, 8]), (999998, [0, 1, 2, 6, 8])] Tryz.func18 rfl (by kernel_rfl) ?_; conv => whnf
  refine next_x hmx hR (by omega) (fun hn bw h1 hR1 hw => ?_) (fun hn h1 hR1 => ?_)
  rotate_left
  · exact he (.inl hn) 5 x h1 (by decide) hR1
  have hwl : ∀ w ∈ sp [32] (lineA x.t), w.length ≤ 2 ^ 28 := fun w hw => Nat.le_trans (sp_word [32] (by decide) _ _ (Nat.le_refl _) w hw) (Nat.le_trans (lineA_le _) ht)
  obtain ⟨w, r, hsp⟩ := sp_first (lineA x.t)
  rw [hsp] at hw hk he hwl
  rw [hsp]
  obtain ⟨m, hm⟩ : ∃ m, m = (w :: r).length := ⟨_, rfl⟩
  have hm1 : 0 < m := by rw [hm]; simp
  have hmr : m = r.length + 1 := by rw [hm]; simp
  rw [← hm]
  clear hm
  have ho : buK x.c (w :: r) = if w = sBudget ∧ (r.length : Int) = x.c.a then (numsK r).bind fun l => if budE x.c.a (Bu.of l) = 0 then some (Bu.of l) else none else none := rfl
  conv => whnf
  refine namedK_x hm1 hw sBudget (fun hq => ?_) (fun hq => ?_)
  rotate_left
  · exact he (.inr (by rw [ho, if_neg fun hh => hq hh.1])) 9 _ h1 (by decide) hR1
  obtain ⟨n0, sP, sL, oP, oL, wR⟩ := id hR1
  conv => whnf
  refine ⟨_, loadCA (k := 2) rfl aggi wR.row rfl, ?_⟩; conv => whnf
  (first | refine ov_c (by simp only [loK, hiK]; omega) ?_ | refine ov_c (by decide) ?_); conv => whnf
  refine countK_x _ _ _ _ (fun hq2 => ?_) (fun hq2 => ?_)
  rotate_left
  · exact he (.inr (by rw [ho, if_neg fun hh => hq2 (show (m : Int) = 1 + x.c.a by omega)])) 2 _ h1 (by decide) hR1
  have hq2 : (m : Int) = 1 + x.c.a := hq2
  rw [if_pos ⟨hq, by omega⟩] at ho
  clear wR n0 sP sL oP oL
  -- what stays: the words
  have hle1 := Hp.le_know hR1.le hw
  have hK1 : Rdr (k.set bw (rowO 9 ((w :: r).map sv))) h1 b { x with t := x.t.drop ((lineA x.t).length + 1) } := hR1.know hw (by decide) (by decide) (by decide)
  have hkw : (k.set bw (rowO 9 ((w :: r).map sv))) bw = some (rowO 9 ((w :: r).map sv)) := Hp.set_same _ _ _
  generalize k.set bw (rowO 9 ((w :: r).map sv)) = k2 at hle1 hK1 hkw
  conv => whnf
  have hdm : decide (m = Int.toNat 1) = false := decide_eq_false (by have : Int.toNat 1 = 1 := rfl; rw [this]; omega)
  (first | refine need_intro (⟨by omega, by omega⟩) ?_ | refine must.mk (⟨by omega, by omega⟩) ?_); conv => whnf
  rw [hdm]
  conv => whnf
  refine loop_at [21] [] (fun q vs cs h' => ∃ (i : Nat) (l : List Int), i ≤ r.length ∧ q = r.length - i ∧ vs = [.v (zv i)] ∧ numsK (r.take i) = some l ∧ Rdr k2 h' b { x with t := x.t.drop ((lineA x.t).length + 1), u := Bu.of l }) r.length ⟨0, [], by omega, by omega, rfl, rfl, by rw [← hu]; exact hK1⟩ ?_
  rintro q vs cs mm bx h2 ⟨i, l, hi, rfl, rfl, hl, hR2⟩
  have hll := numsK_len hl
  rw [List.length_take] at hll
  have hll : l.length = i := by omega
  have hw2 := hR2.le _ _ hkw
  conv => whnf
  refine bsel_intro (fun q1 => ?_) (fun q1 => ?_) <;> try simp only [bsL] at q1
  · have hir : i < r.length := by omega
    obtain ⟨y, hy⟩ : ∃ y, r[i]? = some y := ⟨_, List.getElem?_eq_getElem hir⟩
    have hst : r.take (i + 1) = r.take i ++ [y] := by rw [List.take_add_one, hy]; rfl
    have hsp2 : r = r.take i ++ y :: r.drop (i + 1) := by
      conv => lhs; rw [← List.take_append_drop i r]
      rw [List.drop_eq_getElem_cons hir]
      congr 2
      exact (List.getElem?_eq_some_iff.1 hy).2
    have hyl := hwl y (by simp [List.mem_of_getElem? hy])
    obtain ⟨n0, sP, sL, oP, oL, wR⟩ := id hR2
    conv => whnf
    (first | refine need_intro (⟨by omega, by omega⟩) ?_ | refine must.mk (⟨by omega, by omega⟩) ?_); conv => whnf
    refine ⟨_, loadCA (k := i + 1) (by simp [addr_add, szStr]; omega) aggStr hw2 (by rw [List.map_cons, List.getElem?_cons_succ, List.getElem?_map, hy]; rfl), ?_⟩; conv => whnf
    (first | refine need_intro (⟨by omega, by show _ < ((8 : Nat) : Int); omega⟩) ?_ | refine must.mk (⟨by omega, by show _ < ((8 : Nat) : Int); omega⟩) ?_); conv => whnf
    refine numberK_x ((hk0.le hle1).le hR2.le) ((hp.le hle1).le hR2.le) y (by omega) (fun v hv => ?_) (fun hv => ?_)
    rotate_left
    · refine he (.inr ?_) 2 _ h2 (by decide) (hR2.weak hle1)
      rw [ho, hsp2, numsK_none hv]; rfl
    refine ⟨trivial, ?_⟩; conv => whnf
    refine wr_intro (by exact storeCA (k := 6 + i) (l' := Rx.cs { x with t := x.t.drop ((lineA x.t).length + 1), u := Bu.of (l ++ [v]) } n0 sP sL) (by simp [addr_add, szInt]) sizi wR.row (by rw [Rx.len]; omega) (bu_set (x := { x with t := x.t.drop ((lineA x.t).length + 1) }) (v := v) hll (by omega)) rfl rfl) (fun h3 at_h3 ot_h3 => ?_)
    try (conv => whnf)
    have w3 := wR.st (x' := { x with t := x.t.drop ((lineA x.t).length + 1), u := Bu.of (l ++ [v]) }) rfl rfl at_h3 ot_h3
    refine ⟨trivial, ?_⟩; conv => whnf
    (first | refine ov_c (by simp only [loK, hiK]; omega) ?_ | refine ov_c (by decide) ?_); conv => whnf
    exact ⟨r.length - (i + 1), by omega, i + 1, l ++ [v], by omega, rfl, rfl, by rw [hst, numsK_snoc, hl, Option.bind_some, hv]; rfl, ⟨_, _, _, _, _, w3⟩⟩
  have hir : i = r.length := by omega
  subst hir
  rw [List.take_length] at hl
  rw [hl, Option.bind_some] at ho
  obtain ⟨n0, sP, sL, oP, oL, wR⟩ := id hR2
  conv => whnf
  refine ⟨_, loadPA (k := 2) (x := x.c.cs) rfl aggC sizC4 wR.row rfl rfl, ?_⟩; conv => whnf
  refine ⟨_, loadPA (k := 6) (x := (Bu.of l).cs) rfl aggB8 sizB8 wR.row rfl rfl, ?_⟩; conv => whnf
  refine X.toE (budgets_x x.c (Bu.of l) ?_)
  refine ⟨trivial, ?_⟩; conv => whnf
  refine mustK_x _ (fun h0 => ?_) (fun h0 => ?_)
  rotate_left
  · exact he (.inr (by rw [ho, if_neg h0])) _ _ h2 h0 (hR2.weak hle1)
  rw [if_pos h0] at ho
  refine ⟨trivial, ?_⟩; conv => whnf
  exact hk _ h2 hn ho (hR2.weak hle1)
end
end Go.Proofs.YtjipfibbkmmfbaaGreatDoor
