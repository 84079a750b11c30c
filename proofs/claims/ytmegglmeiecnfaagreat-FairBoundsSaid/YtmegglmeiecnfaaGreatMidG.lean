/-
  THE MIDDLE LAYER, PART SEVEN: code and functions.
-/
import Derived.Test.YtmegglmeiecnfaaGreatMidF
namespace Go.Mid
open Go Go.RowKit

/-- The slots that a piece of code may write. -/
def wrOp (rf : RF) (o : Oper) : List Nat := o.dst.toList ++ (match makes rf o with | some t => (rf.filter fun p => p.2 == t).map (·.1) | none => [])
def wr (rf : RF) : Code → List Nat
  | .region _ ops _ => ops.toList.flatMap (wrOp rf)
  | .seq a b => wr rf a ++ wr rf b
  | .cond _ a b => wr rf a ++ wr rf b
  | .block _ b => wr rf b
  | .loop b => wr rf b
  | .scope b => wr rf b
  | _ => []
def mix (M : List Nat) (m f : Nat → MV) : Nat → MV := fun s => if s ∈ M then m s else f s
/-- Outside M the slots stand. -/
def Same (M : List Nat) (e e' : ME) : Prop := ∀ s, s ∉ M → e'.env s = e.env s
/-- A loop: the least relation that a round hands on; the slots that the body does not write stand as they stood. -/
def MLoop (M : List Nat) (B : ME → Hp → (Exit → ME → Hp → Prop) → Prop) (e : ME) (h : Hp) (K : Exit → ME → Hp → Prop) : Prop :=
  ∀ R : ME → Hp → Prop, (∀ e1 h1 (Kx : Exit → ME → Hp → Prop), Same M e e1 → B e1 h1 Kx → (∀ e' h', Kx .normal e' h' → Same M e e' → R e' h') → (∀ ex e' h', ex ≠ .normal → Kx ex e' h' → Same M e e' → K ex e' h') → R e1 h1) → R e h
def mcode (P : Program) (rf : RF) (N : Nat) (cl : Nat → Oper → Cl) : Code → ME → Hp → (Exit → ME → Hp → Prop) → Prop
  | .skip, e, h, K => K .normal e h
  | .label _, e, h, K => K .normal e h
  | .region id ops draw, e, h, K => okR N rf (cl id) ops draw = true ∧ (if draw then ∃ Inv : Hp → Prop, Inv h ∧ mdraw P rf Inv (cl id) ops ops.toList e h (K .normal) else mlist P rf ops ops.toList e h (K .normal))
  | .seq a b, e, h, K => mcode P rf N cl a e h fun ex e' h' => match ex with
    | .normal => mcode P rf N cl b e' h' K
    | ex => K ex e' h'
  | .cond c a b, e, h, K => match ev e c with
    | .v (.bool t) => (t = true → mcode P rf N cl a e h K) ∧ (t = false → mcode P rf N cl b e h K)
    | _ => False
  | .block id b, e, h, K => mcode P rf N cl b e h fun ex e' h' => match ex with
    | .exit id' => if id' = id then K .normal e' h' else K (.exit id') e' h'
    | ex => K ex e' h'
  | .loop b, e, h, K => MLoop (wr rf b) (fun e h K => mcode P rf N cl b e h K) e h K
  | .scope b, e, h, K => mcode P rf N cl b e h fun ex e' h' => match ex with
    | .goto _ => False
    | ex => K ex e' h'
  | .exit id, e, h, K => K (.exit id) e h
  | .goto l, e, h, K => K (.goto l) e h
  | .ret, e, h, K => K .ret e h
  | .rangeFunc .., _, _, _ => False
  | .refuse _, _, _, _ => False

section
variable {P : Program} {rf : RF} {ops : Array Oper} {N : Nat} {Inv : Hp → Prop}
theorem Same.refl (M : List Nat) (e : ME) : Same M e e := fun _ _ => rfl
theorem Same.trans {M M' : List Nat} {e e' e'' : ME} (a : Same M e e') (b : Same M' e' e'') : Same (M ++ M') e e'' := fun s hs => by
  rw [b s (fun x => hs (List.mem_append_right _ x)), a s (fun x => hs (List.mem_append_left _ x))]
theorem Same.weak {M M' : List Nat} {e e' : ME} (a : Same M e e') (h : ∀ s, s ∈ M → s ∈ M') : Same M' e e' := fun s hs => a s fun x => hs (h s x)
theorem rf_mem : ∀ {rf : RF} {s t : Nat}, rf.of s = some t → s ∈ (rf.filter fun p => p.2 == t).map (·.1)
  | [], _, _, h => by cases h
  | (a, b) :: r, s, t, h => by
    unfold RF.of at h
    split at h
    · rename_i hs; cases h; subst hs; simp
    · have := rf_mem h
      simp only [List.mem_map, List.mem_filter] at this ⊢
      obtain ⟨p, ⟨hp1, hp2⟩, hp3⟩ := this
      exact ⟨p, ⟨List.mem_cons_of_mem _ hp1, hp2⟩, hp3⟩
theorem same_app {o : Oper} {u : Upd} {e : ME} (hu : u.fits rf o) (hm : ∀ t cs, u = .newbox t cs → makes rf o = some t) : Same (wrOp rf o) e (u.app rf e) := by
  intro s hs
  unfold wrOp at hs
  cases u with
  | none => rfl
  | slot d m => exact upd_other _ _ (fun (x : s = d) => hs (List.mem_append_left _ (by rw [hu]; simp [x])))
  | newbox t cs =>
    have hmk := hm t cs rfl
    rw [hmk] at hs
    show upd (kill rf t e.env) t _ s = _
    rw [upd_other _ _ (fun (x : s = t) => hs (List.mem_append_left _ (by rw [hu.1]; simp [x])))]
    unfold kill
    rw [if_neg (fun hr => hs (List.mem_append_right _ (rf_mem hr)))]
  | setbox b cs => rfl
theorem gen_nb {o : Oper} {e : ME} {t : Nat} {cs : List Value} {α : Prop} (hp : gen P o e = some (.upd (.newbox t cs))) : α := by
  obtain ⟨v, hv⟩ := gen_upd hp
  cases hd : o.dst <;> rw [hd] at hv <;> cases hv
theorem plan_makes {o : Oper} {e : ME} {t : Nat} {cs : List Value} (hp : planG P rf ops o e = some (.upd (.newbox t cs))) : makes rf o = some t := by
  unfold planG at hp
  split at hp
  · split at hp
    · obtain ⟨dst, op, ty, pos, after, guard⟩ := o
      cases op with
      | alloc el =>
        cases dst with
        | none => exact gen_nb hp
        | some d =>
          simp only [plan] at hp
          split at hp
          · rename_i hr
            (repeat' split at hp) <;> first | (cases hp; done) | (cases hp; simp [makes, hr])
          · exact gen_nb hp
      | box el x =>
        cases dst with
        | none => exact gen_nb hp
        | some d =>
          simp only [plan] at hp
          split at hp
          · rename_i hr
            (repeat' split at hp) <;> first | (cases hp; done) | (cases hp; simp [makes, hr])
          · exact gen_nb hp
      | move x | assign x =>
        simp only [plan] at hp
        split at hp
        · unfold refU at hp; (repeat' split at hp) <;> cases hp
        · cases dst <;> (repeat' split at hp) <;> cases hp
      | nilCheck x | fieldAddr s x f | indexAddr s x f =>
        simp only [plan] at hp
        (repeat' split at hp) <;> first | (cases hp; done) | exact gen_nb hp | (unfold refU at hp; (repeat' split at hp) <;> cases hp)
      | load t x =>
        simp only [plan] at hp
        (repeat' split at hp) <;> first | (cases hp; done) | exact gen_nb hp | (cases dst <;> cases hp)
      | store t x y =>
        simp only [plan] at hp
        (repeat' split at hp) <;> first | (cases hp; done) | exact gen_nb hp
      | _ => exact gen_nb (P := P) hp
    · cases hd : o.dst <;> rw [hd] at hp <;> cases hp
  · cases hp
theorem run1_same {o : Oper} {e : ME} {h : Hp} {K : ME → Hp → Prop} (hr : run1 P rf o (planG P rf ops o e) e h K) : run1 P rf o (planG P rf ops o e) e h fun e' h' => K e' h' ∧ Same (wrOp rf o) e e' := by
  have hf : ∀ u, planG P rf ops o e = some (.upd u) → u.fits rf o := fun _ => planG_fits
  have hm : ∀ t cs, planG P rf ops o e = some (.upd (.newbox t cs)) → makes rf o = some t := fun _ _ => plan_makes
  generalize planG P rf ops o e = pl at *
  cases pl with
  | none => exact hr
  | some p => cases p with
    | upd u => exact ⟨hr, same_app (hf u rfl) fun t cs hh => hm t cs (by rw [hh])⟩
    | act s =>
      refine aRun_mono (fun v h'' hk => ⟨hk, ?_⟩) hr
      exact same_app (fits_dstU _ _ _) fun t cs hh => by cases hd : o.dst <;> rw [hd] at hh <;> cases hh
theorem mlist_same : ∀ (l : List Oper) (e : ME) (h : Hp) (K : ME → Hp → Prop), mlist P rf ops l e h K → mlist P rf ops l e h fun e' h' => K e' h' ∧ Same (l.flatMap (wrOp rf)) e e'
  | [], e, _, _, hm => ⟨hm, Same.refl _ _⟩
  | o :: r, e, h, K, hm => by
    refine run1_mono ?_ (run1_same hm)
    rintro e1 h1 ⟨hm1, s1⟩
    refine mlist_mono ?_ r e1 h1 (mlist_same r e1 h1 K hm1)
    rintro e2 h2 ⟨k, s2⟩
    exact ⟨k, by simpa using s1.trans s2⟩
theorem mrun_same {k : Cl} {o : Oper} {e : ME} {h : Hp} {K : ME → Hp → Prop} (hr : mrun P rf Inv k o (planG P rf ops o e) e h K) : mrun P rf Inv k o (planG P rf ops o e) e h fun e' h' => K e' h' ∧ Same (wrOp rf o) e e' := by
  have hf : ∀ u, planG P rf ops o e = some (.upd u) → u.fits rf o := fun _ => planG_fits
  have hm : ∀ t cs, planG P rf ops o e = some (.upd (.newbox t cs)) → makes rf o = some t := fun _ _ => plan_makes
  have fin : ∀ {u : Upd}, planG P rf ops o e ≠ none → (∀ A, planG P rf ops o e = some (.act A) → ∃ v, u = dstU o.dst (.v v)) → (∀ u', planG P rf ops o e = some (.upd u') → u = u') → Same (wrOp rf o) e (u.app rf e) := by
    intro u hn s1 s2
    generalize planG P rf ops o e = pl at *
    cases pl with
    | none => exact absurd rfl hn
    | some p => cases p with
      | upd u' => have := s2 u' rfl; subst this; exact same_app (hf _ rfl) fun t cs hh => hm t cs (by rw [hh])
      | act s => obtain ⟨v, rfl⟩ := s1 s rfl; exact same_app (fits_dstU _ _ _) fun t cs hh => by cases hd : o.dst <;> rw [hd] at hh <;> cases hh
  cases k with
  | c =>
    have hr : run1 P rf o (planG P rf ops o e) e h (fun e' h' => Inv h' ∧ K e' h') := hr
    show run1 P rf o (planG P rf ops o e) e h (fun e' h' => Inv h' ∧ (K e' h' ∧ Same (wrOp rf o) e e'))
    exact run1_mono (fun _ _ ⟨⟨x, y⟩, z⟩ => ⟨x, y, z⟩) (run1_same hr)
  | a =>
    unfold mrun at *
    simp only at *
    split at hr
    · rename_i u hu
      obtain ⟨s1, s2⟩ := updA_spec hu
      exact ⟨hr, fin (fun hn => by rw [hn] at hu; cases hu) s1 s2⟩
    · exact hr
  | b =>
    unfold mrun at *
    simp only at *
    obtain ⟨u, h1, h2, _, s1, s2⟩ := runB_spec hr
    exact h2 ⟨h1, fin (fun hn => by rw [hn] at hr; exact hr) s1 s2⟩
  | d =>
    unfold mrun at *
    simp only at *
    obtain ⟨u, h1, h2, _, s1, s2⟩ := runD_spec hr
    exact h2 ⟨h1, fin (fun hn => by rw [hn] at hr; exact hr) s1 s2⟩
theorem mdraw_mono {cl : Oper → Cl} {K K' : ME → Hp → Prop} (hk : ∀ e h, K e h → K' e h) : ∀ (l : List Oper) (e : ME) (h : Hp), mdraw P rf Inv cl ops l e h K → mdraw P rf Inv cl ops l e h K'
  | [], _, _, hr => hk _ _ hr
  | _ :: rest, _, _, hr => mrun_mono (fun _ _ => mdraw_mono hk rest _ _) hr
theorem mdraw_same {cl : Oper → Cl} : ∀ (l : List Oper) (e : ME) (h : Hp) (K : ME → Hp → Prop), mdraw P rf Inv cl ops l e h K → mdraw P rf Inv cl ops l e h fun e' h' => K e' h' ∧ Same (l.flatMap (wrOp rf)) e e'
  | [], e, _, _, hm => ⟨hm, Same.refl _ _⟩
  | o :: r, e, h, K, hm => by
    refine mrun_mono ?_ (mrun_same hm)
    rintro e1 h1 ⟨hm1, s1⟩
    refine mdraw_mono ?_ r e1 h1 (mdraw_same r e1 h1 K hm1)
    rintro e2 h2 ⟨k, s2⟩
    exact ⟨k, by simpa using s1.trans s2⟩
variable {cl : Nat → Oper → Cl}
theorem mcode_mono : ∀ (c : Code) {e : ME} {h : Hp} {K K' : Exit → ME → Hp → Prop}, (∀ ex e h, K ex e h → K' ex e h) → mcode P rf N cl c e h K → mcode P rf N cl c e h K' := by
  intro c
  induction c with
  | skip => intro e h K K' hk hm; exact hk _ _ _ hm
  | label l => intro e h K K' hk hm; exact hk _ _ _ hm
  | region id ops draw =>
    intro e h K K' hk hm
    refine ⟨hm.1, ?_⟩
    have hm := hm.2
    cases draw with
    | true => obtain ⟨Inv, hi, hm⟩ := hm; exact ⟨Inv, hi, mdraw_mono (fun _ _ => hk _ _ _) _ _ _ hm⟩
    | false => exact mlist_mono (fun _ _ => hk _ _ _) _ _ _ hm
  | seq a b iha ihb =>
    intro e h K K' hk hm
    refine iha (fun ex e1 h1 hh => ?_) hm
    cases ex <;> first | exact ihb hk hh | exact hk _ _ _ hh
  | cond c a b iha ihb =>
    intro e h K K' hk hm
    simp only [mcode] at *
    split at hm
    · exact ⟨fun t => iha hk (hm.1 t), fun t => ihb hk (hm.2 t)⟩
    · exact hm
  | block id b ih =>
    intro e h K K' hk hm
    refine ih (fun ex e1 h1 hh => ?_) hm
    cases ex with
    | exit id' => simp only at hh ⊢; split at hh <;> rename_i hid <;> simp only [hid, if_true, if_false] <;> exact hk _ _ _ hh
    | _ => exact hk _ _ _ hh
  | loop b ih =>
    intro e h K K' hk hm
    exact fun R hR => hm R fun e1 h1 Kx s1 hb hn hx => hR e1 h1 Kx s1 hb hn fun ex e' h' hne hk' s' => hk _ _ _ (hx ex e' h' hne hk' s')
  | scope b ih =>
    intro e h K K' hk hm
    refine ih (fun ex e1 h1 hh => ?_) hm
    cases ex <;> first | exact hh | exact hk _ _ _ hh
  | exit id => intro e h K K' hk hm; exact hk _ _ _ hm
  | goto l => intro e h K K' hk hm; exact hk _ _ _ hm
  | ret => intro e h K K' hk hm; exact hk _ _ _ hm
  | rangeFunc f ps a b => intro e h K K' hk hm; exact hm
  | refuse why => intro e h K K' hk hm; exact hm
theorem mcode_same : ∀ (c : Code) {e : ME} {h : Hp} {K : Exit → ME → Hp → Prop}, mcode P rf N cl c e h K → mcode P rf N cl c e h fun ex e' h' => K ex e' h' ∧ Same (wr rf c) e e' := by
  intro c
  induction c with
  | skip => intro e h K hm; exact ⟨hm, Same.refl _ _⟩
  | label l => intro e h K hm; exact ⟨hm, Same.refl _ _⟩
  | region id ops draw =>
    intro e h K hm
    refine ⟨hm.1, ?_⟩
    have hm := hm.2
    cases draw with
    | true => obtain ⟨Inv, hi, hm⟩ := hm; exact ⟨Inv, hi, mdraw_same _ _ _ _ hm⟩
    | false => exact mlist_same _ _ _ _ hm
  | seq a b iha ihb =>
    intro e h K hm
    refine mcode_mono a (fun ex e1 h1 hh => ?_) (iha hm)
    obtain ⟨hh, s1⟩ := hh
    cases ex with
    | normal => exact mcode_mono b (fun ex e2 h2 ⟨k, s2⟩ => ⟨k, s1.trans s2⟩) (ihb hh)
    | _ => exact ⟨hh, s1.weak fun s hs => List.mem_append_left _ hs⟩
  | cond c a b iha ihb =>
    intro e h K hm
    simp only [mcode] at *
    split at hm
    · exact ⟨fun t => mcode_mono a (fun ex e2 h2 ⟨k, s2⟩ => ⟨k, s2.weak fun s hs => List.mem_append_left _ hs⟩) (iha (hm.1 t)),
        fun t => mcode_mono b (fun ex e2 h2 ⟨k, s2⟩ => ⟨k, s2.weak fun s hs => List.mem_append_right _ hs⟩) (ihb (hm.2 t))⟩
    · exact hm
  | block id b ih =>
    intro e h K hm
    refine mcode_mono b (fun ex e1 h1 hh => ?_) (ih hm)
    obtain ⟨hh, s1⟩ := hh
    cases ex with
    | exit id' => simp only at hh ⊢; split at hh <;> rename_i hid <;> simp only [hid, if_true, if_false] <;> exact ⟨hh, s1⟩
    | _ => exact ⟨hh, s1⟩
  | loop b ih =>
    intro e h K hm
    exact fun R hR => hm R fun e1 h1 Kx s1 hb hn hx => hR e1 h1 Kx s1 hb hn fun ex e' h' hne hk' s' => ⟨hx ex e' h' hne hk' s', s'⟩
  | scope b ih =>
    intro e h K hm
    refine mcode_mono b (fun ex e1 h1 hh => ?_) (ih hm)
    obtain ⟨hh, s1⟩ := hh
    cases ex <;> first | exact hh | exact ⟨hh, s1⟩
  | exit id => intro e h K hm; exact ⟨hm, Same.refl _ _⟩
  | goto l => intro e h K hm; exact ⟨hm, Same.refl _ _⟩
  | ret => intro e h K hm; exact ⟨hm, Same.refl _ _⟩
  | rangeFunc f ps a b => intro e h K hm; exact hm
  | refuse why => intro e h K hm; exact hm

/-- **Code, shown over the partial heap, holds of the model's.** -/
def GoesX (rf : RF) (N : Nat) (w0 : World) (h0 : Hp) (we : World) (K : Exit → ME → Hp → Prop) (ex : Exit) (a : Go.Act) (w : World) : Prop := ∃ e h, At rf N w0 h0 we e h a w ∧ K ex e h
theorem mcode_sound (hmix : P.follows .mixedOrders = true) {w0 : World} {h0 : Hp} {we : World} : ∀ (c : Code) {e : ME} {h : Hp} {a : Go.Act} {w : World} {K : Exit → ME → Hp → Prop}, mcode P rf N cl c e h K → At rf N w0 h0 we e h a w →
    c.wp P (GoesX rf N w0 h0 we K) a w := by
  intro c
  induction c with
  | skip => intro e h a w K hm s; exact wp_skip ⟨e, h, s, hm⟩
  | label l => intro e h a w K hm s; exact wp_label ⟨e, h, s, hm⟩
  | region id ops draw =>
    intro e h a w K hm s
    obtain ⟨hok, hm⟩ := hm
    simp only [okR, Bool.and_eq_true, Bool.or_eq_true, Bool.not_eq_true'] at hok
    have hd := okDst_spec hok.1
    have hQ : ∀ a w, Goes rf N w0 h0 we (K .normal) a w → GoesX rf N w0 h0 we K .normal a w := fun a w ⟨e, h, s, k⟩ => ⟨e, h, s, k⟩
    cases draw with
    | true =>
      obtain ⟨hb, hp⟩ := hok.2.resolve_left (by simp)
      obtain ⟨Inv, hinv, hm⟩ := hm
      refine wp_region_any hmix ?_
      have hrem : (remain ops.size (Array.replicate ops.size false)).map (ops.getD · default) = ops.toList := by
        have h1 : remain ops.size (Array.replicate ops.size false) = List.range ops.size := by
          unfold remain
          rw [List.filter_eq_self]
          intro i hi
          simp [List.mem_range.1 hi]
        rw [h1]
        apply List.ext_getElem
        · simp
        · intro i h1 h2
          simp at h2
          simp [h2]
      refine draw_any hd hb hp hQ ops.size _ e h a _ ⟨by simp, fun j oj hj hl => ?_⟩ ?_ hinv (by rw [hrem]; exact hm) ⟨s.size, s.defers, ⟨⟨s.ext.sat.os, s.ext.sat.tape, s.ext.sat.output, s.ext.sat.size, s.ext.sat.known⟩, s.ext.grow, s.ext.priv⟩, s.rel⟩
      · rcases Nat.lt_or_ge j ops.size with h' | h' <;> simp [h'] at hl
      · have := List.length_filter_le (fun i => !(Array.replicate ops.size false).getD i true) (List.range ops.size)
        simpa [remain] using this
    | false =>
      refine wp_region ?_
      rw [List.range_eq_range', ← Array.length_toList]
      exact list_sound hd hQ ops.toList 0 e h a w (by simp) hm s
  | seq x y ihx ihy =>
    intro e h a w K hm s
    refine wp_seq (wp_mono (ihx hm s) ?_)
    rintro ex a1 w1 ⟨e1, h1, s1, hk⟩
    cases ex with
    | normal => exact ihy hk s1
    | _ => exact ⟨e1, h1, s1, hk⟩
  | cond c x y ihx ihy =>
    intro e h a w K hm s
    simp only [mcode] at hm
    split at hm
    · rename_i t ht
      exact wp_cond_split (s.eval ht) (fun hh => ihx (hm.1 hh) s) (fun hh => ihy (hm.2 hh) s)
    · exact hm.elim
  | block id b ih =>
    intro e h a w K hm s
    refine wp_block (wp_mono (ih hm s) ?_)
    rintro ex a1 w1 ⟨e1, h1, s1, hk⟩
    cases ex with
    | exit id' =>
      simp only [Exit.inBlock]
      simp only at hk
      split at hk
      · rename_i hid; rw [if_pos hid]; exact ⟨e1, h1, s1, hk⟩
      · rename_i hid; rw [if_neg hid]; exact ⟨e1, h1, s1, hk⟩
    | _ => exact ⟨e1, h1, s1, hk⟩
  | loop b ih =>
    intro e h a w K hm s
    intro b0 k cs
    have key : ∀ a w, At rf N w0 h0 we e h a w → ∃ ex a' w', GoesX rf N w0 h0 we K ex a' w' ∧ Arrives P (lone (b0.at a (.code b :: .inLoop b :: k)) cs w) b0 k cs ex a' w' := by
      refine hm (fun e1 h1 => ∀ a w, At rf N w0 h0 we e1 h1 a w → ∃ ex a' w', GoesX rf N w0 h0 we K ex a' w' ∧ Arrives P (lone (b0.at a (.code b :: .inLoop b :: k)) cs w) b0 k cs ex a' w') ?_
      intro e1 h1 Kx s1 hb hn hx a1 w1 hat
      obtain ⟨ex, a2, w2, ⟨e2, h2, hat2, hk, hs2⟩, harr⟩ := ih (mcode_same b hb) hat b0 (.inLoop b :: k) cs
      have s2 : Same (wr rf b) e e2 := fun s hs => by rw [hs2 s hs, s1 s hs]
      cases ex with
      | normal =>
        obtain ⟨ex3, a3, w3, hq3, harr3⟩ := hn e2 h2 hk s2 a2 w2 hat2
        exact ⟨ex3, a3, w3, hq3, .of_steps (Steps.trans harr (.one step_inLoop)) harr3⟩
      | exit id => exact ⟨_, a2, w2, ⟨e2, h2, hat2, hx _ _ _ (by simp) hk s2⟩, .pass (x := .inLoop b) rfl (fun _ _ => .inl (by simp)) harr⟩
      | goto l => exact ⟨_, a2, w2, ⟨e2, h2, hat2, hx _ _ _ (by simp) hk s2⟩, .pass (x := .inLoop b) rfl (fun _ _ => .inl (by simp)) harr⟩
      | ret => exact ⟨_, a2, w2, ⟨e2, h2, hat2, hx _ _ _ (by simp) hk s2⟩, .pass (x := .inLoop b) rfl (fun _ _ => .inl (by simp)) harr⟩
      | panic ch => exact ⟨_, a2, w2, ⟨e2, h2, hat2, hx _ _ _ (by simp) hk s2⟩, .pass (x := .inLoop b) rfl (fun _ _ => .inl (by simp)) harr⟩
      | outgrown => exact ⟨_, a2, w2, ⟨e2, h2, hat2, hx _ _ _ (by simp) hk s2⟩, .pass (x := .inLoop b) rfl (fun _ _ => .inl (by simp)) harr⟩
    obtain ⟨ex, a', w', hq, harr⟩ := key a w s
    exact ⟨ex, a', w', hq, .of_steps (.one step_loop) harr⟩
  | scope b ih =>
    intro e h a w K hm s
    refine wp_scope_straight (wp_mono (ih hm s) ?_)
    rintro ex a1 w1 ⟨e1, h1, s1, hk⟩
    cases ex with
    | goto l => exact hk.elim
    | _ => exact ⟨e1, h1, s1, hk⟩
  | exit id => intro e h a w K hm s; exact wp_exit ⟨e, h, s, hm⟩
  | goto l => intro e h a w K hm s; exact wp_goto ⟨e, h, s, hm⟩
  | ret => intro e h a w K hm s; exact wp_ret ⟨e, h, s, hm⟩
  | rangeFunc f ps x y => intro e h a w K hm s; exact hm.elim
  | refuse why => intro e h a w K hm s; exact hm.elim
end
end Go.Mid
