/-
  THE MIDDLE LAYER, PART ELEVEN: regions, code and functions in the form in which 'whnf' goes through them.
-/
import Derived.Test.YtmegglmeiecnfaaGreatMidJ
namespace Go.Mid
open Go Go.RowKit

/-- A guard; where it is not known the slot it hangs on is known in either arm. -/
def vguard (ops : Array Oper) (o : Oper) (e : ME) (F : Bool → ME → Prop) : Prop :=
  match o.guard with
  | none => F true e
  | some (j, want) => match (ops[j]?).bind (·.dst) with
    | some d => match e.env d with
      | .v (.bool b) => bcase b fun b' => F (b' == want) ⟨upd e.env d (.v (.bool b')), e.box⟩
      | .v _ => F false e
      | .ref _ => F false e
      | .junk => False
    | none => F false e
theorem upd_eq {α : Type} (f : Nat → α) (k : Nat) {x : α} (h : f k = x) : upd f k x = f := by
  funext s; unfold upd; split
  · rename_i hs; rw [hs, h]
  · rfl
theorem vguard_elim {ops : Array Oper} {o : Oper} {e : ME} {F : Bool → ME → Prop} (h : vguard ops o e F) : ∃ b, wantM ops o e = some b ∧ F b e := by
  unfold vguard at h
  unfold wantM
  split at h
  · rename_i hg; rw [hg]; exact ⟨true, rfl, h⟩
  · rename_i j want hg
    rw [hg]
    simp only
    split at h
    · rename_i d hd
      rw [hd]
      simp only
      split at h
      · rename_i b hb
        have := bcase_elim h
        rw [hb]
        rw [upd_eq _ _ hb] at this
        exact ⟨_, rfl, this⟩
      · rename_i y hn hy
        rw [hy]
        refine ⟨false, ?_, h⟩
        cases y <;> first | rfl | exact (hn _ rfl).elim
      · rename_i off hy; rw [hy]; exact ⟨false, rfl, h⟩
      · exact h.elim
    · rename_i hd; rw [hd]; exact ⟨false, rfl, h⟩
/-- What is done with the heap; what it owes stands at the head. -/
def aRunK (P : Program) : Action → Hp → (Value → Hp → Prop) → Prop
  | .sem s, h, K => mid P s h fun nx h' => fin P nx h' K
  | .rd f, h, K => ∃ v, f h = some v ∧ K v h
  | .wr f, h, K => ∃ bo, f h = some bo ∧ K undef (h.set bo.1 bo.2)
  | .nw o v, h, K => ∀ b, h b = none → K (v b) (h.set b o)
  | .call g args, h, K => X P g args.toArray h K
theorem aRunK_elim {P : Program} {A : Action} {h : Hp} {K : Value → Hp → Prop} (hr : aRunK P A h K) : aRun P A h K := by
  cases A with
  | rd f => obtain ⟨v, hv, hk⟩ := hr; simp only [aRun, hv]; exact hk
  | wr f => obtain ⟨⟨b, o⟩, hv, hk⟩ := hr; simp only [aRun, hv]; exact hk
  | _ => exact hr
def runK (P : Program) (rf : RF) (o : Oper) (pl : Plan) (e : ME) (h : Hp) (K : ME → Hp → Prop) : Prop :=
  match pl with
  | .upd u => K (u.app rf e) h
  | .act A => aRunK P A h fun v h' => K ((dstU o.dst (.v v)).app rf e) h'
theorem runK_elim {P : Program} {rf : RF} {o : Oper} {pl : Plan} {e : ME} {h : Hp} {K : ME → Hp → Prop} (hr : runK P rf o pl e h K) : run1 P rf o (some pl) e h K := by
  cases pl with
  | upd u => exact hr
  | act A => exact aRunK_elim hr
def bRunK (P : Program) (A : Action) (h : Hp) (K : Value → Prop) : Prop :=
  match A with
  | .rd f => ∃ v, f h = some v ∧ K v
  | .call g args => ∃ v, X P g args.toArray h (fun v' h' => v' = v ∧ h' = h) ∧ K v
  | _ => False
def mrunK (P : Program) (rf : RF) (Inv : Hp → Prop) (cl : Cl) (o : Oper) (pl : Plan) (e : ME) (h : Hp) (K : ME → Hp → Prop) : Prop :=
  match cl with
  | .a => match pl with
    | .upd u => K (u.app rf e) h
    | .act _ => False
  | .b => match pl with
    | .upd u => K (u.app rf e) h
    | .act A => bRunK P A h fun v => K ((dstU o.dst (.v v)).app rf e) h
  | .c => runK P rf o pl e h fun e' h' => Inv h' ∧ K e' h'
  | .d => match pl with
    | .upd u => K (u.app rf e) h
    | .act (.rd f) => ∃ v, (∀ h, Inv h → f h = some v) ∧ K ((dstU o.dst (.v v)).app rf e) h
    | .act _ => False
theorem mrunK_elim {P : Program} {rf : RF} {Inv : Hp → Prop} {cl : Cl} {o : Oper} {pl : Plan} {e : ME} {h : Hp} {K : ME → Hp → Prop} (hr : mrunK P rf Inv cl o pl e h K) : mrun P rf Inv cl o (some pl) e h K := by
  cases cl with
  | a =>
    cases pl with
    | upd u => exact hr
    | act A => exact hr.elim
  | b =>
    cases pl with
    | upd u => exact hr
    | act A =>
      cases A with
      | rd f =>
        obtain ⟨v, hv, hk⟩ := hr
        show (match f h with | some v => K ((dstU o.dst (.v v)).app rf e) h | none => False)
        rw [hv]; exact hk
      | call g args => exact hr
      | _ => exact hr.elim
  | c =>
    have hr : runK P rf o pl e h (fun e' h' => Inv h' ∧ K e' h') := hr
    show run1 P rf o (some pl) e h (fun e' h' => Inv h' ∧ K e' h')
    exact runK_elim hr
  | d =>
    cases pl with
    | upd u => exact hr
    | act A =>
      cases A with
      | rd f => exact hr
      | _ => exact hr.elim
def vlist (P : Program) (rf : RF) (ops : Array Oper) : List Oper → ME → Hp → (ME → Hp → Prop) → Prop
  | [], e, h, K => K e h
  | o :: rest, e, h, K => vguard ops o e fun b e1 => match b with
    | true => planK P rf o e1 fun pl => runK P rf o pl e1 h fun e' h' => vlist P rf ops rest e' h' K
    | false => vlist P rf ops rest ((dstU o.dst (.v undef)).app rf e1) h K
def vdraw (P : Program) (rf : RF) (Inv : Hp → Prop) (cl : Oper → Cl) (ops : Array Oper) : List Oper → ME → Hp → (ME → Hp → Prop) → Prop
  | [], e, h, K => K e h
  | o :: rest, e, h, K => vguard ops o e fun b e1 => match b with
    | true => planK P rf o e1 fun pl => mrunK P rf Inv (cl o) o pl e1 h fun e' h' => vdraw P rf Inv cl ops rest e' h' K
    | false => vdraw P rf Inv cl ops rest ((dstU o.dst (.v undef)).app rf e1) h K
theorem vlist_elim {P : Program} {rf : RF} {ops : Array Oper} {K : ME → Hp → Prop} : ∀ (l : List Oper) (e : ME) (h : Hp), vlist P rf ops l e h K → mlist P rf ops l e h K
  | [], _, _, hr => hr
  | o :: rest, e, h, hr => by
    obtain ⟨b, hw, hr⟩ := vguard_elim hr
    show run1 P rf o (planG P rf ops o e) e h _
    unfold planG
    rw [hw]
    cases b with
    | true =>
      obtain ⟨pl, hp, hk⟩ := planK_elim hr
      simp only [if_true, hp]
      exact run1_mono (fun e' h' hh => vlist_elim rest e' h' hh) (runK_elim hk)
    | false => exact vlist_elim rest _ h hr
theorem vdraw_elim {P : Program} {rf : RF} {Inv : Hp → Prop} {cl : Oper → Cl} {ops : Array Oper} {K : ME → Hp → Prop} : ∀ (l : List Oper) (e : ME) (h : Hp), Inv h → vdraw P rf Inv cl ops l e h K → mdraw P rf Inv cl ops l e h K
  | [], _, _, _, hr => hr
  | o :: rest, e, h, hi, hr => by
    obtain ⟨b, hw, hr⟩ := vguard_elim hr
    show mrun P rf Inv (cl o) o (planG P rf ops o e) e h _
    unfold planG
    rw [hw]
    cases b with
    | true =>
      obtain ⟨pl, hp, hk⟩ := planK_elim hr
      simp only [if_true, hp]
      have h1 := mrunK_elim hk
      generalize cl o = k at *
      cases k with
      | a =>
        unfold mrun at *
        simp only at *
        split at h1
        · exact vdraw_elim rest _ h hi h1
        · exact h1
      | b => unfold mrun at *; simp only at *; obtain ⟨u, q1, q2, _⟩ := runB_spec h1; exact q2 (vdraw_elim rest _ h hi q1)
      | c =>
        have h1 : run1 P rf o (some pl) e h (fun e' h' => Inv h' ∧ vdraw P rf Inv cl ops rest e' h' K) := h1
        show run1 P rf o (some pl) e h (fun e' h' => Inv h' ∧ mdraw P rf Inv cl ops rest e' h' K)
        exact run1_mono (fun e' h' ⟨x, y⟩ => ⟨x, vdraw_elim rest e' h' x y⟩) h1
      | d => unfold mrun at *; simp only at *; obtain ⟨u, q1, q2, _⟩ := runD_spec h1; exact q2 (vdraw_elim rest _ h hi q1)
    | false =>
      simp only [Bool.false_eq_true, if_false]
      have := vdraw_elim rest _ h hi hr
      cases cl o <;> first | exact this | exact ⟨hi, this⟩
/-- Is there an operation that reads what stays as it is? -/
def anyD (cl : Oper → Cl) (ops : Array Oper) : Bool := ops.toList.any fun o => match cl o with
  | .d => true
  | _ => false
def vcode (P : Program) (rf : RF) (cl : Nat → Oper → Cl) : Code → ME → Hp → (Exit → ME → Hp → Prop) → Prop
  | .skip, e, h, K => K .normal e h
  | .label _, e, h, K => K .normal e h
  | .region id ops draw, e, h, K => match draw with
    | true => match anyD (cl id) ops with
      | true => ∃ Inv : Hp → Prop, Inv h ∧ vdraw P rf Inv (cl id) ops ops.toList e h (K .normal)
      | false => vdraw P rf (fun _ => True) (cl id) ops ops.toList e h (K .normal)
    | false => vlist P rf ops ops.toList e h (K .normal)
  | .seq a b, e, h, K => vcode P rf cl a e h fun ex e' h' => match ex with
    | .normal => vcode P rf cl b e' h' K
    | ex => K ex e' h'
  | .cond c a b, e, h, K => match ev e c with
    | .v (.bool t) => bcase t fun t => match t with
      | true => vcode P rf cl a e h K
      | false => vcode P rf cl b e h K
    | _ => False
  | .block id b, e, h, K => vcode P rf cl b e h fun ex e' h' => match ex with
    | .exit id' => match Nat.beq id' id with
      | true => K .normal e' h'
      | false => K (.exit id') e' h'
    | ex => K ex e' h'
  | .loop b, e, h, K => MLoop (wr rf b) (fun e h K => vcode P rf cl b e h K) e h K
  | .scope b, e, h, K => vcode P rf cl b e h fun ex e' h' => match ex with
    | .goto _ => False
    | ex => K ex e' h'
  | .exit id, e, h, K => K (.exit id) e h
  | .goto l, e, h, K => K (.goto l) e h
  | .ret, e, h, K => K .ret e h
  | .rangeFunc .., _, _, _ => False
  | .refuse _, _, _, _ => False
theorem vcode_elim {P : Program} {rf : RF} {cl : Nat → Oper → Cl} {N : Nat} : ∀ (c : Code) {e : ME} {h : Hp} {K : Exit → ME → Hp → Prop}, okC N rf cl c = true → vcode P rf cl c e h K → mcode P rf N cl c e h K := by
  intro c
  induction c with
  | skip => intro e h K _ hm; exact hm
  | label l => intro e h K _ hm; exact hm
  | region id ops draw =>
    intro e h K hk hm
    refine ⟨hk, ?_⟩
    cases draw with
    | true =>
      have hm : (match anyD (cl id) ops with
        | true => ∃ Inv : Hp → Prop, Inv h ∧ vdraw P rf Inv (cl id) ops ops.toList e h (K .normal)
        | false => vdraw P rf (fun _ => True) (cl id) ops ops.toList e h (K .normal)) := hm
      generalize anyD (cl id) ops = bb at hm
      cases bb with
      | true => obtain ⟨Inv, hi, hm⟩ := hm; exact ⟨Inv, hi, vdraw_elim _ _ _ hi hm⟩
      | false => exact ⟨fun _ => True, trivial, vdraw_elim _ _ _ trivial hm⟩
    | false => exact vlist_elim _ _ _ hm
  | seq a b iha ihb =>
    intro e h K hk hm
    simp only [okC, Bool.and_eq_true] at hk
    refine mcode_mono a (fun ex e1 h1 hh => ?_) (iha hk.1 hm)
    cases ex <;> first | exact ihb hk.2 hh | exact hh
  | cond c a b iha ihb =>
    intro e h K hk hm
    simp only [okC, Bool.and_eq_true] at hk
    simp only [vcode] at hm
    simp only [mcode]
    split at hm
    · rename_i t ht
      rw [ht]
      have := bcase_elim hm
      exact ⟨fun tt => by subst tt; exact iha hk.1 this, fun tt => by subst tt; exact ihb hk.2 this⟩
    · exact hm.elim
  | block id b ih =>
    intro e h K hk hm
    refine mcode_mono b (fun ex e1 h1 hh => ?_) (ih (by simpa only [okC] using hk) hm)
    cases ex with
    | exit id' =>
      simp only at hh ⊢
      split at hh
      · rename_i hid; rw [if_pos (Nat.eq_of_beq_eq_true hid)]; exact hh
      · rename_i hid; rw [if_neg (fun hid' => by subst hid'; rw [Nat.beq_refl] at hid; cases hid)]; exact hh
    | _ => exact hh
  | loop b ih =>
    intro e h K hk hm
    exact fun R hR => hm R fun e1 h1 Kx s1 hb hn hx => hR e1 h1 Kx s1 (ih (by simpa only [okC] using hk) hb) hn hx
  | scope b ih => intro e h K hk hm; exact ih (by simpa only [okC] using hk) hm
  | exit id => intro e h K _ hm; exact hm
  | goto l => intro e h K _ hm; exact hm
  | ret => intro e h K _ hm; exact hm
  | rangeFunc f ps a b => intro e h K _ hm; exact hm
  | refuse why => intro e h K _ hm; exact hm
/-- **A function.** rf: its boxes; pf: the functions that leave the heap as it is. -/
theorem fnv {P : Program} {f : FuncId} {F : Func} {c : Code} {args : List Value} {h : Hp} {K : Value → Hp → Prop} (hmix : P.follows .mixedOrders = true) (rf : RF) (pf dr : List Nat) (hf : P.funcs[f]? = some F) (hb : F.body = some c)
    (hok : okC (args.length + (F.ntmps - args.length)) rf (clOf P rf pf dr) c = true)
    (hm : vcode P rf (clOf P rf pf dr) c ⟨env0 args, fun _ => none⟩ h (ends P rf F K)) : X P f args.toArray h K :=
  X_of hmix rf (clOf P rf pf dr) hf hb (vcode_elim c hok hm)
/-- A loop: give a relation that bears a number. -/
theorem loop_intro {M : List Nat} {B : ME → Hp → (Exit → ME → Hp → Prop) → Prop} {e : ME} {h : Hp} {K : Exit → ME → Hp → Prop} (I : Nat → (Nat → MV) → (Nat → Option (List Value)) → Hp → Prop) (n0 : Nat) (h0 : I n0 e.env e.box h)
    (hr : ∀ n m bx h, I n m bx h → B ⟨mix M m e.env, bx⟩ h fun ex e' h' => match ex with
      | .normal => ∃ n', n' < n ∧ I n' e'.env e'.box h'
      | ex => K ex e' h') : MLoop M B e h K := by
  intro R hR
  have key : ∀ n e1 h1, Same M e e1 → I n e1.env e1.box h1 → R e1 h1 := by
    intro n
    induction n using Nat.strongRecOn with
    | _ n ih =>
      intro e1 h1 s1 hI
      have he : e1 = ⟨mix M e1.env e.env, e1.box⟩ := by
        cases e1 with
        | mk env box =>
          congr 1
          funext k
          unfold mix
          split
          · rfl
          · rename_i hk; exact s1 k hk
      have hb := hr n e1.env e1.box h1 hI
      rw [← he] at hb
      refine hR e1 h1 _ s1 hb (fun e' h' hk s' => ?_) (fun ex e' h' hne hk _ => ?_)
      · obtain ⟨n', hlt, hI'⟩ := hk
        exact ih n' hlt e' h' s' hI'
      · cases ex <;> first | exact (hne rfl).elim | exact hk
  exact key n0 e h (Same.refl _ _) h0
def setS {α : Type} : List Nat → List α → (Nat → α) → (Nat → α)
  | s :: ss, v :: vs, f => upd (setS ss vs f) s v
  | _, _, f => f
theorem setS_same {α : Type} (f : Nat → α) : ∀ ss : List Nat, setS ss (ss.map f) f = f
  | [] => rfl
  | s :: ss => by show upd (setS ss (ss.map f) f) s (f s) = f; rw [setS_same f ss, upd_eq f s rfl]
/-- A loop: a relation on the slots and boxes that are named, which bears a number. -/
theorem loop_at {M : List Nat} {B : ME → Hp → (Exit → ME → Hp → Prop) → Prop} {e : ME} {h : Hp} {K : Exit → ME → Hp → Prop} (ss bs : List Nat) (I : Nat → List MV → List (Option (List Value)) → Hp → Prop) (n0 : Nat) (h0 : I n0 (ss.map e.env) (bs.map e.box) h)
    (hr : ∀ n vs cs m bx h, I n vs cs h → B ⟨setS ss vs (mix M m e.env), setS bs cs bx⟩ h fun ex e' h' => match ex with
      | .normal => ∃ n', n' < n ∧ I n' (ss.map e'.env) (bs.map e'.box) h'
      | ex => K ex e' h') : MLoop M B e h K := by
  intro R hR
  have key : ∀ n e1 h1, Same M e e1 → I n (ss.map e1.env) (bs.map e1.box) h1 → R e1 h1 := by
    intro n
    induction n using Nat.strongRecOn with
    | _ n ih =>
      intro e1 h1 s1 hI
      have he : (⟨setS ss (ss.map e1.env) (mix M e1.env e.env), setS bs (bs.map e1.box) e1.box⟩ : ME) = e1 := by
        have hm : mix M e1.env e.env = e1.env := by
          funext k
          unfold mix
          split
          · rfl
          · rename_i hk; exact (s1 k hk).symm
        rw [hm, setS_same, setS_same]
      have hb := hr n _ _ e1.env e1.box h1 hI
      rw [he] at hb
      refine hR e1 h1 _ s1 hb (fun e' h' hk s' => ?_) (fun ex e' h' hne hk _ => ?_)
      · obtain ⟨n', hlt, hI'⟩ := hk
        exact ih n' hlt e' h' s' hI'
      · cases ex <;> first | exact (hne rfl).elim | exact hk
  exact key n0 e h (Same.refl _ _) h0
/-- A loop, one round. -/
theorem loop_step {M : List Nat} {B : ME → Hp → (Exit → ME → Hp → Prop) → Prop} {e : ME} {h : Hp} {K : Exit → ME → Hp → Prop} (hr : B e h fun ex e' h' => match ex with
      | .normal => MLoop M B e' h' K
      | ex => K ex e' h') : MLoop M B e h K := by
  intro R hR
  refine hR e h _ (Same.refl _ _) hr (fun e' h' hk s' => ?_) (fun ex e' h' hne hk _ => ?_)
  · exact hk R fun e1 h1 Kx s1 hb hn hx => hR e1 h1 Kx (fun s hs => by rw [s1 s hs, s' s hs]) hb (fun e2 h2 hk2 s2 => hn e2 h2 hk2 fun s hs => by rw [s2 s hs, s' s hs])
      (fun ex e2 h2 hne hk2 s2 => hx ex e2 h2 hne hk2 fun s hs => by rw [s2 s hs, s' s hs])
  · cases ex <;> first | exact (hne rfl).elim | exact hk
end Go.Mid
