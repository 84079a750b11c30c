/-
  THE MIDDLE LAYER: a deferred function literal that recovers.
-/
import Derived.Test.YtjipfibbkmmfbaaGreatDoorMidU
import Derived.Test.YtjipfibbkmmfbaaGreatDoorMidW
/-! THE MIDDLE LAYER: a deferred function literal that recovers. -/
namespace Go.Mid
set_option linter.unusedSimpArgs false
set_option linter.unusedVariables false
open Go Go.RowKit

/-- What recover tells, and how the frame beneath leaves then. -/
def recM : FrameMode → Value × FrameMode
  | .panicking ({ v, recovered := false, goexit := false } :: older) => (v, .panicking ({ v, recovered := true } :: older))
  | u => (.nilIface, u)
theorem recD (c₀ : Frame) (u : FrameMode) (cs : List Frame) : (∃ v, recoverD ({ c₀ with mode := u } :: cs) = some (v, { c₀ with mode := (recM u).2 } :: cs) ∧ (recM u).1 = v) ∨ (recoverD ({ c₀ with mode := u } :: cs) = none ∧ recM u = (.nilIface, u)) := by
  cases u with
  | run => exact .inr ⟨rfl, rfl⟩
  | returning => exact .inr ⟨rfl, rfl⟩
  | panicking ch =>
    cases ch with
    | nil => exact .inr ⟨rfl, rfl⟩
    | cons x r =>
      obtain ⟨v, rc, gx⟩ := x
      cases rc <;> cases gx <;> first
        | exact .inl ⟨v, rfl, rfl⟩
        | exact .inr ⟨rfl, rfl⟩
abbrev RC := ME → FrameMode → (ME → FrameMode → Prop) → Prop
def rstep (rf : RF) (ops : Array Oper) (o : Oper) (ih : RC) (e : ME) (u : FrameMode) (K : ME → FrameMode → Prop) : Prop :=
  vguard ops o e fun b e1 => match b with
    | true => match o.op with
      | .call c => match c.callee with
        | .builtin .recover => ih ((dstU o.dst (.v (recM u).1)).app rf e1) (recM u).2 K
        | _ => False
      | .assign x => match ev e1 x with
        | .v y => ih ((dstU o.dst (.v y)).app rf e1) u K
        | _ => False
      | _ => False
    | false => False
def rlist (rf : RF) (ops : Array Oper) (l : List Oper) : RC :=
  List.rec (motive := fun _ => RC) (fun e u K => K e u) (fun o _ ih => rstep rf ops o ih) l
section
variable {P : Program} {rf : RF} {ops : Array Oper} {N : Nat}
theorem rlist_sound {n : Nat} {dz : DZ} {w0 : World} {h0 h : Hp} {we : World} {c₀ : Frame} {cs : List Frame} {K : ME → FrameMode → Prop} {Q : Exit → Go.Act → List Frame → World → Prop} (hd : ∀ (i : Nat) o, ops[i]? = some o → ∀ k, o.dst = some k → k < N)
    (hQ : ∀ e u a w, At rf N dz w0 h0 we e h a w → K e u → Q .normal a ({ c₀ with mode := u } :: cs) w) : ∀ (l : List Oper) (k : Nat) (e : ME) (u : FrameMode) (a : Go.Act) (w : World), (∀ j, l[j]? = ops[k + j]?) → rlist rf ops l e u K → At rf N dz w0 h0 we e h a w →
    wpOpsSIn (FW none) n P ops Q (List.range' k l.length) a ({ c₀ with mode := u } :: cs) w
  | [], _, e, u, a, w, _, hm, s => hQ _ _ _ _ s hm
  | o :: l, k, e, u, a, w, hl, hm, s => by
    have h0' : ops[k]? = some o := by simpa using (hl 0).symm
    have hl' : ∀ j, l[j]? = ops[k + 1 + j]? := fun j => by have := hl (j + 1); simpa [Nat.add_assoc, Nat.add_comm 1 j] using this
    simp only [List.length_cons, List.range'_succ]
    have hm : vguard ops o e fun b e1 => match b with
      | true => match o.op with
        | .call c => match c.callee with
          | .builtin .recover => rlist rf ops l ((dstU o.dst (.v (recM u).1)).app rf e1) (recM u).2 K
          | _ => False
        | .assign x => match ev e1 x with
          | .v y => rlist rf ops l ((dstU o.dst (.v y)).app rf e1) u K
          | _ => False
        | _ => False
      | false => False := hm
    obtain ⟨b, hw, hm⟩ := vguard_elim hm
    cases b with
    | false => exact hm.elim
    | true =>
      simp only at hm
      unfold wpOpsSIn
      rw [h0']
      refine ⟨fun _ _ => trivial, ?_⟩
      rw [if_pos (want_sound s hw)]
      split at hm
      · rename_i c hc
        split at hm
        · rename_i hb
          have hrun : (execOp a.eval o).run P w = .ok .recover w := by
            unfold execOp
            rw [hc]
            simp [resolve, hb, invoke, builtin]
          rw [hrun]
          simp only
          rcases recD c₀ u cs with ⟨v, h1, h2⟩ | ⟨h1, h2⟩
          · rw [h1]
            simp only
            rw [h2] at hm
            exact rlist_sound hd hQ l (k + 1) _ _ _ w hl' hm (s.slot (hd k o h0') v _ (.inl rfl))
          · rw [h1]
            simp only
            rw [h2] at hm
            exact rlist_sound hd hQ l (k + 1) _ _ _ w hl' hm (s.slot (hd k o h0') .nilIface _ (.inl rfl))
        · exact hm.elim
      · rename_i x hx
        split at hm
        · rename_i y hy
          have hrun : (execOp a.eval o).run P w = .ok (.value y) w := by
            unfold execOp
            rw [hx]
            simp [s.eval hy]
          rw [hrun]
          exact rlist_sound hd hQ l (k + 1) _ _ _ w hl' hm (s.slot (hd k o h0') y _ (.inl rfl))
        · exact hm.elim
      · exact hm.elim
/-- **A deferred function that recovers ahead of all else.** -/
theorem xd_of {f : FuncId} {F : Func} {id : Nat} {rest : Code} {args : List Value} {u : FrameMode} {h : Hp} {K : FrameMode → Hp → Prop} (hmix : P.follows .mixedOrders = true) (rf : RF) (pf dr : List Nat) (pm : List (Nat × List Nat)) (hf : P.funcs[f]? = some F) (hb : F.body = some (.seq (.region id ops false) rest))
    (hok : okC (args.length + (F.ntmps - args.length)) rf (clOf P rf pf dr) pm (.seq (.region id ops false) rest) = true) (hflat : flat rest = true)
    (hm : rlist rf ops ops.toList ⟨env0 args, fun _ => none⟩ u fun e u' => vcode P rf (clOf P rf pf dr) pm rest e h fun ex e' h' => match ex with
      | .normal | .ret => resK P rf e' h' F.results.toList fun _ => K u' h'
      | _ => False) : XD P f args.toArray u h K := by
  refine ⟨fun n w0 w hs => ?_⟩
  simp only [okC, Bool.and_eq_true] at hok
  have hok1 : okR (args.length + (F.ntmps - args.length)) rf (clOf P rf pf dr id) pm id ops false = true := hok.1.1
  simp only [okR, Bool.and_eq_true] at hok1
  have hat : At rf (args.length + (F.ntmps - args.length)) ⟨[], true⟩ w0 h w ⟨env0 args, fun _ => none⟩ h { tmps := args.toArray ++ Array.replicate (F.ntmps - args.toArray.size) undef, defers := [] } w := by
    refine ⟨by simp, Marks.nil, Ext.refl hs, fun _ => 0, fun s => ?_, fun t cs hb => (by cases hb), fun t u cs ds hb => (by cases hb), fun s off b he => (by cases he)⟩
    show (args.toArray ++ Array.replicate (F.ntmps - args.toArray.size) undef).getD s undef = args.getD s undef
    simp only [Array.getD_eq_getD_getElem?, List.getD_eq_getElem?_getD, Array.getElem?_append]
    split
    · simp
    · rename_i hge
      simp at hge
      rw [List.getElem?_eq_none hge]
      cases hx : (Array.replicate (F.ntmps - args.toArray.size) undef)[s - args.toArray.size]? with
      | none => rfl
      | some x =>
        obtain ⟨hlt, hx⟩ := Array.getElem?_eq_some_iff.1 hx
        simp at hx; simp [← hx]
  refine callsDIn_of_wpSIn hf hb trivial fun c₀ cs hu => ?_
  have hc0 : c₀ = { c₀ with mode := u } := by subst hu; rfl
  have endd : ∀ {e1 : ME} {h1 : Hp} {a1 : Go.Act} {w1 : World}, At rf (args.length + (F.ntmps - args.length)) ⟨[], true⟩ w0 h w e1 h1 a1 w1 → a1.defers = [] := by
    intro e1 h1 a1 w1 s1
    obtain ⟨bs, ⟨hm, hbare⟩, _, _⟩ := s1.defers
    have := hbare rfl
    subst this
    have := hm.alone
    simpa using this
  refine wpSIn_seq (wpSIn_region ?_)
  rw [List.range_eq_range', ← Array.length_toList]
  have key := rlist_sound (P := P) (n := n) (dz := ⟨[], true⟩) (w0 := w0) (h0 := h) (we := w) (h := h) (c₀ := c₀) (cs := cs) (Q := Exit.thenS (rest.wpSIn (FW none) n P (bodyPostS P F c₀ cs fun e u' w' => ∃ v h', e = .returned v ∧ Ext w0 h w h' w' ∧ K u' h')) (bodyPostS P F c₀ cs fun e u' w' => ∃ v h', e = .returned v ∧ Ext w0 h w h' w' ∧ K u' h')) (okDst_spec hok1.1) (fun e u' a w1 s hk => by
      show rest.wpSIn (FW none) n P _ a _ w1
      refine wpSIn_of_wpIn rfl (wpIn_mono (mcode_sound hmix rest (.inl rfl) (fun _ => hflat) (vcode_elim rest hok.2 hk) s) ?_)
      rintro ex a2 w2 ⟨e2, h2, s2, hk2⟩
      cases ex with
      | normal =>
        obtain ⟨vs, hvs, hk2⟩ := resK_elim _ hk2
        exact ⟨endd s2, u', rfl, shut vs, results_run s2 hvs, shut vs, h2, rfl, s2.ext, hk2⟩
      | ret =>
        obtain ⟨vs, hvs, hk2⟩ := resK_elim _ hk2
        exact ⟨endd s2, u', rfl, shut vs, results_run s2 hvs, shut vs, h2, rfl, s2.ext, hk2⟩
      | panic ch => exact hk2.elim
      | exit id => exact hk2.elim
      | goto l => exact hk2.elim
      | outgrown => exact hk2.elim) ops.toList 0 _ u _ w (by simp) hm hat
  rw [← hc0] at key
  exact key
end
end Go.Mid
/-! THE MIDDLE LAYER: what an interface value holds, asserted. -/
namespace Go.Mid
set_option linter.unusedSimpArgs false
set_option linter.unusedVariables false
open Go Go.RowKit
/-- It holds a value of the asserted type. -/
theorem sem_ta {P : Program} {xt asserted : TypeId} {v : Value} {u : TypeDesc} (hu : P.underlying asserted = some u) (hni : ∀ ms, u ≠ .interface ms)
    {ρ : Operand → Value} {o : Oper} {x : Operand} {h : Hp} {K : Next → Hp → Prop} (ho : o.op = .typeAssert x xt asserted true) (hx : ρ x = .iface asserted v) (hk : K (.value (.tuple #[v, .bool true])) h) : semK P (execOp ρ o) h K := by
  refine ⟨?_⟩
  have e : execOp ρ o = (Instr.typeAssert (.iface asserted v) xt asserted true >>= fun v => Pure.pure (Next.value v)) := by
    unfold execOp
    simp only [ho, hx]
  rw [e]
  refine mid_bind2 ?_
  unfold Instr.typeAssert
  refine mid_bind2 (mid_underlying hu ?_)
  cases u <;> first
    | exact (hni _ rfl).elim
    | (simp only [if_true]; exact hk)
theorem XD.arg {P : Program} {f : FuncId} {args args' : Array Value} {u : FrameMode} {h : Hp} {K : FrameMode → Hp → Prop} (e : args = args') (x : XD P f args' u h K) : XD P f args u h K := e ▸ x
theorem settle_ret : settle .returning ≠ .run := by simp [settle]
theorem settle_rec {v : Value} {r : List PanicEntry} (hr : r.dropWhile (!·.goexit) = []) : settle (.panicking ({ v := v, recovered := true } :: r)) = .returning := by
  unfold settle
  simp [hr]
end Go.Mid
