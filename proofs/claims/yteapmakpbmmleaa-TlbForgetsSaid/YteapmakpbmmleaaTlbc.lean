/-
  A cache that is not there: the walk of TlbNone.
-/
import Derived.Test.YteapmakpbmmleaaTlbb
namespace Go.Proofs.Yteapmakpbmmleaa
set_option linter.unusedSimpArgs false
set_option linter.unusedVariables false
open Go Go.Mid Go.RowKit
attribute [local irreducible] mid structOk
set_option maxHeartbeats 8000000 in
set_option maxRecDepth 10000 in
theorem none_law (e : En) (r : Rq) (va : Int) (h : Hp) : X Try.prog 5 #[e.v, r.v, .int .u64 va] h fun v h' => v = .bool true ∧ h.le h' := by
  refine fnv (args := _) mixed [(3, 3), (14, 3), (4, 4), (8, 8)] [] [] Try.func5 rfl (by kernel_rfl) ?_
  conv => whnf
  refine fnv (args := _) mixed [(6, 6), (11, 11)] [] [36] Try.func12 rfl (by kernel_rfl) ?_
  conv => whnf
  refine fnv (args := _) mixed [(4, 4), (7, 7)] [] [19] Try.func26 rfl (by kernel_rfl) ?_
  conv => whnf
  refine new_x 1 _ _ (fun hb => absurd hb (by decide)) (fun _ _ c h1 hle _ t1 _ => ?_)
  conv => whnf
  first | refine need_intro (by kernel_rfl) ?_ | refine must.mk (by kernel_rfl) ?_
  conv => whnf
  refine fnv (args := _) mixed [(3, 3), (9, 3), (14, 3), (19, 3), (24, 3), (28, 3), (30, 3), (33, 3)] [] [] Try.func8 rfl (by kernel_rfl) ?_
  conv => whnf
  refine fnv (args := _) mixed [] [] [] Try.func9 rfl (by kernel_rfl) ?_
  conv => whnf
  refine new_intro (o := rowO 27 r.cells) (fun br H n_br le_br at_br ot_br => ?_)
  conv => whnf
  refine fnv (args := _) mixed [(5, 5)] [] [] Try.func10 rfl (by kernel_rfl) ?_
  conv => whnf
  refine fnp (args := _) mixed [(5, 5)] [] [11] [(3, [0, 1, 2, 3, 4, 5, 6, 7, 8, 10, 11, 12, 13, 14, 9, 15, 16, 17])] Try.func16 rfl (by kernel_rfl) ?_
  conv => whnf
  refine fnv (args := _) mixed [] [] [] Try.func17 rfl (by kernel_rfl) ?_
  conv => whnf
  refine fnv (args := _) mixed [] [] [] Try.func17 rfl (by kernel_rfl) ?_
  conv => whnf
  refine fnv (args := _) mixed [] [] [] Try.func17 rfl (by kernel_rfl) ?_
  conv => whnf
  refine live_x _ _ ?_
  conv => whnf
  exact ⟨rfl, Hp.le_trans hle le_br⟩
theorem wf_en {h : Hp} {cs : List Value} (w : Wf h (.struct [.int .i64, .int .u64, .int .i64, .int .u64]) cs) : ∃ e : En, e.ok ∧ cs = e.cells := by
  simp only [Wf, Wfs] at w
  obtain ⟨_, _, rfl, _, ⟨a, rfl, ha⟩, _, _, rfl, _, ⟨b, rfl, hb⟩, _, _, rfl, _, ⟨c, rfl, hc⟩, _, _, rfl, _, ⟨d, rfl, hd⟩, rfl⟩ := w
  have := wf_u64 hb
  have := wf_u64 hd
  exact ⟨⟨a, b, c, d⟩, ⟨wf_u64 hb, wf_u64 hd⟩, rfl⟩
theorem wf_rq {h : Hp} {cs : List Value} (w : Wf h (.struct [.bool, .bool, .bool, .int .u64, .int .i64]) cs) : ∃ r : Rq, r.ok ∧ cs = r.cells := by
  simp only [Wf, Wfs] at w
  obtain ⟨_, _, rfl, _, ⟨a, rfl⟩, _, _, rfl, _, ⟨b, rfl⟩, _, _, rfl, _, ⟨c, rfl⟩, _, _, rfl, _, ⟨d, rfl, hd⟩, _, _, rfl, _, ⟨e, rfl, he⟩, rfl⟩ := w
  exact ⟨⟨a, b, c, d, e⟩, wf_u64 hd, rfl⟩
theorem wf_de {h : Hp} {cs : List Value} (w : Wf h (.struct [.int .i64, .struct [.int .i64, .int .u64, .int .i64, .int .u64], .struct [.bool, .bool, .bool, .int .u64, .int .i64]]) cs) : ∃ d : De, d.ok ∧ cs = d.cells := by
  unfold Wf at w
  unfold Wfs at w
  obtain ⟨_, _, rfl, _, h1, w⟩ := w
  unfold Wf at h1
  obtain ⟨n, rfl, _⟩ := h1
  unfold Wfs at w
  obtain ⟨_, _, rfl, _, h2, w⟩ := w
  obtain ⟨e, he, rfl⟩ := wf_en h2
  unfold Wfs at w
  obtain ⟨_, _, rfl, _, h3, w⟩ := w
  obtain ⟨r, hr, rfl⟩ := wf_rq h3
  unfold Wfs at w
  subst w
  refine ⟨⟨n, e, r⟩, ⟨he, hr⟩, ?_⟩
  rw [List.append_nil]
  rfl
theorem tlbNone_w {cs0 cs1 cs2 : List Value} (w : World) (w0 : Wf (whole w) (.struct [.int .i64, .int .u64, .int .i64, .int .u64]) cs0) (_ : cs0.length = 4) (w1 : Wf (whole w) (.struct [.bool, .bool, .bool, .int .u64, .int .i64]) cs1) (_ : cs1.length = 5) (w2 : Wf (whole w) (.int .u64) cs2) (_ : cs2.length = 1) :
    X Try.prog 5 #[.agg cs0.toArray, .agg cs1.toArray, cs2.headD undef] (whole w) fun v h' => v = .bool true ∧ (whole w).le h' := by
  obtain ⟨e, _, rfl⟩ := wf_en w0
  obtain ⟨r, _, rfl⟩ := wf_rq w1
  unfold Wf at w2
  obtain ⟨va, rfl, _⟩ := w2
  exact none_law e r va _
end Go.Proofs.Yteapmakpbmmleaa
