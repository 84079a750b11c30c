/-
  Logs: events as data; the chapter's example.
-/
import Derived.Test.YtcmhfofmloiaiaaGreatDoorTr4
import Derived.Test.YtcmhfofmloiaiaaGreatDoorLibC
import Derived.Test.YtcmhfofmloiaiaaGreatDoorMidY
import Derived.LaidMore
import Derived.LaidSub
import Derived.MakeChecks
import Derived.Lib.LaidTab
namespace Go.Proofs.YtcmhfofmloiaiaaGreatDoor
set_option linter.unusedSimpArgs false
set_option linter.unusedVariables false
open Go Go.Mid Go.RowKit
attribute [local irreducible] mid
section
set_option maxHeartbeats 8000000
set_option maxRecDepth 10000
variable {h : Hp} {K : Value → Hp → Prop}
abbrev shRq : Sh := .struct [.bool, .bool, .bool, (.int .u64), (.int .i64)]
abbrev shEn : Sh := .struct [(.int .i64), (.int .u64), (.int .i64), (.int .u64)]
abbrev shAk : Sh := .struct [(.int .i64), (.int .u64), (.int .u64), (.int .i64), (.int .i64), (.int .i64), (.int .u64), (.int .u64), .bool, (.int .i64), shRq, shEn]
abbrev shAn : Sh := .struct [(.int .u64), .bool, (.array 8 shRq)]
abbrev shEv : Sh := .struct [(.int .i64), shAk, shAn, (.int .i64), (.int .i64), (.int .i64)]
theorem rq_of {cs : List Value} (w : Wf h shRq cs) : ∃ q : Rq, q.ok ∧ cs = q.cs := by
  obtain ⟨a1, b1, rfl, w1, w⟩ := wfC (wfS w)
  obtain ⟨a2, b2, rfl, w2, w⟩ := wfC w
  obtain ⟨a3, b3, rfl, w3, w⟩ := wfC w
  obtain ⟨a4, b4, rfl, w4, w⟩ := wfC w
  obtain ⟨a5, b5, rfl, w5, w⟩ := wfC w
  obtain rfl := wfN w
  obtain ⟨x1, rfl⟩ := wfB w1
  obtain ⟨x2, rfl⟩ := wfB w2
  obtain ⟨x3, rfl⟩ := wfB w3
  obtain ⟨x4, rfl, p4⟩ := wfU w4
  obtain ⟨x5, rfl, p5, q5⟩ := wfI w5
  exact ⟨⟨x1, x2, x3, x4, x5⟩, ⟨p4, p5, q5⟩, rfl⟩
theorem en_of {cs : List Value} (w : Wf h shEn cs) : ∃ q : En, q.ok ∧ cs = q.cs := by
  obtain ⟨a1, b1, rfl, w1, w⟩ := wfC (wfS w)
  obtain ⟨a2, b2, rfl, w2, w⟩ := wfC w
  obtain ⟨a3, b3, rfl, w3, w⟩ := wfC w
  obtain ⟨a4, b4, rfl, w4, w⟩ := wfC w
  obtain rfl := wfN w
  obtain ⟨x1, rfl, p1, q1⟩ := wfI w1
  obtain ⟨x2, rfl, p2⟩ := wfU w2
  obtain ⟨x3, rfl, p3, q3⟩ := wfI w3
  obtain ⟨x4, rfl, p4⟩ := wfU w4
  exact ⟨⟨x1, x2, x3, x4⟩, ⟨p1, q1, p2, p3, q3, p4⟩, rfl⟩
theorem ak_of {cs : List Value} (w : Wf h shAk cs) : ∃ q : Ak, q.ok ∧ cs = q.cs := by
  obtain ⟨a1, b1, rfl, w1, w⟩ := wfC (wfS w)
  obtain ⟨a2, b2, rfl, w2, w⟩ := wfC w
  obtain ⟨a3, b3, rfl, w3, w⟩ := wfC w
  obtain ⟨a4, b4, rfl, w4, w⟩ := wfC w
  obtain ⟨a5, b5, rfl, w5, w⟩ := wfC w
  obtain ⟨a6, b6, rfl, w6, w⟩ := wfC w
  obtain ⟨a7, b7, rfl, w7, w⟩ := wfC w
  obtain ⟨a8, b8, rfl, w8, w⟩ := wfC w
  obtain ⟨a9, b9, rfl, w9, w⟩ := wfC w
  obtain ⟨a10, b10, rfl, w10, w⟩ := wfC w
  obtain ⟨a11, b11, rfl, w11, w⟩ := wfC w
  obtain ⟨a12, b12, rfl, w12, w⟩ := wfC w
  obtain rfl := wfN w
  obtain ⟨x1, rfl, p1, q1⟩ := wfI w1
  obtain ⟨x2, rfl, p2⟩ := wfU w2
  obtain ⟨x3, rfl, p3⟩ := wfU w3
  obtain ⟨x4, rfl, p4, q4⟩ := wfI w4
  obtain ⟨x5, rfl, p5, q5⟩ := wfI w5
  obtain ⟨x6, rfl, p6, q6⟩ := wfI w6
  obtain ⟨x7, rfl, p7⟩ := wfU w7
  obtain ⟨x8, rfl, p8⟩ := wfU w8
  obtain ⟨x9, rfl⟩ := wfB w9
  obtain ⟨x10, rfl, p10, q10⟩ := wfI w10
  obtain ⟨x11, p11, rfl⟩ := rq_of w11
  obtain ⟨x12, p12, rfl⟩ := en_of w12
  exact ⟨⟨x1, x2, x3, x4, x5, x6, x7, x8, x9, x10, x11, x12⟩, ⟨p2, p3, p4, q4, p5, q5, p7, p8, p10, q10, p11, p12⟩, by simp [Ak.cs]⟩
theorem an_of {cs : List Value} (w : Wf h shAn cs) : ∃ q : An, q.ok ∧ cs = q.cs := by
  obtain ⟨a1, b1, rfl, w1, w⟩ := wfC (wfS w)
  obtain ⟨a2, b2, rfl, w2, w⟩ := wfC w
  obtain ⟨a3, b3, rfl, w3, w⟩ := wfC w
  obtain rfl := wfN w
  obtain ⟨x1, rfl, p1⟩ := wfU w1
  obtain ⟨x2, rfl⟩ := wfB w2
  obtain ⟨l, hl, ho, rfl⟩ := wfA (fun _ => rq_of) w3
  match l, hl with
  | [m0, m1, m2, m3, m4, m5, m6, m7], _ => exact ⟨⟨x1, x2, m0, m1, m2, m3, m4, m5, m6, m7⟩, ⟨p1, ho⟩, by simp [An.cs, An.ms]⟩
theorem ev_of {cs : List Value} (w : Wf h shEv cs) : ∃ q : Ev, q.ok ∧ cs = q.cs := by
  obtain ⟨a1, b1, rfl, w1, w⟩ := wfC (wfS w)
  obtain ⟨a2, b2, rfl, w2, w⟩ := wfC w
  obtain ⟨a3, b3, rfl, w3, w⟩ := wfC w
  obtain ⟨a4, b4, rfl, w4, w⟩ := wfC w
  obtain ⟨a5, b5, rfl, w5, w⟩ := wfC w
  obtain ⟨a6, b6, rfl, w6, w⟩ := wfC w
  obtain rfl := wfN w
  obtain ⟨x1, rfl, p1, q1⟩ := wfI w1
  obtain ⟨x2, p2, rfl⟩ := ak_of w2
  obtain ⟨x3, p3, rfl⟩ := an_of w3
  obtain ⟨x4, rfl, p4, q4⟩ := wfI w4
  obtain ⟨x5, rfl, p5, q5⟩ := wfI w5
  obtain ⟨x6, rfl, p6, q6⟩ := wfI w6
  exact ⟨⟨x1, x2, x3, x4, x5, x6⟩, ⟨p1, q1, p2, p3, p4, q4, p5, q5, p6, q6⟩, by simp [Ev.cs]⟩
theorem aggEv : isAggT Tryz.prog 53 = some true := by kernel_rfl
theorem sizEv : sizeT Tryz.prog 53 = some 65 := by kernel_rfl
/-- s reads the events L. -/
abbrev RdE (h : Hp) (s : Value) (L : List Ev) : Prop := Rd Tryz.prog 53 65 h s (L.map fun e => Value.agg e.cs.toArray)
theorem rdE {s : Value} {L : List Ev} (r : RdE h s L) : ∃ base cap, s = .slice base L.length cap ∧ ∀ i x, L[i]? = some x → ∃ a, base = some a ∧ loadH Tryz.prog 53 h (a.add (i * 65)) = some (.agg x.cs.toArray) := by
  obtain ⟨base, cap, e, f⟩ := r
  refine ⟨base, cap, by rw [e]; simp, fun i x hx => f i _ ?_⟩
  rw [List.getElem?_map, hx]; rfl
theorem ev_len (e : Ev) : e.cs.length = 65 := by simp [Ev.cs, Ak.cs, An.cs, An.ms]
theorem ev_one (e : Ev) : e.cs.all Value.oneCell' = true := by simp [Ev.cs, Ak.cs, An.cs, An.ms, Value.oneCell']
abbrev exEv : Ev := ⟨1, ⟨2, 64, 0, 0, 4, 0, 0, 0, false, 0, Rq.zero, En.zero⟩, ⟨5, false, Rq.zero, Rq.zero, Rq.zero, Rq.zero, Rq.zero, Rq.zero, Rq.zero, Rq.zero⟩, 1, 2, 3⟩
theorem rq0_ok : Rq.zero.ok := ⟨by decide, by decide, by decide⟩
theorem exEv_ok : exEv.ok := ⟨by decide, by decide, ⟨by decide, by decide, by decide, by decide, by decide, by decide, by decide, by decide, by decide, by decide, rq0_ok, ⟨by decide, by decide, by decide, by decide, by decide, by decide⟩⟩, ⟨by decide, fun q hq => by
  have : q = Rq.zero := by simpa [An.ms] using hq
  rw [this]; exact rq0_ok⟩, by decide, by decide, by decide, by decide, by decide, by decide⟩
theorem exLine : J (lineW exEv) = [49, 32, 108, 111, 97, 100, 32, 49, 32, 50, 32, 51, 32, 97, 100, 100, 114, 32, 54, 52, 32, 115, 105, 122, 101, 32, 52, 32, 45, 62, 32, 100, 97, 116, 97, 32, 53] := by
  decide +kernel
theorem live46_x (hp : Pow h) (hk : K (.bool true) h) : X Tryz.prog 4 #[] h K := by
  refine X.forget ?_
  refine fnv (args := _) mixed [] [] [] Tryz.func4 rfl (by kernel_rfl) ?_
  conv => whnf
  refine big_by (v := .agg exEv.ask.cs.toArray) (by kernel_rfl) ?_
  conv => whnf
  refine big_by (v := .agg exEv.ans.cs.toArray) (by kernel_rfl) ?_
  conv => whnf
  refine big_by (v := .agg exEv.cs.toArray) (by kernel_rfl) ?_
  conv => whnf
  refine new_intro (o := _) (fun b h1 n_b le_b at_b ot_b => ?_)
  conv => whnf
  refine wr_intro (by exact storeA0 (z := .agg exEv.cs.toArray) sizEv at_b rfl (ev_len exEv) (ev_one exEv)) (fun h2 at_h2 ot_h2 => ?_)
  try (conv => whnf)
  have hle := Hp.le_st n_b le_b ot_h2
  conv => whnf
  refine ⟨_, loadA0 aggEv sizEv at_h2 (ev_len exEv), ?_⟩
  conv => whnf
  refine line_x (hp.le hle) exEv exEv_ok ?_
  conv => whnf
  refine seq_true (exLine) ?_
  conv => whnf
  exact ⟨h, hle, hk⟩
theorem pow_of {w : World} {l : List (String × DataW Unit)} (hm : laidMetH Tryz.prog l w) (hl : l.filter (fun x => x.1 == "internal/strconv.uint64pow10") = [("internal/strconv.uint64pow10", Lib.tabData .u64 Lib.pow10Tab)]) : Pow (whole w) := by
  have h1 := laidMetH.filter (fun x => x.1 == "internal/strconv.uint64pow10") hm
  rw [hl, MakeChecks.laidMetH_plain _ _ _ (by decide +kernel)] at h1
  exact Pow.of (Lib.tabIs_of_head powG (t := (Tryz.prog.globals[0]?.map (·.type)).getD 0) (e := 23) (n := 20) (by kernel_rfl) (by kernel_rfl) (by kernel_rfl) (by kernel_rfl) (by kernel_rfl) h1)
end
end Go.Proofs.YtcmhfofmloiaiaaGreatDoor
