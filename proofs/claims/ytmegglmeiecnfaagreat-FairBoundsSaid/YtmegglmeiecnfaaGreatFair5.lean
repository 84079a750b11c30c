/-
  Which hart is picked, and how long each waits then.
-/
import Derived.Test.YtmegglmeiecnfaaGreatFair4
namespace Go.Proofs.YtmegglmeiecnfaaGreat
open Go Go.Mid Go.RowKit
attribute [local irreducible] X MLoop mid
theorem rowL_mem {ws : List Int} {x : Int} (h : x ∈ rowL ws) : 0 ≤ x ∧ x < ws.length := by
  unfold rowL at h
  rw [List.mem_reverse] at h
  exact upI_mem (isortR_mem _ _ _ h)
theorem rowL_at {ws : List Int} {i : Nat} (hi : i < ws.length) : ∃ x, (rowL ws)[i]? = some x ∧ (rowL ws).getD i 0 = x ∧ 0 ≤ x ∧ x < ws.length := by
  have hl : i < (rowL ws).length := by rw [rowL_length]; exact hi
  refine ⟨(rowL ws)[i], List.getElem?_eq_getElem hl, ?_, rowL_mem (List.getElem_mem hl)⟩
  rw [List.getD_eq_getElem?_getD, List.getElem?_eq_getElem hl]; rfl
/-- The i-th of the row is pressed. -/
def press (k : Int) (ws : List Int) (i : Nat) : Bool := decide (k ≤ ws.getD ((rowL ws).getD i 0).toNat 0 + i + 1)
def chooseL (k : Int) (ws : List Int) (r : Int) : Int := if (List.range ws.length).any (press k ws) then (rowL ws).getD 0 0 else r.tmod ws.length
set_option maxHeartbeats 4000000 in
set_option maxRecDepth 10000 in
theorem choose_x (c b : Nat) (k : Int) (ws : List Int) (r : Int) (h : Hp) (K : Value → Hp → Prop) (hr : 0 ≤ r ∧ r < 256) (hw : 1 ≤ ws.length ∧ ws.length ≤ 8) (hws : ∀ x ∈ ws, 0 ≤ x ∧ x ≤ 2 ^ 40) (hc : Ch h c b k ws)
    (hk : K (.int .i64 (chooseL k ws r)) h) : X Tryz.prog 34 #[.pointer (some ⟨c, 0, none⟩), .int .u8 r] h K := by
  refine X.forget ?_
  refine fnv (args := [.pointer (some ⟨c, 0, none⟩), .int .u8 r]) mixed [] [] [] Tryz.func34 rfl (by kernel_rfl) ?_
  conv => whnf
  refine row_x c b k ws h _ hw hc fun d hd => ?_
  have hle := Hp.le_set (o := rowO 3 (iv (rowL ws))) hd
  conv => whnf
  refine loop_at [12] [] (fun r vs _ h' => h.set d (rowO 3 (iv (rowL ws))) = h' ∧ ∃ j : Nat, j ≤ ws.length ∧ r = ws.length - j ∧ vs = [.v (.int .i64 j)] ∧ ∀ i, i < j → press k ws i = false) ws.length ⟨rfl, 0, by omega, by omega, rfl, fun i hi => by omega⟩ ?_
  rintro r1 vs cs mm bx _ ⟨rfl, j, hj, rfl, rfl, hno⟩
  conv => whnf
  refine bsel_intro (fun h1 => ?_) (fun h1 => ?_)
  · simp only [decide_eq_true_eq] at h1
    obtain ⟨x, hx, hxd, hx0, hxn⟩ := rowL_at (ws := ws) (i := j) (by omega)
    conv => whnf
    refine need_intro ⟨by omega, by omega⟩ ?_
    conv => whnf
    refine ⟨_, loadI (i := j) (Hp.set_same _ _ _) hx, ?_⟩
    conv => whnf
    refine ⟨_, loadP agg30 (i := 1) (hc.le hle).1 rfl, ?_⟩
    conv => whnf
    refine need_intro ⟨hx0, hxn⟩ ?_
    conv => whnf
    have hg : ws[x.toNat]? = some (ws.getD x.toNat 0) := by rw [List.getD_eq_getElem?_getD, List.getElem?_eq_getElem (by omega)]; rfl
    refine ⟨_, loadI (i := x.toNat) (hc.le hle).2 hg, ?_⟩
    conv => whnf
    refine ⟨_, loadP agg3 (i := 0) (hc.le hle).1 rfl, ?_⟩
    have hb := hws _ (List.mem_of_getElem? hg)
    have hp : press k ws j = decide (k ≤ ws.getD x.toNat 0 + j + 1) := by unfold press; rw [hxd]
    conv => whnf
    rw [IntWalk.i64_in (ws.getD x.toNat 0 + j) (by omega), IntWalk.i64_in (ws.getD x.toNat 0 + j + 1) (by omega), ← hp]
    refine bsel_intro (fun h2 => ?_) (fun h2 => ?_)
    · obtain ⟨y, hy, hyd, hy0, hyn⟩ := rowL_at (ws := ws) (i := 0) (by omega)
      conv => whnf
      refine need_intro ⟨by omega, by omega⟩ ?_
      conv => whnf
      refine ⟨_, loadI (i := 0) (Hp.set_same _ _ _) hy, ?_⟩
      conv => whnf
      refine ⟨h, hle, ?_⟩
      have : chooseL k ws r = y := by
        unfold chooseL
        rw [if_pos (List.any_eq_true.2 ⟨j, by simpa using (by omega : j < ws.length), h2⟩), hyd]
      rw [this] at hk
      exact hk
    · conv => whnf
      refine ⟨ws.length - (j + 1), by omega, rfl, j + 1, by omega, rfl, ?_, fun i hi => ?_⟩
      · show [MV.v (.int .i64 (IntKind.i64.wrap (j + 1)))] = _
        rw [IntWalk.i64_in _ (by omega)]; rfl
      · by_cases hij : i = j
        · subst hij; exact h2
        · exact hno i (by omega)
  · simp only [decide_eq_false_iff_not] at h1
    obtain rfl : j = ws.length := by omega
    conv => whnf
    refine ⟨_, loadP agg30 (i := 1) (hc.le hle).1 rfl, ?_⟩
    conv => whnf
    have : chooseL k ws r = r.tmod ws.length := by
      unfold chooseL
      rw [if_neg]
      intro ha
      obtain ⟨i, hi, hp⟩ := List.any_eq_true.1 ha
      rw [hno i (by simpa using hi)] at hp
      cases hp
    rw [this] at hk
    refine need_intro (by omega) ?_
    conv => whnf
    refine ⟨h, hle, ?_⟩
    have e1 : IntKind.i64.wrap r = r := IntWalk.i64_in _ (by omega)
    show K (.int .i64 ((IntKind.i64.wrap r).tmod ws.length)) h
    rw [e1]
    exact hk
theorem Ch.ne {h : Hp} {c b : Nat} {k : Int} {ws : List Int} (x : Ch h c b k ws) : c ≠ b := fun e => by
  have h1 := x.1
  rw [e, x.2] at h1
  have := congrArg (fun o => match o with | some (.cells _ e _) => e | _ => 0) h1
  simp at this
theorem chooseL_range {k : Int} {ws : List Int} {r : Int} (hr : 0 ≤ r) (hw : 1 ≤ ws.length) : 0 ≤ chooseL k ws r ∧ chooseL k ws r < ws.length := by
  unfold chooseL
  split
  · obtain ⟨y, _, hyd, hy0, hyn⟩ := rowL_at (ws := ws) (i := 0) (by omega)
    rw [hyd]; exact ⟨hy0, hyn⟩
  · exact ⟨Int.tmod_nonneg _ hr, Int.tmod_lt_of_pos _ (by omega)⟩
set_option maxHeartbeats 4000000 in
set_option maxRecDepth 10000 in
theorem next_x (c b : Nat) (k : Int) (ws : List Int) (r : Int) (h : Hp) (K : Value → Hp → Prop) (hr : 0 ≤ r ∧ r < 256) (hw : 1 ≤ ws.length ∧ ws.length ≤ 8) (hws : ∀ x ∈ ws, 0 ≤ x ∧ x < 2 ^ 40) (hc : Ch h c b k ws)
    (hk : K (.int .i64 (chooseL k ws r)) (h.set b (rowO 3 (iv ((ws.map (· + 1)).set (chooseL k ws r).toNat 0))))) : X Tryz.prog 16 #[.pointer (some ⟨c, 0, none⟩), .int .u8 r] h K := by
  refine fnv (args := [.pointer (some ⟨c, 0, none⟩), .int .u8 r]) mixed [] [] [] Tryz.func16 rfl (by kernel_rfl) ?_
  conv => whnf
  refine choose_x c b k ws r h _ hr hw (fun x hx => ⟨(hws x hx).1, by have := (hws x hx).2; omega⟩) hc ?_
  conv => whnf
  refine ⟨_, loadP agg30 (i := 1) hc.1 rfl, ?_⟩
  conv => whnf
  refine loop_at [17] [] (fun r vs _ h' => ∃ j : Nat, j ≤ ws.length ∧ r = ws.length - j ∧ vs = [.v (.int .i64 j)] ∧ h' = h.set b (rowO 3 (iv ((ws.take j).map (· + 1) ++ ws.drop j)))) ws.length ⟨0, by omega, by omega, rfl, ?_⟩ ?_
  · rw [Hp.set_self]
    simpa using hc.2
  rintro r1 vs cs mm bx _ ⟨j, hj, rfl, rfl, rfl⟩
  have hcc : ∀ o, (h.set b o) c = some (rowO 47 [.int .i64 k, .slice (some ⟨b, 0, none⟩) ws.length ws.length]) := fun o => by rw [Hp.set_other _ _ hc.ne]; exact hc.1
  conv => whnf
  refine bsel_intro (fun h1 => ?_) (fun h1 => ?_)
  · simp only [decide_eq_true_eq] at h1
    have hjn : j < ws.length := by omega
    have hb := hws _ (List.getElem_mem hjn)
    conv => whnf
    refine ⟨_, loadP agg30 (i := 1) (hcc _) rfl, ?_⟩
    conv => whnf
    refine need_intro ⟨by omega, by omega⟩ ?_
    conv => whnf
    have hlj : ((ws.take j).map (· + 1)).length = j := by simp; omega
    have hdr : ws.drop j = ws[j] :: ws.drop (j + 1) := List.drop_eq_getElem_cons hjn
    have hg := get_mid ((ws.take j).map (· + 1)) ws[j] (ws.drop (j + 1))
    have hse := set_mid ((ws.take j).map (· + 1)) ws[j] (ws[j] + 1) (ws.drop (j + 1))
    rw [← hdr, hlj] at hg hse
    refine ⟨_, loadI (i := j) (Hp.set_same _ _ _) hg, ?_⟩
    conv => whnf
    have hwr : IntKind.i64.wrap (ws[j] + 1) = ws[j] + 1 := IntWalk.i64_in _ (by omega)
    refine need_intro ⟨by omega, by omega⟩ ?_
    conv => whnf
    refine ⟨_, storeI (i := j) (IntKind.i64.wrap (ws[j] + 1)) (Hp.set_same _ _ _) (by rw [List.length_append, hlj, List.length_drop]; omega), ?_⟩
    conv => whnf
    refine ⟨ws.length - (j + 1), by omega, j + 1, by omega, rfl, ?_, ?_⟩
    · show [MV.v (.int .i64 (IntKind.i64.wrap (j + 1)))] = _
      rw [IntWalk.i64_in _ (by omega)]; rfl
    · rw [hwr, hse, Hp.set_set, List.take_succ_eq_append_getElem hjn]
      simp only [List.map_append, List.map_cons, List.map_nil, List.append_assoc, List.singleton_append]
  · simp only [decide_eq_false_iff_not] at h1
    obtain rfl : j = ws.length := by omega
    have hch := chooseL_range (k := k) (ws := ws) hr.1 hw.1
    conv => whnf
    refine ⟨_, loadP agg30 (i := 1) (hcc _) rfl, ?_⟩
    conv => whnf
    refine need_intro hch ?_
    conv => whnf
    refine ⟨_, storeI (i := (chooseL k ws r).toNat) 0 (Hp.set_same _ _ _) (by simp; omega), ?_⟩
    conv => whnf
    simp only [Hp.set_set, List.take_length, List.drop_length, List.append_nil]
    exact hk
end Go.Proofs.YtmegglmeiecnfaaGreat
