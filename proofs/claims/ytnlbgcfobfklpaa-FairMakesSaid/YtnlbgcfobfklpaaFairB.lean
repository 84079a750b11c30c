/-
  The picks of numbers, as the document tells them.
-/
import Derived.Test.YtnlbgcfobfklpaaFairA
namespace Go.Proofs.Ytnlbgcfobfklpaa
open Go Go.Mid Go.RowKit
attribute [local irreducible] X MLoop mid
theorem all_in : ∀ (n : Nat) (l : List Int), (∀ h : Nat, h < n → (h : Int) ∈ l) → n ≤ l.length
  | 0, _, _ => Nat.zero_le _
  | n + 1, l, hh => by
    have h1 := hh n (by omega)
    have h2 := all_in n (l.erase n) fun h hn => (List.mem_erase_of_ne (by omega)).2 (hh h (by omega))
    rw [List.length_erase_of_mem h1] at h2
    have := List.length_pos_of_mem h1
    omega
theorem bestL_none (ws l : List Int) : ∀ m : Nat, bestL ws l m < 0 → ∀ h : Nat, h < m → (h : Int) ∈ l
  | 0, _, h, hh => by omega
  | m + 1, hb, h, hh => by
    unfold bestL at hb
    split at hb
    · omega
    · rename_i hc
      have hb0 : bestL ws l m < 0 := hb
      have hm : (m : Int) ∈ l := Classical.byContradiction fun hm => hc ⟨hm, .inl hb0⟩
      by_cases e : h = m
      · subst e; exact hm
      · exact bestL_none ws l m hb0 h (by omega)
theorem rrow_range (ws : List Int) : ∀ j, j ≤ ws.length → ∀ x ∈ rrow ws j, 0 ≤ x ∧ x < ws.length
  | 0, _, x, hx => by cases hx
  | j + 1, hj, x, hx => by
    rw [rrow, List.mem_append] at hx
    rcases hx with hx | hx
    · exact rrow_range ws j (by omega) x hx
    · rw [List.mem_singleton] at hx
      subst hx
      have h1 := bestL_lt ws (rrow ws j) ws.length
      refine ⟨Int.not_lt.1 fun hneg => ?_, h1.2⟩
      have h2 := all_in ws.length (rrow ws j) (bestL_none ws (rrow ws j) ws.length hneg)
      rw [rrow_length] at h2
      omega
/-- The i-th of the document's row is pressed. -/
def rpress (k : Int) (ws : List Int) (i : Nat) : Bool := decide (k - (i + 1) ≤ ws.getD ((rrow ws ws.length).getD i 0).toNat 0)
def rpick (k : Int) (n : Nat) (picks : List Int) (r : Int) : Int := if (List.range n).any (rpress k (rwaits picks n)) then (rrow (rwaits picks n) n).getD 0 0 else r.tmod n
def rmake (k : Int) (n : Nat) (rs : List Int) : List Int := rs.foldl (fun p r => p ++ [rpick k n p r]) []
theorem rmake_snoc (k : Int) (n : Nat) (rs : List Int) (r : Int) : rmake k n (rs ++ [r]) = rmake k n rs ++ [rpick k n (rmake k n rs) r] := by simp [rmake]
theorem rmake_length (k : Int) (n : Nat) (rs : List Int) : (rmake k n rs).length = rs.length := by
  have : ∀ (rs p : List Int), (rs.foldl (fun p r => p ++ [rpick k n p r]) p).length = p.length + rs.length := by
    intro rs
    induction rs with
    | nil => intro p; rfl
    | cons r rs ih => intro p; rw [List.foldl_cons, ih]; simp; omega
  have := this rs []
  unfold rmake; rw [this]; simp
theorem any_take {n : Nat} {p : Nat → Bool} : ((List.range n).any p = true) ↔ ∃ i, i < n ∧ p i = true := by
  rw [List.any_eq_true]
  constructor
  · rintro ⟨x, h1, h2⟩; exact ⟨x, List.mem_range.1 h1, h2⟩
  · rintro ⟨x, h1, h2⟩; exact ⟨x, List.mem_range.2 h1, h2⟩
set_option maxHeartbeats 8000000 in
set_option maxRecDepth 10000 in
theorem rmake_x (base : Option Addr) (cap : Nat) (raw : List Int) (n : Nat) (k : Int) (h : Hp) (K : Value → Hp → Prop) (hlen : raw.length ≤ 2 ^ 20) (hraw : ∀ r ∈ raw, 0 ≤ r ∧ r < 256) (h1n : 1 ≤ n) (hn8 : n ≤ 8) (hnk : (n : Int) ≤ k) (hkm : k ≤ 9223372036854775807)
    (hrd : ∀ i r, raw[i]? = some r → ∃ a, base = some a ∧ h.cell? (a.add i) = some (.int .u8 r))
    (hk : ∀ s h' (g : Hp), h.le h' → g.le h' → (∀ b o, h b = some o → g b = none) → Rd Try.prog 3 1 g s (iv (rmake k n raw)) → K s h') :
    X Try.prog 12 #[.slice base raw.length cap, .int .i64 n, .int .i64 k] h K := by
  refine fnv (args := [.slice base raw.length cap, .int .i64 n, .int .i64 k]) mixed [] [] [] Try.func12 rfl (by kernel_rfl) ?_
  conv => whnf
  intro b hb
  conv => whnf
  refine loop_at [8, 7] [] (fun r vs _ h' => ∃ (j : Nat) (s' : Value) (ob : Option Nat), j ≤ raw.length ∧ r = raw.length - j ∧ vs = [.v (.int .i64 j), .v s'] ∧ h.le h' ∧ Gr h' 3 1 s' j (iv (rmake k n (raw.take j))) ob ∧ ∀ b', ob = some b' → h b' = none) raw.length
    ⟨0, .slice (some ⟨b, 0, none⟩) 0 0, some b, by omega, by omega, rfl, Hp.le_set hb, ⟨rfl, .inr ⟨b, 0, [], rfl, rfl, Nat.le_refl _, rfl, Hp.set_same _ _ _⟩⟩, fun b' hb' => by cases hb'; exact hb⟩ ?_
  rintro r vs cs mm bx h' ⟨j, s', ob, hj, rfl, rfl, hle, hgr, hob⟩
  conv => whnf
  refine bsel_intro (fun h4 => ?_) (fun h4 => ?_) <;> simp only [decide_eq_true_eq, decide_eq_false_iff_not] at h4
  · have hjr : j < raw.length := by omega
    have hrj := hraw _ (List.getElem_mem hjr)
    have htk : raw.take (j + 1) = raw.take j ++ [raw[j]] := List.take_succ_eq_append_getElem hjr
    have hsn := rmake_snoc k n (raw.take j) raw[j]
    rw [← htk] at hsn
    have hpl := rmake_length k n (raw.take j)
    rw [List.length_take] at hpl
    generalize hpk : rmake k n (raw.take j) = picks at *
    conv => whnf
    refine rwaits_x s' picks n h' _ (by omega) hn8 (hgr.rd agg3) (fun sw hw hlew hrw => ?_)
    have hwl := rwaits_length picks n
    have hpickd : rpick k n picks raw[j] = if (List.range n).any (rpress k (rwaits picks n)) then (rrow (rwaits picks n) n).getD 0 0 else raw[j].tmod n := rfl
    generalize hW : rwaits picks n = W at *
    conv => whnf
    refine rrow_x sw W hw _ (by omega) hrw (fun sr hr hler hrr => ?_)
    have hrange := rrow_range W W.length (Nat.le_refl _)
    have hrowl := rrow_length W W.length
    have hprd : ∀ i, rpress k W i = decide (k - (i + 1) ≤ W.getD ((rrow W W.length).getD i 0).toNat 0) := fun i => rfl
    rw [← hwl] at hpickd
    generalize hR : rrow W W.length = R at *
    obtain ⟨aw, cw, rfl, fw⟩ := rdI (hrw.le hler)
    obtain ⟨ar, cr, rfl, fr⟩ := rdI hrr
    obtain ⟨a, rfl, ha⟩ := hrd j _ (List.getElem?_eq_getElem hjr)
    conv => whnf
    refine need_intro ⟨by omega, by omega⟩ ?_
    conv => whnf
    refine ⟨.int .u8 raw[j], ?_, ?_⟩
    · show loadH Try.prog 5 hr (a.add (j * 1)) = _
      rw [loadH_cell agg5, Nat.mul_one]
      exact cell_le (Hp.le_trans hle (Hp.le_trans hlew hler)) ha
    conv => whnf
    refine need_intro (by omega) ?_
    conv => whnf
    have hwr : IntKind.i64.wrap raw[j] = raw[j] := IntWalk.i64_in _ (by omega)
    have hg0 : 0 < R.length := by omega
    have hd0 : R.getD 0 0 = R[0] := by rw [List.getD_eq_getElem?_getD, List.getElem?_eq_getElem hg0]; rfl
    refine loop_at [12, 11] [] (fun r vs _ h2 => hr = h2 ∧ ∃ q : Nat, q ≤ n ∧ r = n - q ∧ vs = [.v (.int .i64 q), .v (.int .i64 (if (List.range q).any (rpress k W) then R.getD 0 0 else raw[j].tmod n))]) n
      ⟨rfl, 0, by omega, by omega, ?_⟩ ?_
    · show [MV.v (.int .i64 0), MV.v (.int .i64 ((IntKind.i64.wrap raw[j]).tmod n))] = _
      rw [hwr]; rfl
    rintro r vs cs mm2 bx2 _ ⟨rfl, q, hq, rfl, rfl⟩
    have hany : (List.range (q + 1)).any (rpress k W) = ((List.range q).any (rpress k W) || rpress k W q) := by rw [List.range_succ]; simp
    conv => whnf
    refine bsel_intro (fun h5 => ?_) (fun h5 => ?_) <;> simp only [decide_eq_true_eq, decide_eq_false_iff_not] at h5
    · have hqR : q < R.length := by omega
      have hx := hrange _ (List.getElem_mem hqR)
      have hqd : R.getD q 0 = R[q] := by rw [List.getD_eq_getElem?_getD, List.getElem?_eq_getElem hqR]; rfl
      have hxW : R[q].toNat < W.length := by omega
      have hwd : W.getD R[q].toNat 0 = W[R[q].toNat] := by rw [List.getD_eq_getElem?_getD, List.getElem?_eq_getElem hxW]; rfl
      obtain ⟨a1, e1, ha1⟩ := fr q _ (List.getElem?_eq_getElem hqR)
      obtain ⟨a0, e0, ha0⟩ := fr 0 _ (List.getElem?_eq_getElem hg0)
      obtain ⟨a2, e2, ha2⟩ := fw R[q].toNat _ (List.getElem?_eq_getElem hxW)
      subst e1; subst e2
      cases e0
      have hprq := hprd q
      rw [hqd, hwd] at hprq
      have hw1 : IntKind.i64.wrap ((q : Int) + 1) = q + 1 := IntWalk.i64_in _ (by omega)
      have hw2 : IntKind.i64.wrap (k - ((q : Int) + 1)) = k - (q + 1) := IntWalk.i64_in _ (by omega)
      conv => whnf
      refine need_intro ⟨by omega, by omega⟩ ?_
      conv => whnf
      refine ⟨_, ha1, ?_⟩
      conv => whnf
      refine need_intro ⟨by omega, by omega⟩ ?_
      conv => whnf
      refine ⟨_, ha2, ?_⟩
      conv => whnf
      refine bsel_intro (fun h6 => ?_) (fun h6 => ?_) <;> simp only [decide_eq_true_eq, decide_eq_false_iff_not, hw1, hw2] at h6
      · have hpt : rpress k W q = true := by rw [hprq]; exact decide_eq_true h6
        conv => whnf
        refine need_intro ⟨by omega, by omega⟩ ?_
        conv => whnf
        refine ⟨_, ha0, ?_⟩
        conv => whnf
        refine ⟨n - (q + 1), by omega, rfl, q + 1, by omega, rfl, ?_⟩
        show [MV.v (.int .i64 (IntKind.i64.wrap (q + 1))), MV.v (.int .i64 R[0])] = _
        rw [hw1, hany, hpt, Bool.or_true, hd0]; rfl
      · have hpf : rpress k W q = false := by rw [hprq]; exact decide_eq_false h6
        conv => whnf
        refine ⟨n - (q + 1), by omega, rfl, q + 1, by omega, rfl, ?_⟩
        show [MV.v (.int .i64 (IntKind.i64.wrap (q + 1))), MV.v (.int .i64 (if (List.range q).any (rpress k W) then R.getD 0 0 else raw[j].tmod n))] = _
        rw [hw1, hany, hpf, Bool.or_false]; rfl
    · obtain rfl : q = n := by omega
      rw [hwl] at hpickd
      conv => whnf
      rw [← hpickd]
      intro x hx
      conv => whnf
      refine app30 (h := hr.set x (rowO 3 [.int .i64 (rpick k q picks raw[j])])) rfl rfl rfl ((hgr.le (Hp.le_trans hlew hler)).fresh hx) (Hp.set_same _ _ _) rfl (by omega) (fun s3 h3 ob3 hg3 ht => ?_)
      have t1 := ht.le (Hp.le_trans hle (Hp.le_trans hlew (Hp.le_trans hler (Hp.le_set hx)))) hob
      conv => whnf
      refine ⟨raw.length - (j + 1), by omega, j + 1, s3, ob3, by omega, rfl, ?_, t1.1, ?_, t1.2⟩
      · show [MV.v (.int .i64 (IntKind.i64.wrap (j + 1))), MV.v s3] = _
        rw [IntWalk.i64_in _ (by omega)]; rfl
      · rw [hsn, iv, List.map_append]
        exact hg3
  · obtain rfl : j = raw.length := by omega
    conv => whnf
    rw [List.take_length] at hgr
    obtain ⟨g, hg1, hg2, hg3⟩ := hgr.piece
    refine hk _ h' g hle hg1 (fun b o hb => ?_) (hg2.rd agg3)
    cases hgb : g b with
    | none => rfl
    | some o' => have := hob b (hg3 b o' hgb); rw [this] at hb; cases hb
end Go.Proofs.Ytnlbgcfobfklpaa
