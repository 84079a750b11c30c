/-
  All outcomes of a test: the states that are met.
-/
import Derived.Test.YtciagjfemgfhgaaDoorLtb
import Derived.Test.YtciagjfemgfhgaaDoorMidM
namespace Go.Proofs.YtciagjfemgfhgaaDoor
set_option linter.unusedSimpArgs false
set_option linter.unusedVariables false
open Go Go.Mid Go.RowKit
attribute [local irreducible] mid
/-- The states that were met. -/
def metF (M : List Sx) (x : Sx) : Option Value := if x ∈ M then some (zv 1) else none
theorem metF_put (M : List Sx) (x : Sx) : putF (metF M) x (some (zv 1)) = metF (x :: M) := by
  funext y
  unfold putF metF
  by_cases h : y = x
  · rw [if_pos h, if_pos (by rw [h]; simp)]
  · rw [if_neg h]
    by_cases h2 : y ∈ M
    · rw [if_pos h2, if_pos (List.mem_cons_of_mem _ h2)]
    · rw [if_neg h2, if_neg (fun hh => by rcases List.mem_cons.1 hh with e | e; exact h e; exact h2 e)]
/-- A map that bears these outcomes. -/
def EndF (E : List Oc) (f : Oc → Option Value) : Prop := ∀ o, (o ∈ E → ∃ n : Int, f o = some (zv n)) ∧ (o ∉ E → f o = none)
theorem EndF.put {E : List Oc} {f : Oc → Option Value} (h : EndF E f) (o : Oc) (n : Int) : EndF (o :: E) (putF f o (some (zv n))) := fun p => by
  unfold putF
  by_cases e : p = o
  · rw [if_pos e]
    exact ⟨fun _ => ⟨n, rfl⟩, fun hh => absurd (by rw [e]; simp) hh⟩
  · rw [if_neg e]
    exact ⟨fun hh => (h p).1 ((List.mem_cons.1 hh).resolve_left e), fun hh => (h p).2 fun h2 => hh (List.mem_cons_of_mem _ h2)⟩
/-- All outcomes of a state are there. -/
def DoneS (T : List (List Dd)) (E : List Oc) (s : St) : Prop := ∀ o, OutS T s o → o ∈ E
theorem DoneS.up {T : List (List Dd)} {E E' : List Oc} {s : St} (d : DoneS T E s) (h : ∀ o ∈ E, o ∈ E') : DoneS T E' s := fun o ho => h o (d o ho)
/-- What goOn knows: where the variables lie that it captured. -/
structure GoC (k : Hp) (cm ct cg ce m e : Nat) (g v : Value) (Ts : List Th) : Prop where
  a : k cm = some (rowO 74 [.map (some m)])
  b : k ct = some (rowO 24 [v])
  c : k cg = some (rowO 76 [g])
  d : k ce = some (rowO 75 [.map (some e)])
  m0 : k m = none
  e0 : k e = none
  me : m ≠ e
  rd : RdP k v Ts
abbrev goV (cm ct cg ce : Nat) : Value := .func (.func 27) #[] #[.pointer (some ⟨cm, 0, none⟩), .pointer (some ⟨ct, 0, none⟩), .pointer (some ⟨cg, 0, none⟩), .pointer (some ⟨ce, 0, none⟩)]
theorem GoC.up {k k' : Hp} {cm ct cg ce m e : Nat} {g v : Value} {Ts : List Th} (c : GoC k cm ct cg ce m e g v Ts) (h : k.le k') (h1 : k' m = none) (h2 : k' e = none) : GoC k' cm ct cg ce m e g v Ts :=
  ⟨h _ _ c.a, h _ _ c.b, h _ _ c.c, h _ _ c.d, h1, h2, c.me, c.rd.le h⟩
theorem aggMp1 : isAggT Tryd.prog 74 = some false := by kernel_rfl
theorem aggMp2 : isAggT Tryd.prog 75 = some false := by kernel_rfl
theorem aggFn : isAggT Tryd.prog 76 = some false := by kernel_rfl
theorem mapM : Tryd.prog.underlying 74 = some (.map 78 3) := by kernel_rfl
theorem mapE : Tryd.prog.underlying 75 = some (.map 29 3) := by kernel_rfl
theorem intZ : zeroT Tryd.prog 3 = some (zv 0) := by kernel_rfl
/-- A state behind a deed, as a key. -/
theorem nextSx (x : Sx) {i : Nat} (hx : x.s.ok) (hi : i < 3) {d : Dd} (hd : deedE d = 0) (hA : x.s.A.getD i 0 ≤ 900) : ∃ y : Sx, y.s = doS x.s i d ∧ y.s.ok := by
  have := doS_ok hx hi hd hA
  exact ⟨⟨doS x.s i d, this.a, this.b, this.w⟩, rfl, this⟩
theorem pow3 {n : Nat} (h : 0 < n) : 3 ^ n = 3 * 3 ^ (n - 1) := by
  obtain ⟨m, rfl⟩ : ∃ m, n = m + 1 := ⟨n - 1, by omega⟩
  rw [Nat.pow_succ, Nat.mul_comm]; rfl
theorem c3_W {A B : List Int} {W : List Nat} (hA : A.length = 3) (hB : B.length = 3) (hW : W.length = 16) : ((cells3 A B W).drop 6).take 16 = W.map uv := by
  obtain ⟨a, b, c, rfl⟩ := three hA
  obtain ⟨d, e, f, rfl⟩ := three hB
  show (W.map uv).take 16 = _
  rw [List.take_of_length_le (by rw [List.length_map, hW]; exact Nat.le_refl _)]
theorem X.args {P : Program} {F : FuncId} {a b : Array Value} {h : Hp} {K : Value → Hp → Prop} (e : a = b) (x : X P F a h K) : X P F b h K := e ▸ x
section
set_option maxHeartbeats 8000000
set_option maxRecDepth 10000
theorem goOn_x {Ts : List Th} (hT : Ts.length ≤ 3) (h5 : ∀ p ∈ Ts, p.L.length ≤ 5) (hd : ∀ p ∈ Ts, ∀ d ∈ p.L, deedE d = 0) (cm ct cg ce m e : Nat) (v : Value) :
    ∀ (N : Nat) (x : Sx) (k h : Hp) (M : List Sx) (E : List Oc) (f : Oc → Option Value) (nM nE : Nat) (om oe : Obj) (K : Value → Hp → Prop), left (Ts.map (·.L)) x.s < N → x.s.ok → GoC k cm ct cg ce m e (goV cm ct cg ce) v Ts → k.le h →
      h m = some om → MapB stv (metF M) nM om → h e = some oe → MapB ocv f nE oe → EndF E f → (∀ y ∈ M, left (Ts.map (·.L)) y.s ≤ left (Ts.map (·.L)) x.s → DoneS (Ts.map (·.L)) E y.s) →
      (∀ (M' : List Sx) (E' : List Oc) (f' : Oc → Option Value) (nM' nE' : Nat) (om' oe' : Obj) (h' : Hp), k.le h' → h' m = some om' → MapB stv (metF M') nM' om' → h' e = some oe' → MapB ocv f' nE' oe' → EndF E' f' →
        (∀ y ∈ M', y ∈ M ∨ left (Ts.map (·.L)) y.s ≤ left (Ts.map (·.L)) x.s ∧ DoneS (Ts.map (·.L)) E' y.s) → (∀ o ∈ E, o ∈ E') → (∀ o ∈ E', o ∈ E ∨ OutS (Ts.map (·.L)) x.s o) → DoneS (Ts.map (·.L)) E' x.s → nE' ≤ nE + 3 ^ left (Ts.map (·.L)) x.s → K (.tuple #[]) h') →
      X Tryd.prog 27 #[stv x, .pointer (some ⟨cm, 0, none⟩), .pointer (some ⟨ct, 0, none⟩), .pointer (some ⟨cg, 0, none⟩), .pointer (some ⟨ce, 0, none⟩)] h K := by
  intro N
  induction N with
  | zero => intro x k h M E f nM nE om oe K hN; omega
  | succ N ih =>
  intro x k h M E f nM nE om oe K hN hx hG hkh hm hM he hE hEF hpre hk
  have hcl := c3_len hx.a hx.b hx.w
  have hlook := MapB.look mapM intZ stT hm hM x false
  have hlE := fun (h' : Hp) (oe : Obj) (f : Oc → Option Value) (nE : Nat) (o : Oc) (he : h' e = some oe) (hE : MapB ocv f nE oe) => MapB.look mapE intZ ocT he hE o false
  have hob_ := hG.rd
  obtain ⟨base, cap, rfl, hf1, hf2⟩ := hob_
  generalize hTT : Ts.map (·.L) = T at *
  have hTl : T.length = Ts.length := by rw [← hTT, List.length_map]
  have hTi : ∀ (i : Nat) (p : Th), Ts[i]? = some p → T[i]? = some p.L := fun i p hp => by rw [← hTT, List.getElem?_map, hp]; rfl
  have hdone : x ∈ M → K (.tuple #[]) h := fun hin => hk M E f nM nE om oe h hkh hm hM he hE hEF (fun y hy => .inl hy) (fun o ho => ho) (fun o ho => .inl ho) (hpre x hin (Nat.le_refl _)) (Nat.le_add_right _ _)
  refine fnv (args := _) mixed [] [] [30, 47] Tryd.func27 rfl (by kernel_rfl) ?_
  conv => whnf
  refine new_intro (o := rowO 78 x.s.cs) (fun bs h1 n_bs le_bs at_bs ot_bs => ?_)
  conv => whnf
  have k1 : k.le h1 := Hp.le_trans hkh le_bs
  have m1 := le_bs _ _ hm
  have e1 := le_bs _ _ he
  have l1 : lookH Tryd.prog 74 h1 (.map (some m)) (stv x) false = some (lookR false (metF M x) (zv 0)) := MapB.look mapM intZ stT m1 hM x false
  refine ⟨_, loadC0 aggMp1 (k1 _ _ hG.a) rfl, ?_⟩
  conv => whnf
  refine ⟨_, loadA0 aggSt sizSt at_bs hcl, ?_⟩
  conv => whnf
  by_cases hin : x ∈ M
  · have l1 : lookH Tryd.prog 74 h1 (.map (some m)) (.agg x.s.cs.toArray) false = some (zv 1) := by
      have e0 : metF M x = some (zv 1) := by unfold metF; rw [if_pos hin]
      rw [e0] at l1; exact l1
    refine ⟨_, l1, ?_⟩
    conv => whnf
    exact hk M E f nM nE om oe h1 k1 m1 hM e1 hE hEF (fun y hy => .inl hy) (fun o ho => ho) (fun o ho => .inl ho) (hpre x hin (Nat.le_refl _)) (Nat.le_add_right _ _)
  have l1 : lookH Tryd.prog 74 h1 (.map (some m)) (.agg x.s.cs.toArray) false = some (zv 0) := by
    have e0 : metF M x = none := by unfold metF; rw [if_neg hin]
    rw [e0] at l1; exact l1
  refine ⟨_, l1, ?_⟩
  conv => whnf
  have hob_ := MapB.upd mapM stT m1 hM x (zv 1)
  obtain ⟨om2, hup2, hM2⟩ := hob_
  rw [metF_put] at hM2
  refine ⟨_, loadC0 aggMp1 (k1 _ _ hG.a) rfl, ?_⟩
  conv => whnf
  refine ⟨_, loadA0 aggSt sizSt at_bs hcl, ?_⟩
  conv => whnf
  refine wr_intro (by exact hup2) (fun h2 at_h2 ot_h2 => ?_)
  try (conv => whnf)
  have nbm : bs ≠ m := Ne.symm (Hp.ne n_bs hm)
  have nbe : bs ≠ e := Ne.symm (Hp.ne n_bs he)
  have kbs : k bs = none := Hp.none_le hkh n_bs
  have k2 : k.le h2 := Hp.le_st hG.m0 k1 ot_h2
  have e2 : h2 e = some oe := (ot_h2 e (Ne.symm hG.me)).trans e1
  have b2 : h2 bs = some (rowO 78 x.s.cs) := (ot_h2 bs nbm).trans at_bs
  have m2 : h2 m = some om2 := at_h2
  have kk : (k.set bs (rowO 78 x.s.cs)).le h2 := Hp.set_le k2 b2
  have kk0 : k.le (k.set bs (rowO 78 x.s.cs)) := Hp.le_set' kbs
  have GK := hG.up kk0 (by rw [Hp.set_other _ _ (Ne.symm nbm)]; exact hG.m0) (by rw [Hp.set_other _ _ (Ne.symm nbe)]; exact hG.e0)
  have kb : (k.set bs (rowO 78 x.s.cs)) bs = some (rowO 78 x.s.cs) := Hp.set_same _ _ _
  generalize (k.set bs (rowO 78 x.s.cs)) = kx at *
  clear at_bs ot_bs le_bs n_bs at_h2 ot_h2 k1 m1 e1 l1 b2 k2
  have hf1 : ∀ (i : Nat) (p : Th), Ts[i]? = some p → ∃ b, base = some b ∧ loadH Tryd.prog 71 kx (b.add (((i : Nat) : Int).toNat * 1)) = some p.v := fun i p hp => by
    obtain ⟨b, eb, l⟩ := hf1 i p hp; exact ⟨b, eb, loadH_le kk0 l⟩
  have hf2 : ∀ p ∈ Ts, ∀ (j : Nat) (d : Dd), p.L[j]? = some d → ∃ b, p.a = some b ∧ loadH Tryd.prog 80 kx (b.add (((j : Nat) : Int).toNat * 4)) = some (.agg d.cs.toArray) := fun p hp j d hd => by
    obtain ⟨b, eb, l⟩ := hf2 p hp j d hd; exact ⟨b, eb, loadH_le kk0 l⟩
  conv => whnf
  refine ⟨_, loadC0 aggTs (kk _ _ GK.b) rfl, ?_⟩
  conv => whnf
  refine loop_at [18, 6] [] (fun r vs cs h' => ∃ (i : Nat) (M1 : List Sx) (E1 : List Oc) (f1 : Oc → Option Value) (nM1 nE1 : Nat) (om1 oe1 : Obj) (c : Nat), i ≤ Ts.length ∧ r = Ts.length - i ∧ vs = [.v (zv i), .v (.bool (decide (c = 0)))] ∧ c ≤ i ∧ kx.le h' ∧ h' m = some om1 ∧ MapB stv (metF M1) nM1 om1 ∧ h' e = some oe1 ∧ MapB ocv f1 nE1 oe1 ∧ EndF E1 f1 ∧
    (∀ y ∈ M1, y ∈ M ∨ y = x ∨ left T y.s < left T x.s ∧ DoneS T E1 y.s) ∧ (∀ o ∈ E, o ∈ E1) ∧ (∀ o ∈ E1, o ∈ E ∨ OutS T x.s o) ∧ (∀ j, j < i → ∀ d, nxt T x.s j = some d → DoneS T E1 (doS x.s j d)) ∧ nE1 ≤ nE + c * 3 ^ (left T x.s - 1) ∧ (c = 0 → ∀ j, j < i → nxt T x.s j = none) ∧ (c ≠ 0 → ∃ j d, j < T.length ∧ nxt T x.s j = some d)) Ts.length
    ⟨0, x :: M, E, f, _, nE, om2, oe, 0, by omega, by omega, rfl, by omega, kk, m2, hM2, e2, hE, hEF, fun y hy => by
      rcases List.mem_cons.1 hy with h | h
      · exact .inr (.inl h)
      · exact .inl h, fun o ho => ho, fun o ho => .inl ho, fun j hj => by omega, by omega, fun _ j hj => by omega, fun hh => absurd rfl hh⟩ ?_
  clear m2 hM2 e2 hE hEF kk hup2 hM he hm hkh hlE hlook
  rintro r vs cs mm bx h3 ⟨i, M1, E1, f1, nM1, nE1, om1, oe1, c, hi, rfl, rfl, hci, k3, m3, hM3, e3, hE3, hEF3, v1, v2, v3, v4, v5, v6, v7⟩
  conv => whnf
  refine bsel_intro (fun q1 => ?_) (fun q1 => ?_) <;> try simp only [decide_eq_true_eq, decide_eq_false_iff_not, beq_iff_eq, beq_eq_false_iff_ne, ne_eq, Bool.not_eq_true', Bool.not_eq_false', bne_iff_ne, bne_eq_false_iff_eq, Bool.not_eq_true, Bool.not_eq_false, Bool.and_eq_true, Bool.or_eq_true, bs_size] at q1
  · have hiT : i < Ts.length := by omega
    obtain ⟨⟨pa, pc, pL⟩, hp⟩ : ∃ p, Ts[i]? = some p := ⟨_, List.getElem?_eq_getElem hiT⟩
    obtain ⟨b1, rfl, l1⟩ := hf1 i _ hp
    have g1 := hf2 _ (List.mem_of_getElem? hp)
    have hp5 := h5 _ (List.mem_of_getElem? hp)
    have hpd := hd _ (List.mem_of_getElem? hp)
    have hTp := hTi _ _ hp
    simp only [] at g1 hp5 hpd hTp
    have ga := getD_at (l := x.s.A) 0 (show i < x.s.A.length by rw [hx.a]; omega)
    have hnx : ∀ d, pL[(x.s.A.getD i 0).toNat]? = some d → nxt T x.s i = some d := fun d hd => nxt_some hTp hd
    have hnn : pL.length ≤ (x.s.A.getD i 0).toNat → nxt T x.s i = none := fun hd => nxt_none hTp hd
    have hstep : ∀ d d', pL[(x.s.A.getD i 0).toNat]? = some d → left T (doS x.s i d') + 1 = left T x.s := fun d d' hd => left_step hx (by omega) hTp hd
    have hnext : ∀ d, d ∈ pL → x.s.A.getD i 0 ≤ 900 → ∃ y : Sx, y.s = doS x.s i d ∧ y.s.ok := fun d hd hA => nextSx x hx (by omega) (hpd d hd) hA
    have ba := hx.a0 _ (List.mem_of_getElem? ga)
    generalize x.s.A.getD i 0 = at0 at *
    obtain ⟨an, rfl⟩ : ∃ n : Nat, at0 = n := ⟨at0.toNat, by omega⟩
    rw [Int.toNat_natCast] at hnx hnn hstep
    have ata : ((⟨bs, 0, none⟩ : Addr).add 0).add (((i : Nat) : Int).toNat * 1) = ⟨bs, i, none⟩ := by simp [addr_add]
    have kb3 := k3 _ _ kb
    conv => whnf
    first | refine need_intro (⟨by omega, by omega⟩) ?_ | refine must.mk (⟨by omega, by omega⟩) ?_
    conv => whnf
    refine ⟨_, loadH_le k3 l1, ?_⟩
    conv => whnf
    first | refine need_intro (⟨by omega, by omega⟩) ?_ | refine must.mk (⟨by omega, by omega⟩) ?_
    conv => whnf
    refine ⟨_, loadCA ata aggI kb3 (c3_a ga), ?_⟩
    conv => whnf
    refine bsel_intro (fun q2 => ?_) (fun q2 => ?_) <;> try simp only [decide_eq_true_eq, decide_eq_false_iff_not, beq_iff_eq, beq_eq_false_iff_ne, ne_eq, Bool.not_eq_true', Bool.not_eq_false', bne_iff_ne, bne_eq_false_iff_eq, Bool.not_eq_true, Bool.not_eq_false, Bool.and_eq_true, Bool.or_eq_true, bs_size] at q2
    · have hj : an < pL.length := by omega
      obtain ⟨d, hdd⟩ : ∃ d, pL[an]? = some d := ⟨_, List.getElem?_eq_getElem hj⟩
      obtain ⟨b2, rfl, l2⟩ := g1 an d hdd
      have hde := hpd d (List.mem_of_getElem? hdd)
      have hs1 := hstep d d hdd
      obtain ⟨y, hy1, hy2⟩ := hnext d (List.mem_of_getElem? hdd) (by omega)
      have hnd := hnx d hdd
      conv => whnf
      refine ⟨fun h' => h' cg = some (rowO 76 [goV cm ct cg ce]), k3 _ _ GK.c, ?_⟩
      conv => whnf
      refine ⟨_, fun _ hh => loadC0 aggFn hh rfl, ?_⟩
      conv => whnf
      refine ⟨_, loadA0 aggSt sizSt kb3 hcl, ?_⟩
      conv => whnf
      first | refine need_intro (⟨by omega, by omega⟩) ?_ | refine must.mk (⟨by omega, by omega⟩) ?_
      conv => whnf
      refine ⟨_, loadCA ata aggI kb3 (c3_a ga), ?_⟩
      conv => whnf
      first | refine need_intro (⟨by omega, by omega⟩) ?_ | refine must.mk (⟨by omega, by omega⟩) ?_
      conv => whnf
      refine ⟨_, loadH_le k3 l2, ?_⟩
      conv => whnf
      refine do_x x.s hx i (by omega) d hde ?_
      refine ⟨k3 _ _ GK.c, ?_⟩
      conv => whnf
      refine X.args (a := #[stv y, .pointer (some ⟨cm, 0, none⟩), .pointer (some ⟨ct, 0, none⟩), .pointer (some ⟨cg, 0, none⟩), .pointer (some ⟨ce, 0, none⟩)]) (by show _ = #[Value.agg (doS x.s i d).cs.toArray, .pointer (some ⟨cm, 0, none⟩), .pointer (some ⟨ct, 0, none⟩), .pointer (some ⟨cg, 0, none⟩), .pointer (some ⟨ce, 0, none⟩)]; unfold stv; rw [hy1]) ?_
      have hly : left T y.s + 1 = left T x.s := by rw [hy1]; exact hs1
      refine ih y kx h3 M1 E1 f1 nM1 nE1 om1 oe1 _ (by omega) hy2 GK k3 m3 hM3 e3 hE3 hEF3 (fun z hz hlz => ?_) (fun M2 E2 f2 nM2 nE2 om2 oe2 h4 k4 m4 hM4 e4 hE4 hEF4 w1 w2 w3 w4 w5 => ?_)
      · rcases v1 z hz with h9 | h9 | h9
        · exact (hpre z h9 (by omega)).up v2
        · subst h9; omega
        · exact h9.2
      refine ⟨k4 _ _ GK.c, ?_⟩
      conv => whnf
      first | refine ov_i64 (by omega) ?_ | refine ov_u64 (by omega) ?_ | refine ov_i64 (by decide) ?_ | refine ov_u64 (by decide) ?_ | refine ov_u8 (by omega) ?_ | refine ov_i32 (by omega) ?_ | refine ov_u32 (by omega) ?_
      conv => whnf
      have hl1 : left T x.s - 1 = left T y.s := by omega
      rw [hl1] at v5
      refine ⟨Ts.length - (i + 1), by omega, i + 1, M2, E2, f2, nM2, nE2, om2, oe2, c + 1, by omega, rfl, ?_, by omega, k4, m4, hM4, e4, hE4, hEF4, fun z hz => ?_, fun o ho => w2 o (v2 o ho), fun o ho => ?_, fun j hj2 d2 hd2 => ?_, ?_, fun hh => by omega, fun _ => ⟨i, d, by omega, hnd⟩⟩
      · rw [decide_eq_false (show ¬ c + 1 = 0 by omega)]; rfl
      · rcases w1 z hz with h9 | h9
        · rcases v1 z h9 with h8 | h8 | h8
          · exact .inl h8
          · exact .inr (.inl h8)
          · exact .inr (.inr ⟨h8.1, h8.2.up w2⟩)
        · exact .inr (.inr ⟨by omega, h9.2⟩)
      · rcases w3 o ho with h9 | h9
        · exact v3 o h9
        · refine .inr (outS_step hnd ?_)
          rw [← hy1]; exact h9
      · by_cases hji : j = i
        · subst hji
          rw [hnd] at hd2; cases hd2
          rw [← hy1]; exact w4
        · exact (v4 j (by omega) d2 hd2).up w2
      · rw [hl1, Nat.succ_mul]
        generalize 3 ^ left T y.s = P at *
        generalize c * P = Q at *
        omega
    · have hnn2 := hnn (by omega)
      conv => whnf
      first | refine ov_i64 (by omega) ?_ | refine ov_u64 (by omega) ?_ | refine ov_i64 (by decide) ?_ | refine ov_u64 (by decide) ?_ | refine ov_u8 (by omega) ?_ | refine ov_i32 (by omega) ?_ | refine ov_u32 (by omega) ?_
      conv => whnf
      refine ⟨Ts.length - (i + 1), by omega, i + 1, M1, E1, f1, nM1, nE1, om1, oe1, c, by omega, rfl, rfl, by omega, k3, m3, hM3, e3, hE3, hEF3, v1, v2, v3, fun j hj2 d2 hd2 => ?_, v5, fun hh j hj2 => ?_, v7⟩
      · by_cases hji : j = i
        · subst hji
          rw [hnn2] at hd2; cases hd2
        · exact v4 j (by omega) d2 hd2
      · by_cases hji : j = i
        · subst hji; exact hnn2
        · exact v6 hh j (by omega)
  have hin3 : i = Ts.length := by omega
  subst hin3
  conv => whnf
  refine bsel_intro (fun q3 => ?_) (fun q3 => ?_) <;> try simp only [decide_eq_true_eq, decide_eq_false_iff_not, beq_iff_eq, beq_eq_false_iff_ne, ne_eq, Bool.not_eq_true', Bool.not_eq_false', bne_iff_ne, bne_eq_false_iff_eq, Bool.not_eq_true, Bool.not_eq_false, Bool.and_eq_true, Bool.or_eq_true, bs_size] at q3
  · have hs0 : ∀ j, j < T.length → nxt T x.s j = none := fun j hj => v6 q3 j (by omega)
    have hW := hx.w
    obtain ⟨o, ho⟩ : ∃ o : Oc, o.W = x.s.W := ⟨⟨x.s.W, hx.w⟩, rfl⟩
    have hoo : OutS T x.s o := by unfold OutS; rw [ho]; exact outS_done hs0
    have hou : ∀ o', OutS T x.s o' → o' = o := fun o' h9 => Oc.ext (by rw [ho]; exact outS_done' hs0 h9)
    have hcv : ∃ c0 : Int, lookR false (f1 o) (zv 0) = zv c0 ∧ (f1 o).getD (zv 0) = zv c0 := by
      by_cases h9 : o ∈ E1
      · obtain ⟨n, hn⟩ := (hEF3 o).1 h9
        exact ⟨n, by rw [hn]; rfl, by rw [hn]; rfl⟩
      · have hn := (hEF3 o).2 h9
        exact ⟨0, by rw [hn]; rfl, by rw [hn]; rfl⟩
    obtain ⟨c0, hc1, hc2⟩ := hcv
    have look3 := MapB.look mapE intZ ocT e3 hE3 o false
    rw [hc1] at look3
    have hob_ := MapB.ent mapE intZ ocT e3 hE3 o
    obtain ⟨st, oe4, hent, hE4, hput⟩ := hob_
    rw [hc2] at hent hE4
    have hov : ocv o = .agg (x.s.W.map uv).toArray := by unfold ocv Oc.cs; rw [ho]
    have hoW : loadH Tryd.prog 29 h3 ((⟨bs, 0, none⟩ : Addr).add 6) = some (ocv o) := by
      rw [hov]
      exact loadP aggOc sizOc (k3 _ _ kb) (c3_W hx.a hx.b hx.w) (by rw [List.length_map, hx.w])
    conv => whnf
    refine ⟨fun h' => lookH Tryd.prog 75 h' (.map (some e)) (ocv o) false = some (zv c0), look3, ?_⟩
    conv => whnf
    refine ⟨_, loadC0 aggMp2 (k3 _ _ GK.d) rfl, ?_⟩
    conv => whnf
    refine ⟨_, hoW, ?_⟩
    conv => whnf
    refine ⟨_, fun _ hh => hh, ?_⟩
    conv => whnf
    refine ov_wrap ?_
    conv => whnf
    refine io_intro (by exact hent) (fun h10 at_h10 ot_h10 => ?_)
    try (conv => whnf)
    have k10 : kx.le h10 := Hp.le_st GK.e0 k3 ot_h10
    refine ⟨?_, ?_⟩
    · have := MapB.look mapE intZ ocT at_h10 hE4 o false
      show lookH Tryd.prog 75 h10 (.map (some e)) (ocv o) false = some (zv c0)
      rw [this]
      unfold putF
      rw [if_pos rfl]
      rfl
    conv => whnf
    have hob_ := hput (.int .i64 (IntKind.i64.wrap (c0 + 1))) h10 at_h10
    obtain ⟨oe11, hst11, hE11⟩ := hob_
    refine wr_intro (by exact hst11) (fun h11 at_h11 ot_h11 => ?_)
    try (conv => whnf)
    have k11 : kx.le h11 := Hp.le_st GK.e0 k10 ot_h11
    have hEF11 := hEF3.put o (IntKind.i64.wrap (c0 + 1))
    have hn11 : putN f1 o nE1 ≤ nE1 + 1 := by unfold putN; split <;> omega
    refine hk M1 (o :: E1) _ nM1 _ om1 oe11 h11 (Hp.le_trans kk0 k11) ?_ hM3 at_h11 hE11 hEF11 (fun z hz => ?_) (fun o' ho' => List.mem_cons_of_mem _ (v2 o' ho')) (fun o' ho' => ?_) (fun o' ho' => ?_) ?_
    · rw [ot_h11 m hG.me, ot_h10 m hG.me]; exact m3
    · rcases v1 z hz with h9 | h9 | h9
      · exact .inl h9
      · subst h9
        refine .inr ⟨Nat.le_refl _, fun o' ho' => ?_⟩
        rw [hou o' ho']; simp
      · exact .inr ⟨by omega, h9.2.up fun o' ho' => List.mem_cons_of_mem _ ho'⟩
    · rcases List.mem_cons.1 ho' with h9 | h9
      · rw [h9]; exact .inr hoo
      · exact v3 o' h9
    · rw [hou o' ho']; simp
    · rw [q3, Nat.zero_mul] at v5
      have : 0 < 3 ^ left T x.s := Nat.pow_pos (by decide)
      omega
  · obtain ⟨j, d, hj1, hj2⟩ := v7 q3
    have hD : DoneS T E1 x.s := fun o ho => by
      obtain ⟨i2, d2, g1, g2, g3⟩ := outS_inv hj1 hj2 ho
      exact v4 i2 (by omega) d2 g2 o g3
    have hpos : 0 < left T x.s := by
      obtain ⟨L, g1, g2⟩ := nxt_at hj2
      exact left_pos hx (by omega) g1 g2
    have hp3 := pow3 hpos
    have hc3 : c * 3 ^ (left T x.s - 1) ≤ 3 * 3 ^ (left T x.s - 1) := Nat.mul_le_mul_right _ (by omega)
    conv => whnf
    refine hk M1 E1 f1 nM1 nE1 om1 oe1 h3 (Hp.le_trans kk0 k3) m3 hM3 e3 hE3 hEF3 (fun z hz => ?_) v2 v3 hD (by omega)
    rcases v1 z hz with h9 | h9 | h9
    · exact .inl h9
    · subst h9; exact .inr ⟨Nat.le_refl _, hD⟩
    · exact .inr ⟨by omega, h9.2⟩
end
end Go.Proofs.YtciagjfemgfhgaaDoor
