/-
  Logs in words: events as data.
-/
import Derived.Test.YtcmhfofmloiaiaaGreatDoorLibNi
import Derived.Test.YtcmhfofmloiaiaaGreatDoorLibN
import Derived.Test.YtcmhfofmloiaiaaGreatDoorLin
namespace Go.Proofs.YtcmhfofmloiaiaaGreatDoor
set_option linter.unusedSimpArgs false
set_option linter.unusedVariables false
open Go Go.Mid Go.RowKit
attribute [local irreducible] mid
section
set_option maxHeartbeats 8000000
set_option maxRecDepth 10000
variable {h : Hp} {K : Value → Hp → Prop}
structure Rq where
  s : Bool
  v : Bool
  a : Bool
  va : Nat
  asid : Int
structure En where
  asid : Int
  page : Nat
  level : Int
  pte : Nat
structure Ak where
  kind : Int
  addr : Nat
  next : Nat
  cut : Int
  size : Int
  op : Int
  data : Nat
  old : Nat
  live : Bool
  hart : Int
  req : Rq
  ent : En
structure An where
  data : Nat
  good : Bool
  m0 : Rq
  m1 : Rq
  m2 : Rq
  m3 : Rq
  m4 : Rq
  m5 : Rq
  m6 : Rq
  m7 : Rq
structure Ev where
  hart : Int
  ask : Ak
  ans : An
  from_ : Int
  at_ : Int
  to : Int
abbrev Rq.cs (q : Rq) : List Value := [.bool q.s, .bool q.v, .bool q.a, .int .u64 q.va, .int .i64 q.asid]
abbrev En.cs (q : En) : List Value := [.int .i64 q.asid, .int .u64 q.page, .int .i64 q.level, .int .u64 q.pte]
def Ak.cs (a : Ak) : List Value := [.int .i64 a.kind, .int .u64 a.addr, .int .u64 a.next, .int .i64 a.cut, .int .i64 a.size, .int .i64 a.op, .int .u64 a.data, .int .u64 a.old, .bool a.live, .int .i64 a.hart] ++ (a.req.cs ++ a.ent.cs)
def An.ms (b : An) : List Rq := [b.m0, b.m1, b.m2, b.m3, b.m4, b.m5, b.m6, b.m7]
def An.cs (b : An) : List Value := [.int .u64 b.data, .bool b.good] ++ b.ms.flatMap Rq.cs
def Ev.cs (e : Ev) : List Value := [.int .i64 e.hart] ++ (e.ask.cs ++ (e.ans.cs ++ [.int .i64 e.from_, .int .i64 e.at_, .int .i64 e.to]))
def Rq.val (q : Rq) : Value := .agg q.cs.toArray
def Ak.val (a : Ak) : Value := .agg a.cs.toArray
def An.val (b : An) : Value := .agg b.cs.toArray
def Ev.val (e : Ev) : Value := .agg e.cs.toArray
attribute [irreducible] Ak.val An.val Ev.val Rq.val
def Wds (k h : Hp) (w : Nat) (xs : List Str) : Prop := ∃ s ob, h w = some (rowO 83 [s]) ∧ Gr h 9 1 s xs.length (xs.map sv) ob ∧ k.le h ∧ k w = none ∧ ∀ c, ob = some c → c ≠ w ∧ k c = none
theorem Wds.le {k h : Hp} {w : Nat} {xs : List Str} (hw : Wds k h w xs) : k.le h := by
  obtain ⟨s, ob, _, _, hle, _⟩ := hw
  exact hle
theorem Wds.weak {k k2 h : Hp} {w : Nat} {xs : List Str} (hw : Wds k h w xs) (hle : k2.le k) : Wds k2 h w xs := by
  obtain ⟨s, ob, h1, h2, h3, h4, h5⟩ := hw
  exact ⟨s, ob, h1, h2, Hp.le_trans hle h3, Hp.none_le hle h4, fun c hc => ⟨(h5 c hc).1, Hp.none_le hle (h5 c hc).2⟩⟩
theorem Wds.new {k h h' : Hp} {w b : Nat} {o : Obj} {xs : List Str} (hw : Wds k h w xs) (hb : h b = none) (hle : h.le h') (hat : h' b = some o) : Wds (k.set b o) h' w xs := by
  obtain ⟨s, ob, h1, h2, h3, h4, h5⟩ := hw
  have hwb := Hp.ne hb h1
  refine ⟨s, ob, hle _ _ h1, h2.le hle, Hp.set_le (Hp.le_trans h3 hle) hat, by rw [Hp.set_other _ _ hwb]; exact h4, fun c hc => ⟨(h5 c hc).1, ?_⟩⟩
  have : c ≠ b := fun e => by
    subst e
    obtain ⟨_, ⟨e, _⟩ | ⟨y, _, _, e, _, _, _, hy⟩⟩ := h2
    · rw [e] at hc; cases hc
    · rw [e] at hc; cases hc; rw [hy] at hb; cases hb
  rw [Hp.set_other _ _ this]; exact (h5 c hc).2
/-- Words are laid behind. -/
theorem put_x {k : Hp} {w : Nat} {xs ys : List Str} {y cap : Nat} {rest : List Value} (hw : Wds k h w xs) (hy : h y = some (rowO 9 (ys.map sv ++ rest))) (hn : xs.length + ys.length ≤ 2 ^ 20)
    (hk : ∀ h', Wds k h' w (xs ++ ys) → K (.tuple #[]) h') : X Tryz.prog 32 #[.pointer (some ⟨w, 0, none⟩), .slice (some ⟨y, 0, none⟩) ys.length cap] h K := by
  obtain ⟨s, ob, h1, h2, h3, h4, h5⟩ := hw
  refine fnv (args := _) mixed [] [] [] Tryz.func32 rfl (by kernel_rfl) ?_
  conv => whnf
  refine ⟨_, loadC0 aggS0 h1 rfl, ?_⟩
  conv => whnf
  refine appMany (z := .string ⟨#[]⟩) (news := ys.map sv) (bytes := 16) (by kernel_rfl) infS (by kernel_rfl) (by kernel_rfl) (by kernel_rfl) rfl (by decide) rfl rfl rfl h2 (by rw [List.length_map]; exact (Nat.mul_one _).symm) (fun j v hj => ⟨_, rfl, ?_⟩) (fun e => by cases e) (by simp [Value.oneCell']) (by omega) fun s' h' ob' hg ht => ?_
  · rw [addr_add, Nat.zero_add]
    exact cell_row hy (by rw [List.getElem?_append_left (List.getElem?_eq_some_iff.1 hj).1]; exact hj)
  have hkeep := ht.keep h1 (fun c hc => (h5 c hc).1)
  have hle := ht.le h3 (fun c hc => (h5 c hc).2)
  have hv := Gr.val hg
  conv => whnf
  refine wr_intro (by exact storeC0 sizS0 hkeep.1 (Nat.zero_lt_succ 0) hv.1 hv.2) (fun H at_H ot_H => ?_)
  try (conv => whnf)
  have hgH : H = h'.set w (rowO 83 [s']) := by
    funext c
    by_cases hc : c = w
    · subst hc; rw [at_H, Hp.set_same]; rfl
    · rw [ot_H c hc, Hp.set_other _ _ hc]
  refine hk H ⟨s', ob', at_H, ?_, ?_, h4, fun c hc => ⟨hkeep.2 c hc, hle.2 c hc⟩⟩
  · rw [hgH, List.map_append, List.length_append]
    exact hg.set (fun c hc => hkeep.2 c hc)
  · rw [hgH]; exact Hp.le_keep hle.1 h4
/-- Words that are built, and laid. -/
theorem putB {k : Hp} {w : Nat} {xs ys : List Str} {h1 : Hp} {y : Nat} (hw : Wds k h w xs) (n_y : h y = none) (le_y : h.le h1) (at_y : h1 y = some (rowO 9 (ys.map sv))) (hn : xs.length + ys.length ≤ 2 ^ 20)
    (hk : ∀ h', Wds k h' w (xs ++ ys) → K (.tuple #[]) h') : X Tryz.prog 32 #[.pointer (some ⟨w, 0, none⟩), .slice (some ⟨y, 0, none⟩) ys.length ys.length] h1 K :=
  put_x (rest := []) (hw.new n_y le_y at_y) (by rw [List.append_nil]; exact at_y) hn fun h' hw' => hk h' (hw'.weak (Hp.le_set' (Hp.none_le hw.le n_y)))
def wnum (name : Str) (n : Nat) : List Str := if n = 0 then [] else [name, Lib.decDigits n]
def wint (name : Str) (n : Int) : List Str := if n = 0 then [] else [name, Lib.itoa n]
def wtruth (name : Str) (b : Bool) : List Str := if b then [name] else []
theorem num_x {k : Hp} {w : Nat} {xs : List Str} (hp : Pow k) (hw : Wds k h w xs) (hn : xs.length ≤ 2 ^ 10) (name : Str) (n : Nat) (hu : n < 18446744073709551616)
    (hk : ∀ h', Wds k h' w (xs ++ wnum name n) → K (.tuple #[]) h') : X Tryz.prog 52 #[.pointer (some ⟨w, 0, none⟩), .string (bs name), .int .u64 n] h K := by
  unfold wnum at hk
  refine fnv (args := _) mixed [] [] [] Tryz.func52 rfl (by kernel_rfl) ?_
  conv => whnf
  refine bsel_intro (fun q1 => ?_) (fun q1 => ?_) <;> try simp only [decide_eq_true_eq, decide_eq_false_iff_not, beq_iff_eq, beq_eq_false_iff_ne, ne_eq, Bool.not_eq_true', Bool.not_eq_false', bne_iff_ne, bne_eq_false_iff_eq, Bool.not_eq_true, Bool.not_eq_false, Bool.and_eq_true, Bool.or_eq_true, bs_size] at q1
  · rw [if_neg (by omega)] at hk
    conv => whnf
    refine fmtU_x (hp.le hw.le) n hu ?_
    conv => whnf
    refine new_intro (o := rowO 9 [sv name, sv (Lib.decDigits n)]) (fun y h1 n_y le_y at_y ot_y => ?_)
    conv => whnf
    refine putB (ys := [name, Lib.decDigits n]) hw n_y le_y at_y (by simp; omega) fun h' hw' => ?_
    conv => whnf
    exact hk h' hw'
  · rw [if_pos (by omega), List.append_nil] at hk
    conv => whnf
    exact hk h hw
theorem int_x {k : Hp} {w : Nat} {xs : List Str} (hp : Pow k) (hw : Wds k h w xs) (hn : xs.length ≤ 2 ^ 10) (name : Str) (n : Int) (h0 : -9223372036854775808 ≤ n) (h1 : n ≤ 9223372036854775807)
    (hk : ∀ h', Wds k h' w (xs ++ wint name n) → K (.tuple #[]) h') : X Tryz.prog 53 #[.pointer (some ⟨w, 0, none⟩), .string (bs name), .int .i64 n] h K := by
  unfold wint at hk
  refine fnv (args := _) mixed [] [] [] Tryz.func53 rfl (by kernel_rfl) ?_
  conv => whnf
  refine bsel_intro (fun q1 => ?_) (fun q1 => ?_) <;> try simp only [decide_eq_true_eq, decide_eq_false_iff_not, beq_iff_eq, beq_eq_false_iff_ne, ne_eq, Bool.not_eq_true', Bool.not_eq_false', bne_iff_ne, bne_eq_false_iff_eq, Bool.not_eq_true, Bool.not_eq_false, Bool.and_eq_true, Bool.or_eq_true, bs_size] at q1
  · rw [if_neg (by omega)] at hk
    conv => whnf
    refine itoaA_x (hp.le hw.le) n h0 h1 ?_
    conv => whnf
    refine new_intro (o := rowO 9 [sv name, sv (Lib.itoa n)]) (fun y h1 n_y le_y at_y ot_y => ?_)
    conv => whnf
    refine putB (ys := [name, Lib.itoa n]) hw n_y le_y at_y (by simp; omega) fun h' hw' => ?_
    conv => whnf
    exact hk h' hw'
  · rw [if_pos (by omega), List.append_nil] at hk
    conv => whnf
    exact hk h hw
theorem truth_x {k : Hp} {w : Nat} {xs : List Str} (hw : Wds k h w xs) (hn : xs.length ≤ 2 ^ 10) (name : Str) (t : Bool)
    (hk : ∀ h', Wds k h' w (xs ++ wtruth name t) → K (.tuple #[]) h') : X Tryz.prog 55 #[.pointer (some ⟨w, 0, none⟩), .string (bs name), .bool t] h K := by
  unfold wtruth at hk
  refine fnv (args := _) mixed [] [] [] Tryz.func55 rfl (by kernel_rfl) ?_
  conv => whnf
  cases t with
  | true =>
    conv => whnf
    refine new_intro (o := rowO 9 [sv name]) (fun y h1 n_y le_y at_y ot_y => ?_)
    conv => whnf
    refine putB (ys := [name]) hw n_y le_y at_y (by simp; omega) fun h' hw' => ?_
    conv => whnf
    exact hk h' hw'
  | false =>
    conv => whnf
    exact hk h (by simpa using hw)
theorem or_x (x : Str) (hk : K (.string (bs (if x = [] then [63] else x))) h) : X Tryz.prog 34 #[.string (bs x)] h K := by
  refine fnv (args := _) mixed [] [] [] Tryz.func34 rfl (by kernel_rfl) ?_
  conv => whnf
  refine seq_intro ?_
  conv => whnf
  refine bsel_intro (fun q1 => ?_) (fun q1 => ?_) <;> try simp only [decide_eq_true_eq, decide_eq_false_iff_not, beq_iff_eq, beq_eq_false_iff_ne, ne_eq, Bool.not_eq_true', Bool.not_eq_false', bne_iff_ne, bne_eq_false_iff_eq, Bool.not_eq_true, Bool.not_eq_false, Bool.and_eq_true, Bool.or_eq_true, bs_size] at q1
  · rw [if_pos q1] at hk
    conv => whnf
    exact hk
  · rw [if_neg q1] at hk
    conv => whnf
    exact hk
def flags (q : Rq) : Str := (if q.s then [115] else []) ++ (if q.v then [118] else []) ++ (if q.a then [97] else [])
def flagsW (q : Rq) : Str := if flags q = [] then [45] else flags q
def wreq (q : Rq) : List Str := [flagsW q, Lib.decDigits q.va, Lib.itoa q.asid]
structure Rq.ok (q : Rq) : Prop where
  va : q.va < 18446744073709551616
  lo : -9223372036854775808 ≤ q.asid
  hi : q.asid ≤ 9223372036854775807
theorem req_x {k : Hp} {w : Nat} {xs : List Str} (hp : Pow k) (hw : Wds k h w xs) (hn : xs.length ≤ 2 ^ 10) (q : Rq) (hq : q.ok)
    (hk : ∀ h', Wds k h' w (xs ++ wreq q) → K (.tuple #[]) h') : X Tryz.prog 56 #[.pointer (some ⟨w, 0, none⟩), .agg #[.bool q.s, .bool q.v, .bool q.a, .int .u64 q.va, .int .i64 q.asid]] h K := by
  obtain ⟨s, v, a, va, asid⟩ := q
  obtain ⟨q1, q2, q3⟩ := hq
  refine fnp (args := _) mixed [(3, 3), (7, 3), (9, 3), (11, 3), (30, 3), (33, 3)] [] [] [(999999, [18, 27])] Tryz.func56 rfl (by kernel_rfl) ?_
  conv => whnf
  refine loop_step ?_
  conv => whnf
  refine if_at [4] [3] (fun vs cs h' => h = h' ∧ cs = [some (Rq.cs ⟨s, v, a, va, asid⟩)] ∧ vs = [.v (.string (bs (if s then [115] else [])))]) (fun e => ?_) (fun e => ?_) (fun vs cs m bx h' hI => ?_)
  · subst e
    conv => whnf
    first | refine ov_i64 (by omega) ?_ | refine ov_u64 (by omega) ?_ | refine ov_i64 (by decide) ?_ | refine ov_u64 (by decide) ?_ | refine ov_u8 (by omega) ?_ | refine ov_i32 (by omega) ?_ | refine ov_u32 (by omega) ?_
    conv => whnf
    refine sub_by (rfl) ?_
    conv => whnf
    refine cat_intro (by simp) ?_
    conv => whnf
    exact ⟨rfl, rfl, rfl⟩
  · subst e
    conv => whnf
    exact ⟨rfl, rfl, slot1 (x := []) (by simp [flags])⟩
  obtain ⟨rfl, rfl, rfl⟩ := hI
  conv => whnf
  first | refine ov_i64 (by omega) ?_ | refine ov_u64 (by omega) ?_ | refine ov_i64 (by decide) ?_ | refine ov_u64 (by decide) ?_ | refine ov_u8 (by omega) ?_ | refine ov_i32 (by omega) ?_ | refine ov_u32 (by omega) ?_
  conv => whnf
  refine loop_step ?_
  conv => whnf
  refine if_at [4] [3] (fun vs cs h' => h = h' ∧ cs = [some (Rq.cs ⟨s, v, a, va, asid⟩)] ∧ vs = [.v (.string (bs ((if s then [115] else []) ++ (if v then [118] else []))))]) (fun e => ?_) (fun e => ?_) (fun vs cs m bx h' hI => ?_)
  · subst e
    conv => whnf
    first | refine ov_i64 (by omega) ?_ | refine ov_u64 (by omega) ?_ | refine ov_i64 (by decide) ?_ | refine ov_u64 (by decide) ?_ | refine ov_u8 (by omega) ?_ | refine ov_i32 (by omega) ?_ | refine ov_u32 (by omega) ?_
    conv => whnf
    refine sub_by (rfl) ?_
    conv => whnf
    refine cat_intro (by cases s <;> decide) ?_
    conv => whnf
    exact ⟨rfl, rfl, rfl⟩
  · subst e
    conv => whnf
    exact ⟨rfl, rfl, slot1 (x := (if s then [115] else [])) (by simp [flags])⟩
  obtain ⟨rfl, rfl, rfl⟩ := hI
  conv => whnf
  first | refine ov_i64 (by omega) ?_ | refine ov_u64 (by omega) ?_ | refine ov_i64 (by decide) ?_ | refine ov_u64 (by decide) ?_ | refine ov_u8 (by omega) ?_ | refine ov_i32 (by omega) ?_ | refine ov_u32 (by omega) ?_
  conv => whnf
  refine loop_step ?_
  conv => whnf
  refine if_at [4] [3] (fun vs cs h' => h = h' ∧ cs = [some (Rq.cs ⟨s, v, a, va, asid⟩)] ∧ vs = [.v (.string (bs (flags ⟨s, v, a, va, asid⟩)))]) (fun e => ?_) (fun e => ?_) (fun vs cs m bx h' hI => ?_)
  · subst e
    conv => whnf
    first | refine ov_i64 (by omega) ?_ | refine ov_u64 (by omega) ?_ | refine ov_i64 (by decide) ?_ | refine ov_u64 (by decide) ?_ | refine ov_u8 (by omega) ?_ | refine ov_i32 (by omega) ?_ | refine ov_u32 (by omega) ?_
    conv => whnf
    refine sub_by (rfl) ?_
    conv => whnf
    refine cat_intro (by cases s <;> cases v <;> decide) ?_
    conv => whnf
    exact ⟨rfl, rfl, rfl⟩
  · subst e
    conv => whnf
    exact ⟨rfl, rfl, slot1 (x := ((if s then [115] else []) ++ (if v then [118] else []))) (by simp [flags])⟩
  obtain ⟨rfl, rfl, rfl⟩ := hI
  conv => whnf
  first | refine ov_i64 (by omega) ?_ | refine ov_u64 (by omega) ?_ | refine ov_i64 (by decide) ?_ | refine ov_u64 (by decide) ?_ | refine ov_u8 (by omega) ?_ | refine ov_i32 (by omega) ?_ | refine ov_u32 (by omega) ?_
  conv => whnf
  refine loop_step ?_
  conv => whnf
  refine seq_intro ?_
  conv => whnf
  refine if_at [4] [3] (fun vs cs h' => h = h' ∧ cs = [some (Rq.cs ⟨s, v, a, va, asid⟩)] ∧ vs = [.v (.string (bs (flagsW ⟨s, v, a, va, asid⟩)))]) (fun e => ?_) (fun e => ?_) (fun vs cs m bx h' hI => ?_)
  · have e := of_decide_eq_true e
    conv => whnf
    exact ⟨rfl, rfl, slot1 (x := [45]) (by rw [flagsW, if_pos e])⟩
  · have e := of_decide_eq_false e
    conv => whnf
    exact ⟨rfl, rfl, slot1 (x := flags ⟨s, v, a, va, asid⟩) (by rw [flagsW, if_neg e])⟩
  obtain ⟨rfl, rfl, rfl⟩ := hI
  conv => whnf
  refine fmtU_x (hp.le hw.le) va q1 ?_
  refine ⟨trivial, ?_⟩
  conv => whnf
  refine itoaA_x (hp.le hw.le) asid q2 q3 ?_
  refine ⟨trivial, ?_⟩
  conv => whnf
  refine new_intro (o := rowO 9 [sv (flagsW ⟨s, v, a, va, asid⟩), sv (Lib.decDigits va), sv (Lib.itoa asid)]) (fun y h1 n_y le_y at_y ot_y => ?_)
  conv => whnf
  refine putB (ys := wreq ⟨s, v, a, va, asid⟩) hw n_y le_y at_y (by simp [wreq]; omega) fun h' hw' => ?_
  refine ⟨trivial, ?_⟩
  conv => whnf
  exact hk h' hw'
end
end Go.Proofs.YtcmhfofmloiaiaaGreatDoor
