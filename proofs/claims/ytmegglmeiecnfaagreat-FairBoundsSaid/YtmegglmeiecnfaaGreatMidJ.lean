/-
  THE MIDDLE LAYER, PART TEN: the form in which 'whnf' goes through code: what is asked stands at the head ('need'), and so does a test that is not known ('bcase').
-/
import Derived.Test.YtmegglmeiecnfaaGreatMidI
namespace Go.Mid
open Go Go.RowKit

def need (c : Prop) [Decidable c] (K : Prop) : Prop := match decide c with
  | true => K
  | false => False
theorem need_intro {c : Prop} [Decidable c] {K : Prop} (hc : c) (hk : K) : need c K := by unfold need; rw [decide_eq_true hc]; exact hk
theorem need_elim {c : Prop} [Decidable c] {K : Prop} (h : need c K) : c ∧ K := by
  unfold need at h
  split at h
  · rename_i hc; exact ⟨of_decide_eq_true hc, h⟩
  · exact h.elim
def bsel (b : Bool) (A B : Prop) : Prop := match b with
  | true => A
  | false => B
theorem bsel_intro {b : Bool} {A B : Prop} (ht : b = true → A) (hf : b = false → B) : bsel b A B := by cases b; exact hf rfl; exact ht rfl
theorem bsel_true {b : Bool} {A B : Prop} (hb : b = true) (h : A) : bsel b A B := by subst hb; exact h
theorem bsel_false {b : Bool} {A B : Prop} (hb : b = false) (h : B) : bsel b A B := by subst hb; exact h
def bcase (b : Bool) (F : Bool → Prop) : Prop := bsel b (F true) (F false)
theorem bcase_intro {b : Bool} {F : Bool → Prop} (ht : b = true → F true) (hf : b = false → F false) : bcase b F := by cases b; exact hf rfl; exact ht rfl
theorem bcase_at {b c : Bool} {F : Bool → Prop} (hb : b = c) (h : F c) : bcase b F := by subst hb; cases b <;> exact h
theorem bcase_elim {b : Bool} {F : Bool → Prop} (h : bcase b F) : F b := by cases b <;> exact h

/-! ### Values -/
def viaV (r : Option Value) (K : Value → Prop) : Prop := match r with
  | some v => K v
  | none => False
theorem viaV_elim {r : Option Value} {K : Value → Prop} (h : viaV r K) : ∃ v, r = some v ∧ K v := by
  unfold viaV at h; split at h
  · exact ⟨_, rfl, h⟩
  · exact h.elim
def partK (P : Program) (t : TypeId) (cs : Array Value) (off : Nat) (K : Value → Prop) : Prop :=
  match isAggT P t with
  | some true => viaV (partV P t cs off) K
  | some false => need (off < cs.size) (K (cs.getD off undef))
  | none => False
theorem partK_elim {P : Program} {t : TypeId} {cs : Array Value} {off : Nat} {K : Value → Prop} (h : partK P t cs off K) : ∃ v, partV P t cs off = some v ∧ K v := by
  unfold partK at h
  split at h
  · exact viaV_elim h
  · rename_i ha
    obtain ⟨hlt, hk⟩ := need_elim h
    exact ⟨_, by unfold partV; simp [ha, hlt], hk⟩
  · exact h.elim
def binK (P : Program) (op : BinOp) (t : TypeId) (x y : Value) (K : Value → Prop) : Prop :=
  match x, y with
  | .int k a, .int k' b => match isShift op with
    | true => need (0 ≤ b) (match op with
      | .shl => K (.int k (k.wrap (a * 2 ^ (min b.toNat k.bits))))
      | .shr => K (.int k (a.fdiv (2 ^ (min b.toNat k.bits))))
      | _ => False)
    | false => need (k = k') (match op with
      | .quo => need (b ≠ 0) (K (.int k (k.wrap (a.tdiv b))))
      | .rem => need (b ≠ 0) (K (.int k (a.tmod b)))
      | op => viaV (intV op k a b) K)
  | .string a, .string b => match op with
    | .add => need (a.size + b.size ≤ 9223372036854775807) (K (.string (a ++ b)))
    | op => viaV (strV op a b) K
  | x, y => viaV (binV P op t x y) K
theorem binK_elim {P : Program} {op : BinOp} {t : TypeId} {x y : Value} {K : Value → Prop} (h : binK P op t x y K) : ∃ v, binV P op t x y = some v ∧ K v := by
  unfold binK at h
  split at h
  · rename_i k a k' b
    simp only [binV]
    split at h
    · rename_i hs
      obtain ⟨hb, h⟩ := need_elim h
      simp only [hs, if_true, shiftV, show ¬ b < 0 by omega, if_false]
      split at h
      · exact ⟨_, rfl, h⟩
      · exact ⟨_, rfl, h⟩
      · exact h.elim
    · rename_i hs
      obtain ⟨hk, h2⟩ := need_elim h
      clear h
      simp only [hs, Bool.false_eq_true, if_false, hk, if_true]
      subst hk
      split at h2
      · obtain ⟨hb, h3⟩ := need_elim h2; exact ⟨.int k (k.wrap (a.tdiv b)), by simp [intV, hb], h3⟩
      · obtain ⟨hb, h3⟩ := need_elim h2; exact ⟨.int k (a.tmod b), by simp [intV, hb], h3⟩
      · exact viaV_elim h2
  · simp only [binV]
    split at h
    · obtain ⟨hb, h⟩ := need_elim h
      refine ⟨_, ?_, h⟩
      simp only [strV]
      rw [if_neg]
      show ¬ _ > (9223372036854775807 : Int)
      omega
    · exact viaV_elim h
  · exact viaV_elim h
def natK (lo hi : Nat) (v : Option Value) (d : Nat) (K : Nat → Prop) : Prop :=
  match v with
  | none => K d
  | some (.int _ i) => need ((lo : Int) ≤ i ∧ i ≤ hi) (K i.toNat)
  | some _ => False
theorem natK_elim {lo hi d : Nat} {v : Option Value} {K : Nat → Prop} (h : natK lo hi v d K) : ∃ n, natIn lo hi v d = some n ∧ K n := by
  unfold natK at h
  split at h
  · exact ⟨_, rfl, h⟩
  · obtain ⟨hc, h⟩ := need_elim h
    exact ⟨_, by simp only [natIn]; rw [if_pos hc], h⟩
  · exact h.elim
def placeK (m l n : Nat) (a : Option Addr) (K : Option Addr → Prop) : Prop := bcase (decide (m = l)) fun b => match b with
  | true => K a
  | false => K (a.map (·.add (l * n)))
theorem placeK_elim {m l n : Nat} {a : Option Addr} {K : Option Addr → Prop} (h : placeK m l n a K) : K (if m = l then a else a.map (·.add (l * n))) := by
  have := bcase_elim h
  by_cases hm : m = l <;> simp [hm] at this ⊢ <;> exact this
def sliceK (P : Program) (t : TypeId) (x : Value) (lo hi mx : Option Value) (K : Value → Prop) : Prop :=
  match P.underlying t, x with
  | some .string, .string s => match mx with
    | none => natK 0 s.size hi s.size fun h => natK 0 h lo 0 fun l => K (.string (s.extract l h))
    | some _ => False
  | some (.slice elem), .slice a len cap => match sizeT P elem with
    | some n => natK 0 cap mx cap fun m => match (mx.isSome && hi.isNone) with
      | true => False
      | false => natK 0 m hi len fun h => natK 0 h lo 0 fun l => placeK m l n a fun a' => K (.slice a' (h - l) (m - l))
    | none => False
  | some (.array c elem), .pointer (some a) => match sizeT P elem with
    | some n => natK 0 c mx c fun m => match (mx.isSome && hi.isNone) with
      | true => False
      | false => natK 0 m hi c fun h => natK 0 h lo 0 fun l => placeK m l n (some a) fun a' => K (.slice a' (h - l) (m - l))
    | none => False
  | _, _ => False
theorem sliceK_elim {P : Program} {t : TypeId} {x : Value} {lo hi mx : Option Value} {K : Value → Prop} (h : sliceK P t x lo hi mx K) : ∃ v, sliceV P t x lo hi mx = some v ∧ K v := by
  unfold sliceK at h
  split at h
  · rename_i s hu
    split at h
    · obtain ⟨h1, e1, h⟩ := natK_elim h
      obtain ⟨l, e2, h⟩ := natK_elim h
      exact ⟨_, by simp only [sliceV, hu, e1, e2], h⟩
    · exact h.elim
  · rename_i elem a len cap hu
    split at h
    · rename_i n hn
      obtain ⟨m, e0, h⟩ := natK_elim h
      split at h
      · exact h.elim
      · rename_i hb
        obtain ⟨h1, e1, h⟩ := natK_elim h
        obtain ⟨l, e2, h⟩ := natK_elim h
        exact ⟨_, by simp only [sliceV, hu, e0, hb, Bool.false_eq_true, if_false, e1, e2, hn], placeK_elim h⟩
    · exact h.elim
  · rename_i c elem a hu
    split at h
    · rename_i n hn
      obtain ⟨m, e0, h⟩ := natK_elim h
      split at h
      · exact h.elim
      · rename_i hb
        obtain ⟨h1, e1, h⟩ := natK_elim h
        obtain ⟨l, e2, h⟩ := natK_elim h
        refine ⟨.slice (some (if m = l then a else a.add (l * n))) (h1 - l) (m - l), by simp only [sliceV, hu, e0, hb, Bool.false_eq_true, if_false, e1, e2, hn], ?_⟩
        have := placeK_elim h
        by_cases hm : m = l <;> simp [hm] at this ⊢ <;> exact this
    · exact h.elim
  · exact h.elim
def indexK (P : Program) (t : TypeId) (x ix : Value) (K : Value → Prop) : Prop :=
  match ix with
  | .int _ i => match P.underlying t, x with
    | some (.array len elem), .agg cs => match sizeT P elem with
      | some n => need (0 ≤ i ∧ i < len) (partK P elem cs (i.toNat * n) K)
      | none => False
    | some .string, .string s => need (0 ≤ i ∧ i < s.size) (K (.int .u8 (s.data.getD i.toNat 0).toNat))
    | _, _ => False
  | _ => False
theorem indexK_elim {P : Program} {t : TypeId} {x ix : Value} {K : Value → Prop} (h : indexK P t x ix K) : ∃ v, indexV P t x ix = some v ∧ K v := by
  unfold indexK at h
  split at h
  · rename_i k i
    split at h
    · rename_i len elem cs hu
      split at h
      · rename_i n hn
        obtain ⟨hc, h⟩ := need_elim h
        obtain ⟨v, hv, h⟩ := partK_elim h
        exact ⟨v, by simp only [indexV, hu]; rw [if_pos hc]; simp only [hn, hv], h⟩
      · exact h.elim
    · rename_i s hu
      obtain ⟨hc, h⟩ := need_elim h
      refine ⟨_, ?_, h⟩
      simp only [indexV, hu, hc.1, if_true]
      have hlt : i.toNat < s.size := by omega
      have hlt2 : i.toNat < s.data.size := hlt
      have e1 : s[i.toNat]? = some s[i.toNat] := by simp [hlt]
      rw [e1]
      simp only [Array.getD_eq_getD_getElem?]
      rw [Array.getElem?_eq_getElem hlt2]
      rfl
    · exact h.elim
  · exact h.elim
def calcK (P : Program) (ρ : Operand → Value) (op : Op) (K : Value → Prop) : Prop :=
  match op with
  | .pick c a b => match ρ c with
    | .bool t => bcase t fun t => match t with
      | true => K (ρ a)
      | false => K (ρ b)
    | _ => False
  | .binOp op t x y _ => binK P op t (ρ x) (ρ y) K
  | .index t x ix => indexK P t (ρ x) (ρ ix) K
  | .slice t x lo hi mx => sliceK P t (ρ x) (lo.map ρ) (hi.map ρ) (mx.map ρ) K
  | .indexAddr t x ix => match ρ ix with
    | .int _ i => match P.underlying t, ρ x with
      | some (.slice elem), .slice (some a) len _ => match sizeT P elem with
        | some n => need (0 ≤ i ∧ i < len) (K (.pointer (some (a.add (i.toNat * n)))))
        | none => False
      | some (.array len elem), .pointer (some a) => match sizeT P elem with
        | some n => need (0 ≤ i ∧ i < len) (K (.pointer (some (a.add (i.toNat * n)))))
        | none => False
      | _, _ => False
    | _ => False
  | op => viaV (calcV P ρ op) K
theorem calcK_elim {P : Program} {ρ : Operand → Value} {op : Op} {K : Value → Prop} (h : calcK P ρ op K) : ∃ v, calcV P ρ op = some v ∧ K v := by
  unfold calcK at h
  split at h
  · split at h
    · rename_i t ht
      have := bcase_elim h
      cases t with
      | true => exact ⟨_, by simp only [calcV, ht]; rfl, this⟩
      | false => exact ⟨_, by simp only [calcV, ht]; rfl, this⟩
    · exact h.elim
  · exact binK_elim h
  · exact indexK_elim h
  · exact sliceK_elim h
  · split at h
    · rename_i k i hi
      split at h
      · rename_i elem a len cap hu hx
        split at h
        · rename_i n hn
          obtain ⟨hc, h⟩ := need_elim h
          exact ⟨_, by simp only [calcV, hi, hu, hx]; rw [if_pos hc]; simp only [hn], h⟩
        · exact h.elim
      · rename_i len elem a hu hx
        split at h
        · rename_i n hn
          obtain ⟨hc, h⟩ := need_elim h
          exact ⟨_, by simp only [calcV, hi, hu, hx]; rw [if_pos hc]; simp only [hn], h⟩
        · exact h.elim
      · exact h.elim
    · exact h.elim
  · exact viaV_elim h
/-- Is it an operation whose value is reckoned? -/
def isCalc : Op → Bool
  | .pick .. | .binOp .. | .unOp .. | .field .. | .extract .. | .build .. | .index .. | .slice .. | .convert .. | .fieldAddr .. | .indexAddr .. | .nilCheck .. | .makeFunc .. | .makeInterface .. => true
  | .call c => match c.callee with
    | .builtin .len | .builtin .cap | .builtin .min | .builtin .max => true
    | _ => false
  | _ => false
/-- The values of some slots. -/
def sel : List (Nat × Value) → Nat → Value
  | [], _ => undef
  | p :: r, t => match Nat.beq t p.1 with
    | true => p.2
    | false => sel r t
def rho (l : List (Nat × Value)) : Operand → Value
  | .tmp t => sel l t
  | .const x => x
  | .global g => .pointer (some ⟨g, 0, none⟩)
  | .func f => .func (.func f) #[] #[]
/-- The values of the operands, looked up once. -/
def looks (e : ME) : List Operand → (List (Nat × Value) → Prop) → Prop
  | [], F => F []
  | .tmp t :: r, F => match e.env t with
    | .v y => looks e r fun l => F ((t, y) :: l)
    | _ => False
  | .const _ :: r, F => looks e r F
  | .global _ :: r, F => looks e r F
  | .func _ :: r, F => looks e r F
theorem looks_elim {e : ME} : ∀ (xs : List Operand) {F : List (Nat × Value) → Prop}, looks e xs F → ∃ l, (∀ x ∈ xs, (ev e x).isV = true ∧ rho l x = vals e x) ∧ F l
  | [], F, h => ⟨[], fun x hx => (by cases hx), h⟩
  | .tmp t :: r, F, h => by
    unfold looks at h
    split at h
    · rename_i y hy
      obtain ⟨l, hl, hF⟩ := looks_elim r h
      refine ⟨(t, y) :: l, fun x hx => ?_, hF⟩
      have hv : vals e (.tmp t) = y := by unfold vals; simp only [ev, hy]; rfl
      have htt : rho ((t, y) :: l) (.tmp t) = y := by simp only [rho, sel, Nat.beq_refl]
      rcases List.mem_cons.1 hx with rfl | hx
      · exact ⟨by simp only [ev, hy]; rfl, by rw [htt, hv]⟩
      · refine ⟨(hl x hx).1, ?_⟩
        cases x with
        | tmp u =>
          by_cases hu : u = t
          · subst hu; rw [htt, hv]
          · have : Nat.beq u t = false := by
              cases hb : Nat.beq u t with
              | false => rfl
              | true => exact absurd (Nat.eq_of_beq_eq_true hb) hu
            have h2 := (hl _ hx).2
            simp only [rho, sel, this] at h2 ⊢
            exact h2
        | _ => exact (hl _ hx).2
    · exact h.elim
  | .const v :: r, F, h => by
    obtain ⟨l, hl, hF⟩ := looks_elim r (show looks e r F from h)
    refine ⟨l, fun x hx => ?_, hF⟩
    rcases List.mem_cons.1 hx with rfl | hx
    · exact ⟨rfl, rfl⟩
    · exact hl x hx
  | .global v :: r, F, h => by
    obtain ⟨l, hl, hF⟩ := looks_elim r (show looks e r F from h)
    refine ⟨l, fun x hx => ?_, hF⟩
    rcases List.mem_cons.1 hx with rfl | hx
    · exact ⟨rfl, rfl⟩
    · exact hl x hx
  | .func v :: r, F, h => by
    obtain ⟨l, hl, hF⟩ := looks_elim r (show looks e r F from h)
    refine ⟨l, fun x hx => ?_, hF⟩
    rcases List.mem_cons.1 hx with rfl | hx
    · exact ⟨rfl, rfl⟩
    · exact hl x hx
def genK (P : Program) (o : Oper) (e : ME) (K : Plan → Prop) : Prop :=
  match noSel o.op with
  | true => looks e o.op.operands.toList fun l => match isCalc o.op with
    | true => calcK P (rho l) o.op fun v => K (.upd (dstU o.dst (.v v)))
    | false => match calcV P (rho l) o.op with
      | some v => K (.upd (dstU o.dst (.v v)))
      | none => K (.act (actOf P (rho l) o))
  | false => False
theorem genK_elim {P : Program} {o : Oper} {e : ME} {K : Plan → Prop} (h : genK P o e K) : ∃ pl, gen P o e = some pl ∧ K pl := by
  unfold genK at h
  split at h
  · rename_i hns
    obtain ⟨l, hl, h⟩ := looks_elim _ h
    have hv : (allV e o.op && noSel o.op) = true := by
      rw [hns, Bool.and_true]
      unfold allV
      rw [List.all_eq_true]
      exact fun x hx => (hl x hx).1
    have hr : ∀ z ∈ o.op.operands, vals e z = rho l z := fun z hz => (hl z (by simpa using hz)).2.symm
    unfold gen
    simp only [hv, if_true]
    rw [calcV_congr hr, actOf_congr hns hr]
    split at h
    · obtain ⟨v, hv, hk⟩ := calcK_elim h
      exact ⟨_, by simp only [hv], hk⟩
    · split at h
      · rename_i hc; exact ⟨_, by simp only [hc], h⟩
      · rename_i hc; exact ⟨_, by simp only [hc], h⟩
  · exact h.elim
def viaP (r : Option Plan) (K : Plan → Prop) : Prop := match r with
  | some p => K p
  | none => False
theorem viaP_elim {r : Option Plan} {K : Plan → Prop} (h : viaP r K) : ∃ v, r = some v ∧ K v := by
  unfold viaP at h; split at h
  · exact ⟨_, rfl, h⟩
  · exact h.elim
def loadK (P : Program) (t : TypeId) (cs : List Value) (off : Nat) (K : Value → Prop) : Prop :=
  match P.underlying t with
  | some (.struct _) | some (.array _ _) => match P.info? t with
    | some i => need (off + i.size ≤ cs.length) (K (.agg ((cs.drop off).take i.size).toArray))
    | .none => False
  | some _ => need (off < cs.length) (K (cs.getD off undef))
  | .none => False
theorem loadK_elim {P : Program} {t : TypeId} {cs : List Value} {off : Nat} {K : Value → Prop} (h : loadK P t cs off K) : ∃ v, loadL P t cs off = some v ∧ K v := by
  unfold loadK at h
  split at h
  · rename_i hu
    split at h
    · rename_i i hi
      obtain ⟨hc, h⟩ := need_elim h
      exact ⟨_, by simp only [loadL, hu, hi]; rw [if_pos hc], h⟩
    · exact h.elim
  · rename_i hu
    split at h
    · rename_i i hi
      obtain ⟨hc, h⟩ := need_elim h
      exact ⟨_, by simp only [loadL, hu, hi]; rw [if_pos hc], h⟩
    · exact h.elim
  · rename_i d h1 h2 hu
    obtain ⟨hc, h⟩ := need_elim h
    refine ⟨_, ?_, h⟩
    have : loadL P t cs off = cs[off]? := by
      unfold loadL
      rw [hu]; cases d <;> first | exact (h1 _ rfl).elim | exact (h2 _ _ rfl).elim | rfl
    rw [this]
    simp [List.getD_eq_getElem?_getD, hc]
  · exact h.elim
def planK (P : Program) (rf : RF) (o : Oper) (e : ME) (K : Plan → Prop) : Prop :=
  match o.op with
  | .move _ | .assign _ | .alloc _ | .box _ _ => viaP (plan P rf o e) K
  | .load t x => match boxOf rf e x with
    | some (b, off) => match e.box b with
      | some cs => loadK P t cs off fun v => K (.upd (dstU o.dst (.v v)))
      | .none => False
    | .none => genK P o e K
  | .store t x y => match boxOf rf e x with
    | some (b, off) => match e.box b with
      | some cs => match ev e y with
        | .v z => match P.info? t with
          | some i => match (z.cells.size == i.size && z.cells.toList.all Value.oneCell' && o.dst.isNone) with
            | true => need (off + i.size ≤ cs.length) (K (.upd (.setbox b (setL cs off z.cells.toList))))
            | false => False
          | .none => False
        | _ => False
      | .none => False
    | .none => genK P o e K
  | .fieldAddr _ x _ => match boxOf rf e x with
    | some _ => viaP (plan P rf o e) K
    | .none => genK P o e K
  | .indexAddr t x ix => match boxOf rf e x with
    | some (b, off) => match P.underlying t with
      | some (.array len elem) => match ev e ix with
        | .v (.int _ i) => match P.info? elem with
          | some j => need (0 ≤ i ∧ i < len) (viaP (refU rf o.dst b (off + i.toNat * j.size)) K)
          | .none => False
        | _ => False
      | _ => False
    | .none => genK P o e K
  | .nilCheck x => match boxOf rf e x with
    | some _ => viaP (plan P rf o e) K
    | .none => genK P o e K
  | _ => genK P o e K
theorem planK_elim {P : Program} {rf : RF} {o : Oper} {e : ME} {K : Plan → Prop} (h : planK P rf o e K) : ∃ pl, plan P rf o e = some pl ∧ K pl := by
  obtain ⟨dst, op, ty, pos, after, guard⟩ := o
  cases op with
  | move x | assign x | alloc x | box x y => exact viaP_elim h
  | load t x =>
    simp only [planK] at h
    split at h
    · rename_i b off hb
      split at h
      · rename_i cs hcs
        obtain ⟨v, hv, hk⟩ := loadK_elim h
        exact ⟨_, by simp only [plan, hb, hcs, hv], hk⟩
      · exact h.elim
    · rename_i hb; simp only [plan, hb]; exact genK_elim h
  | store t x y =>
    simp only [planK] at h
    split at h
    · rename_i b off hb
      split at h
      · rename_i cs hcs
        split at h
        · rename_i z hz
          split at h
          · rename_i i hi
            split at h
            · rename_i hc
              obtain ⟨hl, hk⟩ := need_elim h
              simp only [Bool.and_eq_true] at hc
              exact ⟨_, by simp only [plan, hb, hcs, hz, hi]; rw [if_pos (by simp only [Bool.and_eq_true, decide_eq_true_eq]; exact ⟨⟨⟨hc.1.1, hl⟩, hc.1.2⟩, hc.2⟩)], hk⟩
            · exact h.elim
          · exact h.elim
        · exact h.elim
      · exact h.elim
    · rename_i hb; simp only [plan, hb]; exact genK_elim h
  | fieldAddr s x f =>
    simp only [planK] at h
    split at h
    · exact viaP_elim h
    · rename_i hb; simp only [plan, hb]; exact genK_elim h
  | indexAddr t x ix =>
    simp only [planK] at h
    split at h
    · rename_i b off hb
      split at h
      · rename_i len elem hu
        split at h
        · rename_i k i hi
          split at h
          · rename_i j hj
            obtain ⟨hl, hk⟩ := need_elim h
            obtain ⟨pl, hp, hk⟩ := viaP_elim hk
            exact ⟨pl, by simp only [plan, hb, hu, hi, hj]; rw [if_pos hl]; exact hp, hk⟩
          · exact h.elim
        · exact h.elim
      · exact h.elim
    · rename_i hb; simp only [plan, hb]; exact genK_elim h
  | nilCheck x =>
    simp only [planK] at h
    split at h
    · exact viaP_elim h
    · rename_i hb; simp only [plan, hb]; exact genK_elim h
  | _ => exact genK_elim h
end Go.Mid
