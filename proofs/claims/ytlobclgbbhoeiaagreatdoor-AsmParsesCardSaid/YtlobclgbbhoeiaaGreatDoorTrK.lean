/-
  The names of ops.
-/
import Derived.Test.YtlobclgbbhoeiaaGreatDoorLibQ
namespace Go.Proofs.YtlobclgbbhoeiaaGreatDoor
set_option linter.unusedSimpArgs false
set_option linter.unusedVariables false
open Go Go.Mid Go.RowKit
attribute [local irreducible] mid
section
set_option maxHeartbeats 8000000
set_option maxRecDepth 10000
variable {h : Hp} {K : Value → Hp → Prop}
def opNames : List Str := [[108, 117, 105], [97, 117, 105, 112, 99], [106, 97, 108], [106, 97, 108, 114], [98, 101, 113], [98, 110, 101], [98, 108, 116], [98, 103, 101], [98, 108, 116, 117], [98, 103, 101, 117], [108, 98], [108, 104], [108, 119], [108, 100], [108, 98, 117], [108, 104, 117], [108, 119, 117], [115, 98], [115, 104], [115, 119], [115, 100], [97, 100, 100, 105], [115, 108, 116, 105], [115, 108, 116, 105, 117], [120, 111, 114, 105], [111, 114, 105], [97, 110, 100, 105], [115, 108, 108, 105], [115, 114, 108, 105], [115, 114, 97, 105], [97, 100, 100], [115, 117, 98], [115, 108, 108], [115, 108, 116], [115, 108, 116, 117], [120, 111, 114], [115, 114, 108], [115, 114, 97], [111, 114], [97, 110, 100], [97, 100, 100, 105, 119], [115, 108, 108, 105, 119], [115, 114, 108, 105, 119], [115, 114, 97, 105, 119], [97, 100, 100, 119], [115, 117, 98, 119], [115, 108, 108, 119], [115, 114, 108, 119], [115, 114, 97, 119], [102, 101, 110, 99, 101], [102, 101, 110, 99, 101, 46, 105], [101, 99, 97, 108, 108], [101, 98, 114, 101, 97, 107], [109, 117, 108], [109, 117, 108, 104], [109, 117, 108, 104, 115, 117], [109, 117, 108, 104, 117], [100, 105, 118], [100, 105, 118, 117], [114, 101, 109], [114, 101, 109, 117], [109, 117, 108, 119], [100, 105, 118, 119], [100, 105, 118, 117, 119], [114, 101, 109, 119], [114, 101, 109, 117, 119], [108, 114, 46, 119], [115, 99, 46, 119], [97, 109, 111, 115, 119, 97, 112, 46, 119], [97, 109, 111, 97, 100, 100, 46, 119], [97, 109, 111, 120, 111, 114, 46, 119], [97, 109, 111, 97, 110, 100, 46, 119], [97, 109, 111, 111, 114, 46, 119], [97, 109, 111, 109, 105, 110, 46, 119], [97, 109, 111, 109, 97, 120, 46, 119], [97, 109, 111, 109, 105, 110, 117, 46, 119], [97, 109, 111, 109, 97, 120, 117, 46, 119], [108, 114, 46, 100], [115, 99, 46, 100], [97, 109, 111, 115, 119, 97, 112, 46, 100], [97, 109, 111, 97, 100, 100, 46, 100], [97, 109, 111, 120, 111, 114, 46, 100], [97, 109, 111, 97, 110, 100, 46, 100], [97, 109, 111, 111, 114, 46, 100], [97, 109, 111, 109, 105, 110, 46, 100], [97, 109, 111, 109, 97, 120, 46, 100], [97, 109, 111, 109, 105, 110, 117, 46, 100], [97, 109, 111, 109, 97, 120, 117, 46, 100], [99, 115, 114, 114, 119], [99, 115, 114, 114, 115], [99, 115, 114, 114, 99], [99, 115, 114, 114, 119, 105], [99, 115, 114, 114, 115, 105], [99, 115, 114, 114, 99, 105], [109, 114, 101, 116], [115, 114, 101, 116], [119, 102, 105], [115, 102, 101, 110, 99, 101, 46, 118, 109, 97]]
def opWords : Str := [108, 117, 105, 32, 97, 117, 105, 112, 99, 32, 106, 97, 108, 32, 106, 97, 108, 114, 32, 98, 101, 113, 32, 98, 110, 101, 32, 98, 108, 116, 32, 98, 103, 101, 32, 98, 108, 116, 117, 32, 98, 103, 101, 117, 32, 108, 98, 32, 108, 104, 32, 108, 119, 32, 108, 100, 32, 108, 98, 117, 32, 108, 104, 117, 32, 108, 119, 117, 32, 115, 98, 32, 115, 104, 32, 115, 119, 32, 115, 100, 32, 97, 100, 100, 105, 32, 115, 108, 116, 105, 32, 115, 108, 116, 105, 117, 32, 120, 111, 114, 105, 32, 111, 114, 105, 32, 97, 110, 100, 105, 32, 115, 108, 108, 105, 32, 115, 114, 108, 105, 32, 115, 114, 97, 105, 32, 97, 100, 100, 32, 115, 117, 98, 32, 115, 108, 108, 32, 115, 108, 116, 32, 115, 108, 116, 117, 32, 120, 111, 114, 32, 115, 114, 108, 32, 115, 114, 97, 32, 111, 114, 32, 97, 110, 100, 32, 97, 100, 100, 105, 119, 32, 115, 108, 108, 105, 119, 32, 115, 114, 108, 105, 119, 32, 115, 114, 97, 105, 119, 32, 97, 100, 100, 119, 32, 115, 117, 98, 119, 32, 115, 108, 108, 119, 32, 115, 114, 108, 119, 32, 115, 114, 97, 119, 32, 102, 101, 110, 99, 101, 32, 102, 101, 110, 99, 101, 46, 105, 32, 101, 99, 97, 108, 108, 32, 101, 98, 114, 101, 97, 107, 32, 109, 117, 108, 32, 109, 117, 108, 104, 32, 109, 117, 108, 104, 115, 117, 32, 109, 117, 108, 104, 117, 32, 100, 105, 118, 32, 100, 105, 118, 117, 32, 114, 101, 109, 32, 114, 101, 109, 117, 32, 109, 117, 108, 119, 32, 100, 105, 118, 119, 32, 100, 105, 118, 117, 119, 32, 114, 101, 109, 119, 32, 114, 101, 109, 117, 119, 32, 108, 114, 46, 119, 32, 115, 99, 46, 119, 32, 97, 109, 111, 115, 119, 97, 112, 46, 119, 32, 97, 109, 111, 97, 100, 100, 46, 119, 32, 97, 109, 111, 120, 111, 114, 46, 119, 32, 97, 109, 111, 97, 110, 100, 46, 119, 32, 97, 109, 111, 111, 114, 46, 119, 32, 97, 109, 111, 109, 105, 110, 46, 119, 32, 97, 109, 111, 109, 97, 120, 46, 119, 32, 97, 109, 111, 109, 105, 110, 117, 46, 119, 32, 97, 109, 111, 109, 97, 120, 117, 46, 119, 32, 108, 114, 46, 100, 32, 115, 99, 46, 100, 32, 97, 109, 111, 115, 119, 97, 112, 46, 100, 32, 97, 109, 111, 97, 100, 100, 46, 100, 32, 97, 109, 111, 120, 111, 114, 46, 100, 32, 97, 109, 111, 97, 110, 100, 46, 100, 32, 97, 109, 111, 111, 114, 46, 100, 32, 97, 109, 111, 109, 105, 110, 46, 100, 32, 97, 109, 111, 109, 97, 120, 46, 100, 32, 97, 109, 111, 109, 105, 110, 117, 46, 100, 32, 97, 109, 111, 109, 97, 120, 117, 46, 100, 32, 99, 115, 114, 114, 119, 32, 99, 115, 114, 114, 115, 32, 99, 115, 114, 114, 99, 32, 99, 115, 114, 114, 119, 105, 32, 99, 115, 114, 114, 115, 105, 32, 99, 115, 114, 114, 99, 105, 32, 109, 114, 101, 116, 32, 115, 114, 101, 116, 32, 119, 102, 105, 32, 115, 102, 101, 110, 99, 101, 46, 118, 109, 97]
def kindNames : List Str := [[102, 101, 116, 99, 104], [108, 111, 97, 100], [115, 116, 111, 114, 101], [97, 109, 111], [108, 114], [115, 99], [119, 97, 108, 107], [109, 97, 114, 107], [100, 101, 118, 114, 101, 97, 100], [100, 101, 118, 119, 114, 105, 116, 101], [112, 111, 108, 108], [100, 114, 97, 105, 110], [112, 111, 115, 116], [99, 104, 101, 99, 107], [102, 105, 108, 108], [117, 115, 101], [102, 108, 117, 115, 104], [116, 105, 99, 107], [105, 110, 112, 117, 116], [119, 105, 114, 101]]
/-- The pieces between spaces. -/
def splitSp : Str → List Str
  | [] => [[]]
  | c :: r => if c = 32 then [] :: splitSp r else match splitSp r with
    | [] => [[c]]
    | x :: l => (c :: x) :: l
theorem splitSp_ne : ∀ l : Str, splitSp l ≠ []
  | [] => by simp [splitSp]
  | c :: r => by
    unfold splitSp
    split
    · simp
    · split <;> simp
theorem splitSp_at : ∀ (u r : Str), (∀ c ∈ u, c ≠ 32) → splitSp (u ++ 32 :: r) = u :: splitSp r
  | [], r, _ => by simp [splitSp]
  | c :: u, r, hu => by
    show splitSp (c :: (u ++ 32 :: r)) = _
    rw [splitSp, if_neg (hu c (by simp)), splitSp_at u r (fun x hx => hu x (by simp [hx]))]
theorem splitSp_last : ∀ (u : Str), (∀ c ∈ u, c ≠ 32) → splitSp u = [u]
  | [], _ => by simp [splitSp]
  | c :: u, hu => by
    rw [splitSp, if_neg (hu c (by simp)), splitSp_last u (fun x hx => hu x (by simp [hx]))]
theorem opWords_split : splitSp opWords = opNames := by decide +kernel
theorem opWords_len : opWords.length = 558 := by decide +kernel
theorem opNames_len : opNames.length = 98 := by decide +kernel
theorem opWords_ascii : ∀ c ∈ opWords, c.toNat < 128 := by decide +kernel
theorem dec_ascii {l : Str} {i : Nat} {c : UInt8} (hc : l[i]? = some c) (ha : c.toNat < 128) : Utf8.decode (bs l) i = (c.toNat, 1) := by
  obtain ⟨hi, e⟩ := List.getElem?_eq_some_iff.1 hc
  have e0 : ((bs l).get! (i + 0)).toNat = c.toNat := by
    congr 1
    show (bs l).data[i + 0]! = c
    rw [Nat.add_zero, getElem!_pos (bs l).data i (by show i < l.toArray.size; simpa using hi)]
    show l.toArray[i] = c
    rw [List.getElem_toArray]; exact e
  unfold Utf8.decode
  simp only [e0]
  rw [if_pos (by omega)]
theorem aggY0 : isAggT Tryz.prog 22 = some false := by kernel_rfl
theorem nextW {h : Hp} {it p : Nat} {l : Str} {c : UInt8} (hi : h it = some (.stringIter (bs l) p)) (hc : l[p]? = some c) (ha : c.toNat < 128) :
    nextH h (.pointer (some ⟨it, 0, none⟩)) = some (.tuple #[.bool true, .int .i64 p, .int .i32 c.toNat], some (it, .stringIter (bs l) (p + 1))) := by
  unfold nextH
  simp only [hi, dec_ascii hc ha]
  rw [if_pos (by rw [bs_size]; exact (List.getElem?_eq_some_iff.1 hc).1)]
theorem nextE {h : Hp} {it : Nat} {l : Str} (hi : h it = some (.stringIter (bs l) l.length)) : nextH h (.pointer (some ⟨it, 0, none⟩)) = some (.tuple #[.bool false], none) := by
  unfold nextH
  simp only [hi]
  rw [if_neg (by rw [bs_size]; omega)]
attribute [irreducible] opNames
/-- **The iterator over the ops' names.** -/
theorem all1_x (y : Value)
    (hs : ∀ it, h it = none → ∃ I : Nat → Hp → Prop, (∀ o, I 0 (h.set it o)) ∧ (∀ i h' o, I i h' → I i (h'.set it o)) ∧
      (∀ i x h', opNames[i]? = some x → I i h' → YV Tryz.prog y [.int .i64 (i + 1 : Nat), sv x] h' fun v h'' => ∃ go : Bool, v = .bool go ∧ (go = true → I (i + 1) h'' ∧ h'' it = h' it) ∧ (go = false → K (.tuple #[]) h'')) ∧ (∀ h', I 98 h' → K (.tuple #[]) h')) : X Tryz.prog 95 #[y] h K := by
  have hasc : ∀ (i : Nat) (c : UInt8), opWords[i]? = some c → c.toNat < 128 := fun i c hc => opWords_ascii c (List.mem_of_getElem? hc)
  have hlen := opWords_len
  have hnl := opNames_len
  have hspl := opWords_split
  refine fnv (args := _) mixed [] [] [] Tryz.func95 rfl (by kernel_rfl) ?_; conv => whnf
  intro it hit
  obtain ⟨I, i0, i1, i2, i3⟩ := hs it hit
  have hi0 := i0 (.stringIter (bs opWords) 0)
  clear i0
  refine loop_at [2, 3] [] (fun r vs _ h' => ∃ p f k : Nat, h' it = some (.stringIter (bs opWords) p) ∧ p ≤ 558 ∧ f ≤ p ∧ r = 558 - p ∧ vs = [.v (.int .i64 (k + 1 : Nat)), .v (.int .i64 f)] ∧ opNames.drop k = splitSp (opWords.drop f) ∧ (∀ c ∈ (opWords.take p).drop f, c ≠ 32) ∧ I k h') 558 ⟨0, 0, 0, Hp.set_same _ _ _, by omega, by omega, by omega, rfl, by rw [List.drop_zero, List.drop_zero, hspl], by simp, hi0⟩ ?_
  rintro r vs cs mm bx h1 ⟨p, f, k, hI, hp, hf, rfl, rfl, hsp, hno, hIk⟩
  by_cases hpl : p = 558
  · subst hpl
    rw [show (558 : Nat) = opWords.length from hlen.symm] at hI
    have hu : (opWords.take 558).drop f = opWords.drop f := by rw [List.take_of_length_le (Nat.le_of_eq hlen)]
    rw [hu] at hno
    rw [splitSp_last _ hno] at hsp
    have hk1 : k + 1 = 98 := by
      have := congrArg List.length hsp
      simp [hnl] at this
      omega
    have hnk : opNames[k]? = some (opWords.drop f) := by
      have := congrArg (fun l => l[0]?) hsp
      simpa using this
    have hyk := i2 k _ h1 hnk hIk
    conv => whnf
    refine io_none (nextE hI) ?_
    conv => whnf
    (first | refine need_intro (⟨by omega, by show _ ≤ ((558 : Nat) : Int); omega⟩) ?_ | refine must.mk (⟨by omega, by show _ ≤ ((558 : Nat) : Int); omega⟩) ?_); conv => whnf
    refine sub_by (l := opWords) (m := opWords.drop f) (by rw [show ((f : Int)).toNat = f by omega]; exact hu) ?_
    conv => whnf
    refine aRunK_yv rfl rfl rfl (hyk.mono ?_)
    rintro v h2 ⟨go, rfl, g1, g2⟩
    cases go with
    | true =>
      conv => whnf
      exact i3 _ (by rw [← hk1]; exact (g1 rfl).1)
    | false =>
      conv => whnf
      exact g2 rfl
  · obtain ⟨c, hc⟩ : ∃ c, opWords[p]? = some c := ⟨_, List.getElem?_eq_getElem (by omega)⟩
    have hsplit : opWords.drop f = (opWords.take p).drop f ++ c :: opWords.drop (p + 1) := by
      obtain ⟨hp2, rfl⟩ := List.getElem?_eq_some_iff.1 hc
      rw [← List.drop_eq_getElem_cons hp2, ← List.drop_append_of_le_length (by rw [List.length_take]; omega), List.take_append_drop]
    conv => whnf
    refine io_intro (by exact nextW hI hc (hasc p c hc)) (fun h2 at_h2 ot_h2 => ?_)
    try (conv => whnf)
    have e2 := Hp.eq_set at_h2 ot_h2
    have hI2 : I k h2 := by rw [e2]; exact i1 _ _ _ hIk
    refine bsel_intro (fun q1 => ?_) (fun q1 => ?_) <;> try simp only [bsL] at q1
    · have hc32 : c ≠ 32 := fun e => by subst e; exact q1 rfl
      conv => whnf
      refine ⟨558 - (p + 1), by omega, p + 1, f, k, at_h2, by omega, by omega, rfl, rfl, hsp, fun d hd => ?_, hI2⟩
      rw [List.take_add_one, hc, List.drop_append_of_le_length (by rw [List.length_take]; omega)] at hd
      rcases List.mem_append.1 hd with hd | hd
      · exact hno d hd
      · simp at hd; subst hd; exact hc32
    · have hc32 : c = 32 := by
        apply UInt8.toNat_inj.1
        show c.toNat = 32
        omega
      subst hc32
      rw [hsplit, splitSp_at _ _ hno] at hsp
      have hnk : opNames[k]? = some ((opWords.take p).drop f) := by
        have := congrArg (fun l => l[0]?) hsp
        simpa using this
      have hyk := i2 k _ h2 hnk hI2
      have hsp2 : opNames.drop (k + 1) = splitSp (opWords.drop (p + 1)) := by
        have := congrArg (fun l => l.drop 1) hsp
        simpa [List.drop_drop] using this
      have hk98 : k < 98 := by
        have := (List.getElem?_eq_some_iff.1 hnk).1
        omega
      conv => whnf
      (first | refine need_intro (⟨by omega, by show _ ≤ ((558 : Nat) : Int); omega⟩) ?_ | refine must.mk (⟨by omega, by show _ ≤ ((558 : Nat) : Int); omega⟩) ?_); conv => whnf
      (first | refine need_intro (⟨by omega, by omega⟩) ?_ | refine must.mk (⟨by omega, by omega⟩) ?_); conv => whnf
      refine sub_by (l := opWords) (m := (opWords.take p).drop f) (by rw [show ((f : Int)).toNat = f by omega, show ((p : Int)).toNat = p by omega]) ?_
      conv => whnf
      refine aRunK_yv rfl rfl rfl (hyk.mono ?_)
      rintro v h3 ⟨go, rfl, g1, g2⟩
      cases go with
      | true =>
        obtain ⟨g3, g4⟩ := g1 rfl
        conv => whnf
        (first | refine ov_c (by simp only [loK, hiK]; omega) ?_ | refine ov_c (by decide) ?_); conv => whnf
        (first | refine ov_c (by simp only [loK, hiK]; omega) ?_ | refine ov_c (by decide) ?_); conv => whnf
        refine ⟨558 - (p + 1), by omega, p + 1, p + 1, k + 1, g4.trans at_h2, by omega, by omega, rfl, rfl, hsp2, fun d hd => ?_, g3⟩
        rw [List.drop_eq_nil_of_le (by rw [List.length_take]; omega)] at hd
        cases hd
      | false =>
        conv => whnf
        exact g2 rfl
theorem all_x (hk : K (.func (.func 95) #[] #[]) h) : X Tryz.prog 64 #[] h K := by
  refine fnv (args := _) mixed [] [] [] Tryz.func64 rfl (by kernel_rfl) ?_; conv => whnf
  exact hk
def opName (n : Int) : Str := if 1 ≤ n ∧ n ≤ 98 then opNames.getD (n.toNat - 1) [] else []
theorem aggSt : isAggT Tryz.prog 9 = some false := by kernel_rfl
theorem sizSt : sizeT Tryz.prog 9 = some 1 := by kernel_rfl
theorem kname_x (n : Int) (hk : K (.string (bs (opName n))) h) : X Tryz.prog 21 #[.int .i64 n] h K := by
  refine X.forget ?_
  have hk' : ∀ h' : Hp, h.le h' → (∃ g : Hp, g.le h' ∧ K (.string (bs (opName n))) g) := fun h' hle => ⟨h, hle, hk⟩
  clear hk
  refine fnv (args := _) mixed [] [] [] Tryz.func21 rfl (by kernel_rfl) ?_; conv => whnf
  refine new_intro (o := rowO 22 [.int .i64 n]) (fun b h1 n_b le_b at_b ot_b => ?_); conv => whnf
  refine new_intro (o := rowO 9 [.string ⟨#[]⟩]) (fun r h2 n_r le_r at_r ot_r => ?_); conv => whnf
  have b2 := le_r b _ at_b
  have hbr : b ≠ r := Hp.ne n_r at_b
  have l2 : h.le h2 := Hp.le_trans le_b le_r
  have nr : h r = none := Hp.none_le le_b n_r
  refine all_x ?_
  conv => whnf
  refine ⟨fun lp lc hl hy => ?_⟩
  have dlb : b ≠ lp := Hp.ne hl b2
  have dlr : r ≠ lp := Hp.ne hl at_r
  have nl : h lp = none := Hp.none_le l2 hl
  refine all1_x (yieldV lp) fun it hit => ?_
  have dit : it ≠ lp := fun e => by subst e; rw [Hp.set_same] at hit; cases hit
  have hit2 : h2 it = none := by rw [Hp.set_other _ _ dit] at hit; exact hit
  have ditb : b ≠ it := Hp.ne hit2 b2
  have ditr : r ≠ it := Hp.ne hit2 at_r
  have niit : h it = none := Hp.none_le l2 hit2
  refine ⟨fun i h' => h' lp = some (lob lc .ready none) ∧ h' b = some (rowO 22 [.int .i64 n]) ∧ h' r = some (rowO 9 [.string ⟨#[]⟩]) ∧ h.le h' ∧ ¬ (1 ≤ n ∧ n ≤ i), fun o => ?_, fun i h' o hI => ?_, fun i x h' hx hI => ?_, fun h' hI => ?_⟩
  · exact ⟨by rw [Hp.set_other _ _ (Ne.symm dit), Hp.set_same], by rw [Hp.set_other _ _ ditb, Hp.set_other _ _ dlb]; exact b2, by rw [Hp.set_other _ _ ditr, Hp.set_other _ _ dlr]; exact at_r, Hp.le_keep (Hp.le_keep l2 nl) niit, by omega⟩
  · obtain ⟨a1, a2, a3, a4, a5⟩ := hI
    exact ⟨by rw [Hp.set_other _ _ (Ne.symm dit)]; exact a1, by rw [Hp.set_other _ _ ditb]; exact a2, by rw [Hp.set_other _ _ ditr]; exact a3, Hp.le_keep a4 niit, a5⟩
  · obtain ⟨a1, a2, a3, a4, a5⟩ := hI
    have b2' : (h'.set lp (lob lc .busy none)) b = some (rowO 22 [.int .i64 n]) := by rw [Hp.set_other _ _ dlb]; exact a2
    have r2' : (h'.set lp (lob lc .busy none)) r = some (rowO 9 [.string ⟨#[]⟩]) := by rw [Hp.set_other _ _ dlr]; exact a3
    have lp2 : (h'.set lp (lob lc .busy none)) lp = some (lob lc .busy none) := Hp.set_same _ _ _
    have le2 : h.le (h'.set lp (lob lc .busy none)) := Hp.le_keep a4 nl
    have it2 : (h'.set lp (lob lc .busy none)) it = h' it := Hp.set_other _ _ dit
    have hil := (List.getElem?_eq_some_iff.1 hx).1
    have hx2 : opNames.getD i [] = x := by rw [List.getD_eq_getElem?_getD, hx]; rfl
    rw [opNames_len] at hil
    refine hy _ _ _ ⟨rfl, a1, ?_⟩
    conv => whnf
    refine ⟨a1, ?_⟩
    generalize h'.set lp (lob lc .busy none) = hb at b2' r2' lp2 le2 it2 ⊢
    conv => whnf
    refine ⟨_, loadC0 aggY0 b2' rfl, ?_⟩; conv => whnf
    refine bsel_intro (fun q1 => ?_) (fun q1 => ?_) <;> try simp only [bsL] at q1
    · have hn : opName n = x := by
        unfold opName
        rw [if_pos (by omega), show n.toNat - 1 = i by omega]; exact hx2
      conv => whnf
      refine wr_intro (by exact storeC0 sizSt r2' (Nat.zero_lt_succ 0) rfl rfl) (fun h5 at_h5 ot_h5 => ?_)
      try (conv => whnf)
      have lp5 : h5 lp = some (lob lc .busy none) := by rw [ot_h5 lp (Ne.symm dlr)]; exact lp2
      have r5 : (h5.set lp (lob lc .done (some .ret))) r = some (rowO 9 [sv x]) := by rw [Hp.set_other _ _ dlr]; exact at_h5
      have le5 : h.le h5 := fun c o e => by rw [ot_h5 c (Hp.ne nr e)]; exact le2 _ _ e
      refine ⟨lp5, ?_⟩
      refine ⟨false, rfl, ⟨(fun e => by cases e), fun _ => ?_⟩⟩
      refine ⟨.done, some .ret, Hp.set_same _ _ _, by simp, ?_⟩
      rw [Hp.set_set]
      have r6 : (h5.set lp (lob lc .exhausted (some .ret))) r = some (rowO 9 [sv x]) := by rw [Hp.set_other _ _ dlr]; exact at_h5
      have le6 := hk' (h5.set lp (lob lc .exhausted (some .ret))) (Hp.le_keep le5 nl)
      rw [hn] at le6
      conv => whnf
      refine ⟨_, loadC0 aggSt r6 rfl, ?_⟩; conv => whnf
      exact le6
    · conv => whnf
      refine ⟨lp2, true, rfl, fun _ => ⟨⟨Hp.set_same _ _ _, by rw [Hp.set_other _ _ dlb]; exact b2', by rw [Hp.set_other _ _ dlr]; exact r2', Hp.le_keep le2 nl, by omega⟩, by rw [Hp.set_other _ _ dit]; exact it2⟩, fun e => by cases e⟩
  · obtain ⟨a1, a2, a3, a4, a5⟩ := hI
    have hn : opName n = [] := if_neg a5
    refine ⟨.ready, none, a1, by simp, ?_⟩
    have r6 : (h'.set lp (lob lc .exhausted none)) r = some (rowO 9 [.string ⟨#[]⟩]) := by rw [Hp.set_other _ _ dlr]; exact a3
    have le6 := Hp.le_keep (b := lp) (o := lob lc .exhausted none) a4 nl
    generalize h'.set lp (lob lc .exhausted none) = h6 at r6 le6 ⊢
    conv => whnf
    refine wr_intro (by exact storeC0 sizSt r6 (Nat.zero_lt_succ 0) rfl rfl) (fun h7 at_h7 ot_h7 => ?_)
    try (conv => whnf)
    have r7 : h7 r = some (rowO 9 [.string ⟨#[]⟩]) := at_h7
    have k7 := hk' h7 (fun c o e => by rw [ot_h7 c (Hp.ne nr e)]; exact le6 _ _ e)
    rw [hn] at k7
    conv => whnf
    refine ⟨_, loadC0 aggSt r7 rfl, ?_⟩; conv => whnf
    exact k7
end
end Go.Proofs.YtlobclgbbhoeiaaGreatDoor
