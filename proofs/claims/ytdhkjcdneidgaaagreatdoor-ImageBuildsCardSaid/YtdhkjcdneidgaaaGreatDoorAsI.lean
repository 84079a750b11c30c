/-
  Instructions as text: why an instruction has no word.
-/
import Derived.Test.YtdhkjcdneidgaaaGreatDoorAsH
set_option linter.unusedSimpArgs false
set_option linter.unusedVariables false
set_option maxHeartbeats 8000000
set_option maxRecDepth 10000
set_option linter.unusedSimpArgs false
set_option linter.unusedVariables false
namespace Go.Proofs.YtdhkjcdneidgaaaGreatDoor
open Go Go.Mid Go.RowKit
abbrev rfXAsI0:Go.Mid.RF:=[(1,1),(12,1),(29,1),(37,1),(46,1),(55,1),(64,1),(73,1),(76,1),(81,1),(83,1),(85,1),(98,1),(102,1),(108,1)]
attribute [local irreducible] mid
def badF (fl:List Bool) (a b c m s:Int) (aq rl:Bool):Prop:=(fl.getD 0 true=false∧a≠0)∨(fl.getD 1 true=false∧b≠0)∨(fl.getD 2 true=false∧c≠0)∨(fl.getD 3 true=false∧m≠0)∨(fl.getD 4 true=false∧s≠0)∨(fl.getD 5 true=false∧(aq=true∨rl=true))
instance (fl:List Bool) (a b c m s:Int) (aq rl:Bool):Decidable (badF fl a b c m s aq rl):=by unfold badF;infer_instance
def checkF (f:Nat) (a b c m s:Int) (aq rl:Bool):Int:=if f=0 then 1 else if badF (fieldsL.getD f []) a b c m s aq rl then 2 else if a<0∨31<a∨b<0∨31<b∨c<0∨31<c then 3 else if s<0∨4095<s∨fitsN f m=false then 3 else 0
abbrev inV (op a b c m s:Int) (aq rl:Bool):Value:=.agg #[.int .i64 op,.int .i64 a,.int .i64 b,.int .i64 c,.int .i64 m,.int .i64 s,.bool aq,.bool rl]
section
variable {h:Hp} {K:Value→Hp→Prop} {E:List PanicEntry→Hp→Prop}
theorem chk2 {f:Nat} {a b c m s:Int} {aq rl:Bool} (h0:f≠0) (hb:badF (fieldsL.getD f []) a b c m s aq rl):checkF f a b c m s aq rl=2:=by
 unfold checkF;rw [if_neg h0,if_pos hb]
theorem chk3 {f:Nat} {a b c m s:Int} {aq rl:Bool} (h0:f≠0) (hb:¬ badF (fieldsL.getD f []) a b c m s aq rl) (hr:a<0∨31<a∨b<0∨31<b∨c<0∨31<c):checkF f a b c m s aq rl=3:=by
 unfold checkF;rw [if_neg h0,if_neg hb,if_pos hr]
theorem chk4 {f:Nat} {a b c m s:Int} {aq rl:Bool} (h0:f≠0) (hb:¬ badF (fieldsL.getD f []) a b c m s aq rl) (hr:¬ (a<0∨31<a∨b<0∨31<b∨c<0∨31<c)) (hs:s<0∨4095<s∨fitsN f m=false):checkF f a b c m s aq rl=3:=by
 unfold checkF;rw [if_neg h0,if_neg hb,if_neg hr,if_pos hs]
theorem chk5 {f:Nat} {a b c m s:Int} {aq rl:Bool} (h0:f≠0) (hb:¬ badF (fieldsL.getD f []) a b c m s aq rl) (hr:¬ (a<0∨31<a∨b<0∨31<b∨c<0∨31<c)) (hs:¬ (s<0∨4095<s∨fitsN f m=false)):checkF f a b c m s aq rl=0:=by
 unfold checkF;rw [if_neg h0,if_neg hb,if_neg hr,if_neg hs]
theorem check1_x (op a b c m s:Int) (aq rl:Bool) (hf:fmtN op=1) (m1 : -9223372036854775808≤m) (m2:m≤9223372036854775807) (hk:K (.int .i64 (checkF 1 a b c m s aq rl)) h):X Tryz.prog 113 #[inV op a b c m s aq rl] h K:=by
 refine fnv (args:=_) mixed rfXAsI0 [] [] Tryz.func113 rfl (by kernel_rfl) (cw_ ?_)
 refine fmt_x op ?_
 rw [hf]
 conv=>whnf
 refine fields_x 1 (by decide) (cw_ ?_)
 by_cases zm:m=0
 rotate_left
 ·rw [chk2 (by decide) (by first | (simp [badF,fieldsL];done) | (simp [badF,fieldsL];omega) | (simp_all [badF,fieldsL];done))] at hk
  refine bt_ ?_ (by simp [zm])
  exact hk
 refine bf_ ?_ (by simp [zm])
 by_cases zs:s=0
 rotate_left
 ·rw [chk2 (by decide) (by first | (simp [badF,fieldsL];done) | (simp [badF,fieldsL];omega) | (simp_all [badF,fieldsL];done))] at hk
  refine bt_ ?_ (by simp [zs])
  exact hk
 refine bf_ ?_ (by simp [zs])
 by_cases zq:(aq || rl)=true
 ·rw [chk2 (by decide) (by simp at zq;simp [badF,fieldsL];simp [zq])] at hk
  cases aq with
  | true =>
   conv=>whnf
   exact hk
  | false =>
   conv=>whnf
   obtain rfl:rl=true:=by simpa using zq
   conv=>whnf
   exact hk
 obtain ⟨rfl,rfl⟩:aq=false∧rl=false:=by simpa using zq
 conv=>whnf
 have hb:¬ badF (fieldsL.getD 1 []) a b c m s false false:=by first | (simp [badF,fieldsL];done) | (simp [badF,fieldsL];omega) | (simp_all [badF,fieldsL];done)
 refine loop_step (cw_ ?_)
 refine br_ (fun qa=>?_) fun qa=>?_
 ·rw [chk3 (by decide) hb (by omega)] at hk
  conv=>whnf
  exact hk
 conv=>whnf
 refine br_ (fun ra=>?_) fun ra=>?_
 ·rw [chk3 (by decide) hb (by omega)] at hk
  conv=>whnf
  exact hk
 conv=>whnf
 refine n_ ?_
 refine loop_step (cw_ ?_)
 refine br_ (fun qb=>?_) fun qb=>?_
 ·rw [chk3 (by decide) hb (by omega)] at hk
  conv=>whnf
  exact hk
 conv=>whnf
 refine br_ (fun rb=>?_) fun rb=>?_
 ·rw [chk3 (by decide) hb (by omega)] at hk
  conv=>whnf
  exact hk
 conv=>whnf
 refine n_ ?_
 refine loop_step (cw_ ?_)
 refine br_ (fun qc=>?_) fun qc=>?_
 ·rw [chk3 (by decide) hb (by omega)] at hk
  conv=>whnf
  exact hk
 conv=>whnf
 refine br_ (fun rc=>?_) fun rc=>?_
 ·rw [chk3 (by decide) hb (by omega)] at hk
  conv=>whnf
  exact hk
 conv=>whnf
 refine n_ ?_
 refine loop_step (cw_ ?_)
 refine br_ (fun qs=>?_) fun qs=>?_
 ·rw [chk4 (by decide) hb (by omega) (by omega)] at hk
  conv=>whnf
  exact hk
 conv=>whnf
 refine br_ (fun rs=>?_) fun rs=>?_
 ·rw [chk4 (by decide) hb (by omega) (by omega)] at hk
  conv=>whnf
  exact hk
 conv=>whnf
 refine fits_x 1 (by decide) m m1 m2 ?_
 cases hfit:fitsN 1 m with
 | false =>
  rw [chk4 (by decide) hb (by omega) (.inr (.inr hfit))] at hk
  conv=>whnf
  exact hk
 | true =>
  rw [chk5 (by decide) hb (by omega) (by rw [hfit];simp;omega)] at hk
  conv=>whnf
  exact hk
theorem check2_x (op a b c m s:Int) (aq rl:Bool) (hf:fmtN op=2) (m1 : -9223372036854775808≤m) (m2:m≤9223372036854775807) (hk:K (.int .i64 (checkF 2 a b c m s aq rl)) h):X Tryz.prog 113 #[inV op a b c m s aq rl] h K:=by
 refine fnv (args:=_) mixed rfXAsI0 [] [] Tryz.func113 rfl (by kernel_rfl) (cw_ ?_)
 refine fmt_x op ?_
 rw [hf]
 conv=>whnf
 refine fields_x 2 (by decide) (cw_ ?_)
 by_cases zc:c=0
 rotate_left
 ·rw [chk2 (by decide) (by first | (simp [badF,fieldsL];done) | (simp [badF,fieldsL];omega) | (simp_all [badF,fieldsL];done))] at hk
  refine bt_ ?_ (by simp [zc])
  exact hk
 refine bf_ ?_ (by simp [zc])
 by_cases zs:s=0
 rotate_left
 ·rw [chk2 (by decide) (by first | (simp [badF,fieldsL];done) | (simp [badF,fieldsL];omega) | (simp_all [badF,fieldsL];done))] at hk
  refine bt_ ?_ (by simp [zs])
  exact hk
 refine bf_ ?_ (by simp [zs])
 by_cases zq:(aq || rl)=true
 ·rw [chk2 (by decide) (by simp at zq;simp [badF,fieldsL];simp [zq])] at hk
  cases aq with
  | true =>
   conv=>whnf
   exact hk
  | false =>
   conv=>whnf
   obtain rfl:rl=true:=by simpa using zq
   conv=>whnf
   exact hk
 obtain ⟨rfl,rfl⟩:aq=false∧rl=false:=by simpa using zq
 conv=>whnf
 have hb:¬ badF (fieldsL.getD 2 []) a b c m s false false:=by first | (simp [badF,fieldsL];done) | (simp [badF,fieldsL];omega) | (simp_all [badF,fieldsL];done)
 refine loop_step (cw_ ?_)
 refine br_ (fun qa=>?_) fun qa=>?_
 ·rw [chk3 (by decide) hb (by omega)] at hk
  conv=>whnf
  exact hk
 conv=>whnf
 refine br_ (fun ra=>?_) fun ra=>?_
 ·rw [chk3 (by decide) hb (by omega)] at hk
  conv=>whnf
  exact hk
 conv=>whnf
 refine n_ ?_
 refine loop_step (cw_ ?_)
 refine br_ (fun qb=>?_) fun qb=>?_
 ·rw [chk3 (by decide) hb (by omega)] at hk
  conv=>whnf
  exact hk
 conv=>whnf
 refine br_ (fun rb=>?_) fun rb=>?_
 ·rw [chk3 (by decide) hb (by omega)] at hk
  conv=>whnf
  exact hk
 conv=>whnf
 refine n_ ?_
 refine loop_step (cw_ ?_)
 refine br_ (fun qc=>?_) fun qc=>?_
 ·rw [chk3 (by decide) hb (by omega)] at hk
  conv=>whnf
  exact hk
 conv=>whnf
 refine br_ (fun rc=>?_) fun rc=>?_
 ·rw [chk3 (by decide) hb (by omega)] at hk
  conv=>whnf
  exact hk
 conv=>whnf
 refine n_ ?_
 refine loop_step (cw_ ?_)
 refine br_ (fun qs=>?_) fun qs=>?_
 ·rw [chk4 (by decide) hb (by omega) (by omega)] at hk
  conv=>whnf
  exact hk
 conv=>whnf
 refine br_ (fun rs=>?_) fun rs=>?_
 ·rw [chk4 (by decide) hb (by omega) (by omega)] at hk
  conv=>whnf
  exact hk
 conv=>whnf
 refine fits_x 2 (by decide) m m1 m2 ?_
 cases hfit:fitsN 2 m with
 | false =>
  rw [chk4 (by decide) hb (by omega) (.inr (.inr hfit))] at hk
  conv=>whnf
  exact hk
 | true =>
  rw [chk5 (by decide) hb (by omega) (by rw [hfit];simp;omega)] at hk
  conv=>whnf
  exact hk
theorem check3_x (op a b c m s:Int) (aq rl:Bool) (hf:fmtN op=3) (m1 : -9223372036854775808≤m) (m2:m≤9223372036854775807) (hk:K (.int .i64 (checkF 3 a b c m s aq rl)) h):X Tryz.prog 113 #[inV op a b c m s aq rl] h K:=by
 refine fnv (args:=_) mixed rfXAsI0 [] [] Tryz.func113 rfl (by kernel_rfl) (cw_ ?_)
 refine fmt_x op ?_
 rw [hf]
 conv=>whnf
 refine fields_x 3 (by decide) (cw_ ?_)
 by_cases za:a=0
 rotate_left
 ·rw [chk2 (by decide) (by first | (simp [badF,fieldsL];done) | (simp [badF,fieldsL];omega) | (simp_all [badF,fieldsL];done))] at hk
  refine bt_ ?_ (by simp [za])
  exact hk
 refine bf_ ?_ (by simp [za])
 by_cases zs:s=0
 rotate_left
 ·rw [chk2 (by decide) (by first | (simp [badF,fieldsL];done) | (simp [badF,fieldsL];omega) | (simp_all [badF,fieldsL];done))] at hk
  refine bt_ ?_ (by simp [zs])
  exact hk
 refine bf_ ?_ (by simp [zs])
 by_cases zq:(aq || rl)=true
 ·rw [chk2 (by decide) (by simp at zq;simp [badF,fieldsL];simp [zq])] at hk
  cases aq with
  | true =>
   conv=>whnf
   exact hk
  | false =>
   conv=>whnf
   obtain rfl:rl=true:=by simpa using zq
   conv=>whnf
   exact hk
 obtain ⟨rfl,rfl⟩:aq=false∧rl=false:=by simpa using zq
 conv=>whnf
 have hb:¬ badF (fieldsL.getD 3 []) a b c m s false false:=by first | (simp [badF,fieldsL];done) | (simp [badF,fieldsL];omega) | (simp_all [badF,fieldsL];done)
 refine loop_step (cw_ ?_)
 refine br_ (fun qa=>?_) fun qa=>?_
 ·rw [chk3 (by decide) hb (by omega)] at hk
  conv=>whnf
  exact hk
 conv=>whnf
 refine br_ (fun ra=>?_) fun ra=>?_
 ·rw [chk3 (by decide) hb (by omega)] at hk
  conv=>whnf
  exact hk
 conv=>whnf
 refine n_ ?_
 refine loop_step (cw_ ?_)
 refine br_ (fun qb=>?_) fun qb=>?_
 ·rw [chk3 (by decide) hb (by omega)] at hk
  conv=>whnf
  exact hk
 conv=>whnf
 refine br_ (fun rb=>?_) fun rb=>?_
 ·rw [chk3 (by decide) hb (by omega)] at hk
  conv=>whnf
  exact hk
 conv=>whnf
 refine n_ ?_
 refine loop_step (cw_ ?_)
 refine br_ (fun qc=>?_) fun qc=>?_
 ·rw [chk3 (by decide) hb (by omega)] at hk
  conv=>whnf
  exact hk
 conv=>whnf
 refine br_ (fun rc=>?_) fun rc=>?_
 ·rw [chk3 (by decide) hb (by omega)] at hk
  conv=>whnf
  exact hk
 conv=>whnf
 refine n_ ?_
 refine loop_step (cw_ ?_)
 refine br_ (fun qs=>?_) fun qs=>?_
 ·rw [chk4 (by decide) hb (by omega) (by omega)] at hk
  conv=>whnf
  exact hk
 conv=>whnf
 refine br_ (fun rs=>?_) fun rs=>?_
 ·rw [chk4 (by decide) hb (by omega) (by omega)] at hk
  conv=>whnf
  exact hk
 conv=>whnf
 refine fits_x 3 (by decide) m m1 m2 ?_
 cases hfit:fitsN 3 m with
 | false =>
  rw [chk4 (by decide) hb (by omega) (.inr (.inr hfit))] at hk
  conv=>whnf
  exact hk
 | true =>
  rw [chk5 (by decide) hb (by omega) (by rw [hfit];simp;omega)] at hk
  conv=>whnf
  exact hk
theorem check4_x (op a b c m s:Int) (aq rl:Bool) (hf:fmtN op=4) (m1 : -9223372036854775808≤m) (m2:m≤9223372036854775807) (hk:K (.int .i64 (checkF 4 a b c m s aq rl)) h):X Tryz.prog 113 #[inV op a b c m s aq rl] h K:=by
 refine fnv (args:=_) mixed rfXAsI0 [] [] Tryz.func113 rfl (by kernel_rfl) (cw_ ?_)
 refine fmt_x op ?_
 rw [hf]
 conv=>whnf
 refine fields_x 4 (by decide) (cw_ ?_)
 by_cases za:a=0
 rotate_left
 ·rw [chk2 (by decide) (by first | (simp [badF,fieldsL];done) | (simp [badF,fieldsL];omega) | (simp_all [badF,fieldsL];done))] at hk
  refine bt_ ?_ (by simp [za])
  exact hk
 refine bf_ ?_ (by simp [za])
 by_cases zs:s=0
 rotate_left
 ·rw [chk2 (by decide) (by first | (simp [badF,fieldsL];done) | (simp [badF,fieldsL];omega) | (simp_all [badF,fieldsL];done))] at hk
  refine bt_ ?_ (by simp [zs])
  exact hk
 refine bf_ ?_ (by simp [zs])
 by_cases zq:(aq || rl)=true
 ·rw [chk2 (by decide) (by simp at zq;simp [badF,fieldsL];simp [zq])] at hk
  cases aq with
  | true =>
   conv=>whnf
   exact hk
  | false =>
   conv=>whnf
   obtain rfl:rl=true:=by simpa using zq
   conv=>whnf
   exact hk
 obtain ⟨rfl,rfl⟩:aq=false∧rl=false:=by simpa using zq
 conv=>whnf
 have hb:¬ badF (fieldsL.getD 4 []) a b c m s false false:=by first | (simp [badF,fieldsL];done) | (simp [badF,fieldsL];omega) | (simp_all [badF,fieldsL];done)
 refine loop_step (cw_ ?_)
 refine br_ (fun qa=>?_) fun qa=>?_
 ·rw [chk3 (by decide) hb (by omega)] at hk
  conv=>whnf
  exact hk
 conv=>whnf
 refine br_ (fun ra=>?_) fun ra=>?_
 ·rw [chk3 (by decide) hb (by omega)] at hk
  conv=>whnf
  exact hk
 conv=>whnf
 refine n_ ?_
 refine loop_step (cw_ ?_)
 refine br_ (fun qb=>?_) fun qb=>?_
 ·rw [chk3 (by decide) hb (by omega)] at hk
  conv=>whnf
  exact hk
 conv=>whnf
 refine br_ (fun rb=>?_) fun rb=>?_
 ·rw [chk3 (by decide) hb (by omega)] at hk
  conv=>whnf
  exact hk
 conv=>whnf
 refine n_ ?_
 refine loop_step (cw_ ?_)
 refine br_ (fun qc=>?_) fun qc=>?_
 ·rw [chk3 (by decide) hb (by omega)] at hk
  conv=>whnf
  exact hk
 conv=>whnf
 refine br_ (fun rc=>?_) fun rc=>?_
 ·rw [chk3 (by decide) hb (by omega)] at hk
  conv=>whnf
  exact hk
 conv=>whnf
 refine n_ ?_
 refine loop_step (cw_ ?_)
 refine br_ (fun qs=>?_) fun qs=>?_
 ·rw [chk4 (by decide) hb (by omega) (by omega)] at hk
  conv=>whnf
  exact hk
 conv=>whnf
 refine br_ (fun rs=>?_) fun rs=>?_
 ·rw [chk4 (by decide) hb (by omega) (by omega)] at hk
  conv=>whnf
  exact hk
 conv=>whnf
 refine fits_x 4 (by decide) m m1 m2 ?_
 cases hfit:fitsN 4 m with
 | false =>
  rw [chk4 (by decide) hb (by omega) (.inr (.inr hfit))] at hk
  conv=>whnf
  exact hk
 | true =>
  rw [chk5 (by decide) hb (by omega) (by rw [hfit];simp;omega)] at hk
  conv=>whnf
  exact hk
theorem check5_x (op a b c m s:Int) (aq rl:Bool) (hf:fmtN op=5) (m1 : -9223372036854775808≤m) (m2:m≤9223372036854775807) (hk:K (.int .i64 (checkF 5 a b c m s aq rl)) h):X Tryz.prog 113 #[inV op a b c m s aq rl] h K:=by
 refine fnv (args:=_) mixed rfXAsI0 [] [] Tryz.func113 rfl (by kernel_rfl) (cw_ ?_)
 refine fmt_x op ?_
 rw [hf]
 conv=>whnf
 refine fields_x 5 (by decide) (cw_ ?_)
 by_cases zb:b=0
 rotate_left
 ·rw [chk2 (by decide) (by first | (simp [badF,fieldsL];done) | (simp [badF,fieldsL];omega) | (simp_all [badF,fieldsL];done))] at hk
  refine bt_ ?_ (by simp [zb])
  exact hk
 refine bf_ ?_ (by simp [zb])
 by_cases zc:c=0
 rotate_left
 ·rw [chk2 (by decide) (by first | (simp [badF,fieldsL];done) | (simp [badF,fieldsL];omega) | (simp_all [badF,fieldsL];done))] at hk
  refine bt_ ?_ (by simp [zc])
  exact hk
 refine bf_ ?_ (by simp [zc])
 by_cases zs:s=0
 rotate_left
 ·rw [chk2 (by decide) (by first | (simp [badF,fieldsL];done) | (simp [badF,fieldsL];omega) | (simp_all [badF,fieldsL];done))] at hk
  refine bt_ ?_ (by simp [zs])
  exact hk
 refine bf_ ?_ (by simp [zs])
 by_cases zq:(aq || rl)=true
 ·rw [chk2 (by decide) (by simp at zq;simp [badF,fieldsL];simp [zq])] at hk
  cases aq with
  | true =>
   conv=>whnf
   exact hk
  | false =>
   conv=>whnf
   obtain rfl:rl=true:=by simpa using zq
   conv=>whnf
   exact hk
 obtain ⟨rfl,rfl⟩:aq=false∧rl=false:=by simpa using zq
 conv=>whnf
 have hb:¬ badF (fieldsL.getD 5 []) a b c m s false false:=by first | (simp [badF,fieldsL];done) | (simp [badF,fieldsL];omega) | (simp_all [badF,fieldsL];done)
 refine loop_step (cw_ ?_)
 refine br_ (fun qa=>?_) fun qa=>?_
 ·rw [chk3 (by decide) hb (by omega)] at hk
  conv=>whnf
  exact hk
 conv=>whnf
 refine br_ (fun ra=>?_) fun ra=>?_
 ·rw [chk3 (by decide) hb (by omega)] at hk
  conv=>whnf
  exact hk
 conv=>whnf
 refine n_ ?_
 refine loop_step (cw_ ?_)
 refine br_ (fun qb=>?_) fun qb=>?_
 ·rw [chk3 (by decide) hb (by omega)] at hk
  conv=>whnf
  exact hk
 conv=>whnf
 refine br_ (fun rb=>?_) fun rb=>?_
 ·rw [chk3 (by decide) hb (by omega)] at hk
  conv=>whnf
  exact hk
 conv=>whnf
 refine n_ ?_
 refine loop_step (cw_ ?_)
 refine br_ (fun qc=>?_) fun qc=>?_
 ·rw [chk3 (by decide) hb (by omega)] at hk
  conv=>whnf
  exact hk
 conv=>whnf
 refine br_ (fun rc=>?_) fun rc=>?_
 ·rw [chk3 (by decide) hb (by omega)] at hk
  conv=>whnf
  exact hk
 conv=>whnf
 refine n_ ?_
 refine loop_step (cw_ ?_)
 refine br_ (fun qs=>?_) fun qs=>?_
 ·rw [chk4 (by decide) hb (by omega) (by omega)] at hk
  conv=>whnf
  exact hk
 conv=>whnf
 refine br_ (fun rs=>?_) fun rs=>?_
 ·rw [chk4 (by decide) hb (by omega) (by omega)] at hk
  conv=>whnf
  exact hk
 conv=>whnf
 refine fits_x 5 (by decide) m m1 m2 ?_
 cases hfit:fitsN 5 m with
 | false =>
  rw [chk4 (by decide) hb (by omega) (.inr (.inr hfit))] at hk
  conv=>whnf
  exact hk
 | true =>
  rw [chk5 (by decide) hb (by omega) (by rw [hfit];simp;omega)] at hk
  conv=>whnf
  exact hk
theorem check6_x (op a b c m s:Int) (aq rl:Bool) (hf:fmtN op=6) (m1 : -9223372036854775808≤m) (m2:m≤9223372036854775807) (hk:K (.int .i64 (checkF 6 a b c m s aq rl)) h):X Tryz.prog 113 #[inV op a b c m s aq rl] h K:=by
 refine fnv (args:=_) mixed rfXAsI0 [] [] Tryz.func113 rfl (by kernel_rfl) (cw_ ?_)
 refine fmt_x op ?_
 rw [hf]
 conv=>whnf
 refine fields_x 6 (by decide) (cw_ ?_)
 by_cases zb:b=0
 rotate_left
 ·rw [chk2 (by decide) (by first | (simp [badF,fieldsL];done) | (simp [badF,fieldsL];omega) | (simp_all [badF,fieldsL];done))] at hk
  refine bt_ ?_ (by simp [zb])
  exact hk
 refine bf_ ?_ (by simp [zb])
 by_cases zc:c=0
 rotate_left
 ·rw [chk2 (by decide) (by first | (simp [badF,fieldsL];done) | (simp [badF,fieldsL];omega) | (simp_all [badF,fieldsL];done))] at hk
  refine bt_ ?_ (by simp [zc])
  exact hk
 refine bf_ ?_ (by simp [zc])
 by_cases zs:s=0
 rotate_left
 ·rw [chk2 (by decide) (by first | (simp [badF,fieldsL];done) | (simp [badF,fieldsL];omega) | (simp_all [badF,fieldsL];done))] at hk
  refine bt_ ?_ (by simp [zs])
  exact hk
 refine bf_ ?_ (by simp [zs])
 by_cases zq:(aq || rl)=true
 ·rw [chk2 (by decide) (by simp at zq;simp [badF,fieldsL];simp [zq])] at hk
  cases aq with
  | true =>
   conv=>whnf
   exact hk
  | false =>
   conv=>whnf
   obtain rfl:rl=true:=by simpa using zq
   conv=>whnf
   exact hk
 obtain ⟨rfl,rfl⟩:aq=false∧rl=false:=by simpa using zq
 conv=>whnf
 have hb:¬ badF (fieldsL.getD 6 []) a b c m s false false:=by first | (simp [badF,fieldsL];done) | (simp [badF,fieldsL];omega) | (simp_all [badF,fieldsL];done)
 refine loop_step (cw_ ?_)
 refine br_ (fun qa=>?_) fun qa=>?_
 ·rw [chk3 (by decide) hb (by omega)] at hk
  conv=>whnf
  exact hk
 conv=>whnf
 refine br_ (fun ra=>?_) fun ra=>?_
 ·rw [chk3 (by decide) hb (by omega)] at hk
  conv=>whnf
  exact hk
 conv=>whnf
 refine n_ ?_
 refine loop_step (cw_ ?_)
 refine br_ (fun qb=>?_) fun qb=>?_
 ·rw [chk3 (by decide) hb (by omega)] at hk
  conv=>whnf
  exact hk
 conv=>whnf
 refine br_ (fun rb=>?_) fun rb=>?_
 ·rw [chk3 (by decide) hb (by omega)] at hk
  conv=>whnf
  exact hk
 conv=>whnf
 refine n_ ?_
 refine loop_step (cw_ ?_)
 refine br_ (fun qc=>?_) fun qc=>?_
 ·rw [chk3 (by decide) hb (by omega)] at hk
  conv=>whnf
  exact hk
 conv=>whnf
 refine br_ (fun rc=>?_) fun rc=>?_
 ·rw [chk3 (by decide) hb (by omega)] at hk
  conv=>whnf
  exact hk
 conv=>whnf
 refine n_ ?_
 refine loop_step (cw_ ?_)
 refine br_ (fun qs=>?_) fun qs=>?_
 ·rw [chk4 (by decide) hb (by omega) (by omega)] at hk
  conv=>whnf
  exact hk
 conv=>whnf
 refine br_ (fun rs=>?_) fun rs=>?_
 ·rw [chk4 (by decide) hb (by omega) (by omega)] at hk
  conv=>whnf
  exact hk
 conv=>whnf
 refine fits_x 6 (by decide) m m1 m2 ?_
 cases hfit:fitsN 6 m with
 | false =>
  rw [chk4 (by decide) hb (by omega) (.inr (.inr hfit))] at hk
  conv=>whnf
  exact hk
 | true =>
  rw [chk5 (by decide) hb (by omega) (by rw [hfit];simp;omega)] at hk
  conv=>whnf
  exact hk
theorem check7_x (op a b c m s:Int) (aq rl:Bool) (hf:fmtN op=7) (m1 : -9223372036854775808≤m) (m2:m≤9223372036854775807) (hk:K (.int .i64 (checkF 7 a b c m s aq rl)) h):X Tryz.prog 113 #[inV op a b c m s aq rl] h K:=by
 refine fnv (args:=_) mixed rfXAsI0 [] [] Tryz.func113 rfl (by kernel_rfl) (cw_ ?_)
 refine fmt_x op ?_
 rw [hf]
 conv=>whnf
 refine fields_x 7 (by decide) (cw_ ?_)
 by_cases zc:c=0
 rotate_left
 ·rw [chk2 (by decide) (by first | (simp [badF,fieldsL];done) | (simp [badF,fieldsL];omega) | (simp_all [badF,fieldsL];done))] at hk
  refine bt_ ?_ (by simp [zc])
  exact hk
 refine bf_ ?_ (by simp [zc])
 by_cases zs:s=0
 rotate_left
 ·rw [chk2 (by decide) (by first | (simp [badF,fieldsL];done) | (simp [badF,fieldsL];omega) | (simp_all [badF,fieldsL];done))] at hk
  refine bt_ ?_ (by simp [zs])
  exact hk
 refine bf_ ?_ (by simp [zs])
 by_cases zq:(aq || rl)=true
 ·rw [chk2 (by decide) (by simp at zq;simp [badF,fieldsL];simp [zq])] at hk
  cases aq with
  | true =>
   conv=>whnf
   exact hk
  | false =>
   conv=>whnf
   obtain rfl:rl=true:=by simpa using zq
   conv=>whnf
   exact hk
 obtain ⟨rfl,rfl⟩:aq=false∧rl=false:=by simpa using zq
 conv=>whnf
 have hb:¬ badF (fieldsL.getD 7 []) a b c m s false false:=by first | (simp [badF,fieldsL];done) | (simp [badF,fieldsL];omega) | (simp_all [badF,fieldsL];done)
 refine loop_step (cw_ ?_)
 refine br_ (fun qa=>?_) fun qa=>?_
 ·rw [chk3 (by decide) hb (by omega)] at hk
  conv=>whnf
  exact hk
 conv=>whnf
 refine br_ (fun ra=>?_) fun ra=>?_
 ·rw [chk3 (by decide) hb (by omega)] at hk
  conv=>whnf
  exact hk
 conv=>whnf
 refine n_ ?_
 refine loop_step (cw_ ?_)
 refine br_ (fun qb=>?_) fun qb=>?_
 ·rw [chk3 (by decide) hb (by omega)] at hk
  conv=>whnf
  exact hk
 conv=>whnf
 refine br_ (fun rb=>?_) fun rb=>?_
 ·rw [chk3 (by decide) hb (by omega)] at hk
  conv=>whnf
  exact hk
 conv=>whnf
 refine n_ ?_
 refine loop_step (cw_ ?_)
 refine br_ (fun qc=>?_) fun qc=>?_
 ·rw [chk3 (by decide) hb (by omega)] at hk
  conv=>whnf
  exact hk
 conv=>whnf
 refine br_ (fun rc=>?_) fun rc=>?_
 ·rw [chk3 (by decide) hb (by omega)] at hk
  conv=>whnf
  exact hk
 conv=>whnf
 refine n_ ?_
 refine loop_step (cw_ ?_)
 refine br_ (fun qs=>?_) fun qs=>?_
 ·rw [chk4 (by decide) hb (by omega) (by omega)] at hk
  conv=>whnf
  exact hk
 conv=>whnf
 refine br_ (fun rs=>?_) fun rs=>?_
 ·rw [chk4 (by decide) hb (by omega) (by omega)] at hk
  conv=>whnf
  exact hk
 conv=>whnf
 refine fits_x 7 (by decide) m m1 m2 ?_
 cases hfit:fitsN 7 m with
 | false =>
  rw [chk4 (by decide) hb (by omega) (.inr (.inr hfit))] at hk
  conv=>whnf
  exact hk
 | true =>
  rw [chk5 (by decide) hb (by omega) (by rw [hfit];simp;omega)] at hk
  conv=>whnf
  exact hk
theorem check8_x (op a b c m s:Int) (aq rl:Bool) (hf:fmtN op=8) (m1 : -9223372036854775808≤m) (m2:m≤9223372036854775807) (hk:K (.int .i64 (checkF 8 a b c m s aq rl)) h):X Tryz.prog 113 #[inV op a b c m s aq rl] h K:=by
 refine fnv (args:=_) mixed rfXAsI0 [] [] Tryz.func113 rfl (by kernel_rfl) (cw_ ?_)
 refine fmt_x op ?_
 rw [hf]
 conv=>whnf
 refine fields_x 8 (by decide) (cw_ ?_)
 by_cases zc:c=0
 rotate_left
 ·rw [chk2 (by decide) (by first | (simp [badF,fieldsL];done) | (simp [badF,fieldsL];omega) | (simp_all [badF,fieldsL];done))] at hk
  refine bt_ ?_ (by simp [zc])
  exact hk
 refine bf_ ?_ (by simp [zc])
 by_cases zs:s=0
 rotate_left
 ·rw [chk2 (by decide) (by first | (simp [badF,fieldsL];done) | (simp [badF,fieldsL];omega) | (simp_all [badF,fieldsL];done))] at hk
  refine bt_ ?_ (by simp [zs])
  exact hk
 refine bf_ ?_ (by simp [zs])
 by_cases zq:(aq || rl)=true
 ·rw [chk2 (by decide) (by simp at zq;simp [badF,fieldsL];simp [zq])] at hk
  cases aq with
  | true =>
   conv=>whnf
   exact hk
  | false =>
   conv=>whnf
   obtain rfl:rl=true:=by simpa using zq
   conv=>whnf
   exact hk
 obtain ⟨rfl,rfl⟩:aq=false∧rl=false:=by simpa using zq
 conv=>whnf
 have hb:¬ badF (fieldsL.getD 8 []) a b c m s false false:=by first | (simp [badF,fieldsL];done) | (simp [badF,fieldsL];omega) | (simp_all [badF,fieldsL];done)
 refine loop_step (cw_ ?_)
 refine br_ (fun qa=>?_) fun qa=>?_
 ·rw [chk3 (by decide) hb (by omega)] at hk
  conv=>whnf
  exact hk
 conv=>whnf
 refine br_ (fun ra=>?_) fun ra=>?_
 ·rw [chk3 (by decide) hb (by omega)] at hk
  conv=>whnf
  exact hk
 conv=>whnf
 refine n_ ?_
 refine loop_step (cw_ ?_)
 refine br_ (fun qb=>?_) fun qb=>?_
 ·rw [chk3 (by decide) hb (by omega)] at hk
  conv=>whnf
  exact hk
 conv=>whnf
 refine br_ (fun rb=>?_) fun rb=>?_
 ·rw [chk3 (by decide) hb (by omega)] at hk
  conv=>whnf
  exact hk
 conv=>whnf
 refine n_ ?_
 refine loop_step (cw_ ?_)
 refine br_ (fun qc=>?_) fun qc=>?_
 ·rw [chk3 (by decide) hb (by omega)] at hk
  conv=>whnf
  exact hk
 conv=>whnf
 refine br_ (fun rc=>?_) fun rc=>?_
 ·rw [chk3 (by decide) hb (by omega)] at hk
  conv=>whnf
  exact hk
 conv=>whnf
 refine n_ ?_
 refine loop_step (cw_ ?_)
 refine br_ (fun qs=>?_) fun qs=>?_
 ·rw [chk4 (by decide) hb (by omega) (by omega)] at hk
  conv=>whnf
  exact hk
 conv=>whnf
 refine br_ (fun rs=>?_) fun rs=>?_
 ·rw [chk4 (by decide) hb (by omega) (by omega)] at hk
  conv=>whnf
  exact hk
 conv=>whnf
 refine fits_x 8 (by decide) m m1 m2 ?_
 cases hfit:fitsN 8 m with
 | false =>
  rw [chk4 (by decide) hb (by omega) (.inr (.inr hfit))] at hk
  conv=>whnf
  exact hk
 | true =>
  rw [chk5 (by decide) hb (by omega) (by rw [hfit];simp;omega)] at hk
  conv=>whnf
  exact hk
theorem check9_x (op a b c m s:Int) (aq rl:Bool) (hf:fmtN op=9) (m1 : -9223372036854775808≤m) (m2:m≤9223372036854775807) (hk:K (.int .i64 (checkF 9 a b c m s aq rl)) h):X Tryz.prog 113 #[inV op a b c m s aq rl] h K:=by
 refine fnv (args:=_) mixed rfXAsI0 [] [] Tryz.func113 rfl (by kernel_rfl) (cw_ ?_)
 refine fmt_x op ?_
 rw [hf]
 conv=>whnf
 refine fields_x 9 (by decide) (cw_ ?_)
 by_cases zc:c=0
 rotate_left
 ·rw [chk2 (by decide) (by first | (simp [badF,fieldsL];done) | (simp [badF,fieldsL];omega) | (simp_all [badF,fieldsL];done))] at hk
  refine bt_ ?_ (by simp [zc])
  exact hk
 refine bf_ ?_ (by simp [zc])
 by_cases zm:m=0
 rotate_left
 ·rw [chk2 (by decide) (by first | (simp [badF,fieldsL];done) | (simp [badF,fieldsL];omega) | (simp_all [badF,fieldsL];done))] at hk
  refine bt_ ?_ (by simp [zm])
  exact hk
 refine bf_ ?_ (by simp [zm])
 by_cases zq:(aq || rl)=true
 ·rw [chk2 (by decide) (by simp at zq;simp [badF,fieldsL];simp [zq])] at hk
  cases aq with
  | true =>
   conv=>whnf
   exact hk
  | false =>
   conv=>whnf
   obtain rfl:rl=true:=by simpa using zq
   conv=>whnf
   exact hk
 obtain ⟨rfl,rfl⟩:aq=false∧rl=false:=by simpa using zq
 conv=>whnf
 have hb:¬ badF (fieldsL.getD 9 []) a b c m s false false:=by first | (simp [badF,fieldsL];done) | (simp [badF,fieldsL];omega) | (simp_all [badF,fieldsL];done)
 refine loop_step (cw_ ?_)
 refine br_ (fun qa=>?_) fun qa=>?_
 ·rw [chk3 (by decide) hb (by omega)] at hk
  conv=>whnf
  exact hk
 conv=>whnf
 refine br_ (fun ra=>?_) fun ra=>?_
 ·rw [chk3 (by decide) hb (by omega)] at hk
  conv=>whnf
  exact hk
 conv=>whnf
 refine n_ ?_
 refine loop_step (cw_ ?_)
 refine br_ (fun qb=>?_) fun qb=>?_
 ·rw [chk3 (by decide) hb (by omega)] at hk
  conv=>whnf
  exact hk
 conv=>whnf
 refine br_ (fun rb=>?_) fun rb=>?_
 ·rw [chk3 (by decide) hb (by omega)] at hk
  conv=>whnf
  exact hk
 conv=>whnf
 refine n_ ?_
 refine loop_step (cw_ ?_)
 refine br_ (fun qc=>?_) fun qc=>?_
 ·rw [chk3 (by decide) hb (by omega)] at hk
  conv=>whnf
  exact hk
 conv=>whnf
 refine br_ (fun rc=>?_) fun rc=>?_
 ·rw [chk3 (by decide) hb (by omega)] at hk
  conv=>whnf
  exact hk
 conv=>whnf
 refine n_ ?_
 refine loop_step (cw_ ?_)
 refine br_ (fun qs=>?_) fun qs=>?_
 ·rw [chk4 (by decide) hb (by omega) (by omega)] at hk
  conv=>whnf
  exact hk
 conv=>whnf
 refine br_ (fun rs=>?_) fun rs=>?_
 ·rw [chk4 (by decide) hb (by omega) (by omega)] at hk
  conv=>whnf
  exact hk
 conv=>whnf
 refine fits_x 9 (by decide) m m1 m2 ?_
 cases hfit:fitsN 9 m with
 | false =>
  rw [chk4 (by decide) hb (by omega) (.inr (.inr hfit))] at hk
  conv=>whnf
  exact hk
 | true =>
  rw [chk5 (by decide) hb (by omega) (by rw [hfit];simp;omega)] at hk
  conv=>whnf
  exact hk
theorem check10_x (op a b c m s:Int) (aq rl:Bool) (hf:fmtN op=10) (m1 : -9223372036854775808≤m) (m2:m≤9223372036854775807) (hk:K (.int .i64 (checkF 10 a b c m s aq rl)) h):X Tryz.prog 113 #[inV op a b c m s aq rl] h K:=by
 refine fnv (args:=_) mixed rfXAsI0 [] [] Tryz.func113 rfl (by kernel_rfl) (cw_ ?_)
 refine fmt_x op ?_
 rw [hf]
 conv=>whnf
 refine fields_x 10 (by decide) (cw_ ?_)
 by_cases zc:c=0
 rotate_left
 ·rw [chk2 (by decide) (by first | (simp [badF,fieldsL];done) | (simp [badF,fieldsL];omega) | (simp_all [badF,fieldsL];done))] at hk
  refine bt_ ?_ (by simp [zc])
  exact hk
 refine bf_ ?_ (by simp [zc])
 by_cases zm:m=0
 rotate_left
 ·rw [chk2 (by decide) (by first | (simp [badF,fieldsL];done) | (simp [badF,fieldsL];omega) | (simp_all [badF,fieldsL];done))] at hk
  refine bt_ ?_ (by simp [zm])
  exact hk
 refine bf_ ?_ (by simp [zm])
 by_cases zq:(aq || rl)=true
 ·rw [chk2 (by decide) (by simp at zq;simp [badF,fieldsL];simp [zq])] at hk
  cases aq with
  | true =>
   conv=>whnf
   exact hk
  | false =>
   conv=>whnf
   obtain rfl:rl=true:=by simpa using zq
   conv=>whnf
   exact hk
 obtain ⟨rfl,rfl⟩:aq=false∧rl=false:=by simpa using zq
 conv=>whnf
 have hb:¬ badF (fieldsL.getD 10 []) a b c m s false false:=by first | (simp [badF,fieldsL];done) | (simp [badF,fieldsL];omega) | (simp_all [badF,fieldsL];done)
 refine loop_step (cw_ ?_)
 refine br_ (fun qa=>?_) fun qa=>?_
 ·rw [chk3 (by decide) hb (by omega)] at hk
  conv=>whnf
  exact hk
 conv=>whnf
 refine br_ (fun ra=>?_) fun ra=>?_
 ·rw [chk3 (by decide) hb (by omega)] at hk
  conv=>whnf
  exact hk
 conv=>whnf
 refine n_ ?_
 refine loop_step (cw_ ?_)
 refine br_ (fun qb=>?_) fun qb=>?_
 ·rw [chk3 (by decide) hb (by omega)] at hk
  conv=>whnf
  exact hk
 conv=>whnf
 refine br_ (fun rb=>?_) fun rb=>?_
 ·rw [chk3 (by decide) hb (by omega)] at hk
  conv=>whnf
  exact hk
 conv=>whnf
 refine n_ ?_
 refine loop_step (cw_ ?_)
 refine br_ (fun qc=>?_) fun qc=>?_
 ·rw [chk3 (by decide) hb (by omega)] at hk
  conv=>whnf
  exact hk
 conv=>whnf
 refine br_ (fun rc=>?_) fun rc=>?_
 ·rw [chk3 (by decide) hb (by omega)] at hk
  conv=>whnf
  exact hk
 conv=>whnf
 refine n_ ?_
 refine loop_step (cw_ ?_)
 refine br_ (fun qs=>?_) fun qs=>?_
 ·rw [chk4 (by decide) hb (by omega) (by omega)] at hk
  conv=>whnf
  exact hk
 conv=>whnf
 refine br_ (fun rs=>?_) fun rs=>?_
 ·rw [chk4 (by decide) hb (by omega) (by omega)] at hk
  conv=>whnf
  exact hk
 conv=>whnf
 refine fits_x 10 (by decide) m m1 m2 ?_
 cases hfit:fitsN 10 m with
 | false =>
  rw [chk4 (by decide) hb (by omega) (.inr (.inr hfit))] at hk
  conv=>whnf
  exact hk
 | true =>
  rw [chk5 (by decide) hb (by omega) (by rw [hfit];simp;omega)] at hk
  conv=>whnf
  exact hk
theorem check11_x (op a b c m s:Int) (aq rl:Bool) (hf:fmtN op=11) (m1 : -9223372036854775808≤m) (m2:m≤9223372036854775807) (hk:K (.int .i64 (checkF 11 a b c m s aq rl)) h):X Tryz.prog 113 #[inV op a b c m s aq rl] h K:=by
 refine fnv (args:=_) mixed rfXAsI0 [] [] Tryz.func113 rfl (by kernel_rfl) (cw_ ?_)
 refine fmt_x op ?_
 rw [hf]
 conv=>whnf
 refine fields_x 11 (by decide) (cw_ ?_)
 by_cases zm:m=0
 rotate_left
 ·rw [chk2 (by decide) (by first | (simp [badF,fieldsL];done) | (simp [badF,fieldsL];omega) | (simp_all [badF,fieldsL];done))] at hk
  refine bt_ ?_ (by simp [zm])
  exact hk
 refine bf_ ?_ (by simp [zm])
 by_cases zs:s=0
 rotate_left
 ·rw [chk2 (by decide) (by first | (simp [badF,fieldsL];done) | (simp [badF,fieldsL];omega) | (simp_all [badF,fieldsL];done))] at hk
  refine bt_ ?_ (by simp [zs])
  exact hk
 refine bf_ ?_ (by simp [zs])
 have hb:¬ badF (fieldsL.getD 11 []) a b c m s aq rl:=by first | (simp [badF,fieldsL];done) | (simp [badF,fieldsL];omega) | (simp_all [badF,fieldsL];done)
 refine loop_step (cw_ ?_)
 refine br_ (fun qa=>?_) fun qa=>?_
 ·rw [chk3 (by decide) hb (by omega)] at hk
  conv=>whnf
  exact hk
 conv=>whnf
 refine br_ (fun ra=>?_) fun ra=>?_
 ·rw [chk3 (by decide) hb (by omega)] at hk
  conv=>whnf
  exact hk
 conv=>whnf
 refine n_ ?_
 refine loop_step (cw_ ?_)
 refine br_ (fun qb=>?_) fun qb=>?_
 ·rw [chk3 (by decide) hb (by omega)] at hk
  conv=>whnf
  exact hk
 conv=>whnf
 refine br_ (fun rb=>?_) fun rb=>?_
 ·rw [chk3 (by decide) hb (by omega)] at hk
  conv=>whnf
  exact hk
 conv=>whnf
 refine n_ ?_
 refine loop_step (cw_ ?_)
 refine br_ (fun qc=>?_) fun qc=>?_
 ·rw [chk3 (by decide) hb (by omega)] at hk
  conv=>whnf
  exact hk
 conv=>whnf
 refine br_ (fun rc=>?_) fun rc=>?_
 ·rw [chk3 (by decide) hb (by omega)] at hk
  conv=>whnf
  exact hk
 conv=>whnf
 refine n_ ?_
 refine loop_step (cw_ ?_)
 refine br_ (fun qs=>?_) fun qs=>?_
 ·rw [chk4 (by decide) hb (by omega) (by omega)] at hk
  conv=>whnf
  exact hk
 conv=>whnf
 refine br_ (fun rs=>?_) fun rs=>?_
 ·rw [chk4 (by decide) hb (by omega) (by omega)] at hk
  conv=>whnf
  exact hk
 conv=>whnf
 refine fits_x 11 (by decide) m m1 m2 ?_
 cases hfit:fitsN 11 m with
 | false =>
  rw [chk4 (by decide) hb (by omega) (.inr (.inr hfit))] at hk
  conv=>whnf
  exact hk
 | true =>
  rw [chk5 (by decide) hb (by omega) (by rw [hfit];simp;omega)] at hk
  conv=>whnf
  exact hk
theorem check12_x (op a b c m s:Int) (aq rl:Bool) (hf:fmtN op=12) (m1 : -9223372036854775808≤m) (m2:m≤9223372036854775807) (hk:K (.int .i64 (checkF 12 a b c m s aq rl)) h):X Tryz.prog 113 #[inV op a b c m s aq rl] h K:=by
 refine fnv (args:=_) mixed rfXAsI0 [] [] Tryz.func113 rfl (by kernel_rfl) (cw_ ?_)
 refine fmt_x op ?_
 rw [hf]
 conv=>whnf
 refine fields_x 12 (by decide) (cw_ ?_)
 by_cases zc:c=0
 rotate_left
 ·rw [chk2 (by decide) (by first | (simp [badF,fieldsL];done) | (simp [badF,fieldsL];omega) | (simp_all [badF,fieldsL];done))] at hk
  refine bt_ ?_ (by simp [zc])
  exact hk
 refine bf_ ?_ (by simp [zc])
 by_cases zm:m=0
 rotate_left
 ·rw [chk2 (by decide) (by first | (simp [badF,fieldsL];done) | (simp [badF,fieldsL];omega) | (simp_all [badF,fieldsL];done))] at hk
  refine bt_ ?_ (by simp [zm])
  exact hk
 refine bf_ ?_ (by simp [zm])
 by_cases zs:s=0
 rotate_left
 ·rw [chk2 (by decide) (by first | (simp [badF,fieldsL];done) | (simp [badF,fieldsL];omega) | (simp_all [badF,fieldsL];done))] at hk
  refine bt_ ?_ (by simp [zs])
  exact hk
 refine bf_ ?_ (by simp [zs])
 have hb:¬ badF (fieldsL.getD 12 []) a b c m s aq rl:=by first | (simp [badF,fieldsL];done) | (simp [badF,fieldsL];omega) | (simp_all [badF,fieldsL];done)
 refine loop_step (cw_ ?_)
 refine br_ (fun qa=>?_) fun qa=>?_
 ·rw [chk3 (by decide) hb (by omega)] at hk
  conv=>whnf
  exact hk
 conv=>whnf
 refine br_ (fun ra=>?_) fun ra=>?_
 ·rw [chk3 (by decide) hb (by omega)] at hk
  conv=>whnf
  exact hk
 conv=>whnf
 refine n_ ?_
 refine loop_step (cw_ ?_)
 refine br_ (fun qb=>?_) fun qb=>?_
 ·rw [chk3 (by decide) hb (by omega)] at hk
  conv=>whnf
  exact hk
 conv=>whnf
 refine br_ (fun rb=>?_) fun rb=>?_
 ·rw [chk3 (by decide) hb (by omega)] at hk
  conv=>whnf
  exact hk
 conv=>whnf
 refine n_ ?_
 refine loop_step (cw_ ?_)
 refine br_ (fun qc=>?_) fun qc=>?_
 ·rw [chk3 (by decide) hb (by omega)] at hk
  conv=>whnf
  exact hk
 conv=>whnf
 refine br_ (fun rc=>?_) fun rc=>?_
 ·rw [chk3 (by decide) hb (by omega)] at hk
  conv=>whnf
  exact hk
 conv=>whnf
 refine n_ ?_
 refine loop_step (cw_ ?_)
 refine br_ (fun qs=>?_) fun qs=>?_
 ·rw [chk4 (by decide) hb (by omega) (by omega)] at hk
  conv=>whnf
  exact hk
 conv=>whnf
 refine br_ (fun rs=>?_) fun rs=>?_
 ·rw [chk4 (by decide) hb (by omega) (by omega)] at hk
  conv=>whnf
  exact hk
 conv=>whnf
 refine fits_x 12 (by decide) m m1 m2 ?_
 cases hfit:fitsN 12 m with
 | false =>
  rw [chk4 (by decide) hb (by omega) (.inr (.inr hfit))] at hk
  conv=>whnf
  exact hk
 | true =>
  rw [chk5 (by decide) hb (by omega) (by rw [hfit];simp;omega)] at hk
  conv=>whnf
  exact hk
theorem check13_x (op a b c m s:Int) (aq rl:Bool) (hf:fmtN op=13) (m1 : -9223372036854775808≤m) (m2:m≤9223372036854775807) (hk:K (.int .i64 (checkF 13 a b c m s aq rl)) h):X Tryz.prog 113 #[inV op a b c m s aq rl] h K:=by
 refine fnv (args:=_) mixed rfXAsI0 [] [] Tryz.func113 rfl (by kernel_rfl) (cw_ ?_)
 refine fmt_x op ?_
 rw [hf]
 conv=>whnf
 refine fields_x 13 (by decide) (cw_ ?_)
 by_cases za:a=0
 rotate_left
 ·rw [chk2 (by decide) (by first | (simp [badF,fieldsL];done) | (simp [badF,fieldsL];omega) | (simp_all [badF,fieldsL];done))] at hk
  refine bt_ ?_ (by simp [za])
  exact hk
 refine bf_ ?_ (by simp [za])
 by_cases zb:b=0
 rotate_left
 ·rw [chk2 (by decide) (by first | (simp [badF,fieldsL];done) | (simp [badF,fieldsL];omega) | (simp_all [badF,fieldsL];done))] at hk
  refine bt_ ?_ (by simp [zb])
  exact hk
 refine bf_ ?_ (by simp [zb])
 by_cases zc:c=0
 rotate_left
 ·rw [chk2 (by decide) (by first | (simp [badF,fieldsL];done) | (simp [badF,fieldsL];omega) | (simp_all [badF,fieldsL];done))] at hk
  refine bt_ ?_ (by simp [zc])
  exact hk
 refine bf_ ?_ (by simp [zc])
 by_cases zm:m=0
 rotate_left
 ·rw [chk2 (by decide) (by first | (simp [badF,fieldsL];done) | (simp [badF,fieldsL];omega) | (simp_all [badF,fieldsL];done))] at hk
  refine bt_ ?_ (by simp [zm])
  exact hk
 refine bf_ ?_ (by simp [zm])
 by_cases zs:s=0
 rotate_left
 ·rw [chk2 (by decide) (by first | (simp [badF,fieldsL];done) | (simp [badF,fieldsL];omega) | (simp_all [badF,fieldsL];done))] at hk
  refine bt_ ?_ (by simp [zs])
  exact hk
 refine bf_ ?_ (by simp [zs])
 by_cases zq:(aq || rl)=true
 ·rw [chk2 (by decide) (by simp at zq;simp [badF,fieldsL];simp [zq])] at hk
  cases aq with
  | true =>
   conv=>whnf
   exact hk
  | false =>
   conv=>whnf
   obtain rfl:rl=true:=by simpa using zq
   conv=>whnf
   exact hk
 obtain ⟨rfl,rfl⟩:aq=false∧rl=false:=by simpa using zq
 conv=>whnf
 have hb:¬ badF (fieldsL.getD 13 []) a b c m s false false:=by first | (simp [badF,fieldsL];done) | (simp [badF,fieldsL];omega) | (simp_all [badF,fieldsL];done)
 refine loop_step (cw_ ?_)
 refine br_ (fun qa=>?_) fun qa=>?_
 ·rw [chk3 (by decide) hb (by omega)] at hk
  conv=>whnf
  exact hk
 conv=>whnf
 refine br_ (fun ra=>?_) fun ra=>?_
 ·rw [chk3 (by decide) hb (by omega)] at hk
  conv=>whnf
  exact hk
 conv=>whnf
 refine n_ ?_
 refine loop_step (cw_ ?_)
 refine br_ (fun qb=>?_) fun qb=>?_
 ·rw [chk3 (by decide) hb (by omega)] at hk
  conv=>whnf
  exact hk
 conv=>whnf
 refine br_ (fun rb=>?_) fun rb=>?_
 ·rw [chk3 (by decide) hb (by omega)] at hk
  conv=>whnf
  exact hk
 conv=>whnf
 refine n_ ?_
 refine loop_step (cw_ ?_)
 refine br_ (fun qc=>?_) fun qc=>?_
 ·rw [chk3 (by decide) hb (by omega)] at hk
  conv=>whnf
  exact hk
 conv=>whnf
 refine br_ (fun rc=>?_) fun rc=>?_
 ·rw [chk3 (by decide) hb (by omega)] at hk
  conv=>whnf
  exact hk
 conv=>whnf
 refine n_ ?_
 refine loop_step (cw_ ?_)
 refine br_ (fun qs=>?_) fun qs=>?_
 ·rw [chk4 (by decide) hb (by omega) (by omega)] at hk
  conv=>whnf
  exact hk
 conv=>whnf
 refine br_ (fun rs=>?_) fun rs=>?_
 ·rw [chk4 (by decide) hb (by omega) (by omega)] at hk
  conv=>whnf
  exact hk
 conv=>whnf
 refine fits_x 13 (by decide) m m1 m2 ?_
 cases hfit:fitsN 13 m with
 | false =>
  rw [chk4 (by decide) hb (by omega) (.inr (.inr hfit))] at hk
  conv=>whnf
  exact hk
 | true =>
  rw [chk5 (by decide) hb (by omega) (by rw [hfit];simp;omega)] at hk
  conv=>whnf
  exact hk
theorem check14_x (op a b c m s:Int) (aq rl:Bool) (hf:fmtN op=14) (m1 : -9223372036854775808≤m) (m2:m≤9223372036854775807) (hk:K (.int .i64 (checkF 14 a b c m s aq rl)) h):X Tryz.prog 113 #[inV op a b c m s aq rl] h K:=by
 refine fnv (args:=_) mixed rfXAsI0 [] [] Tryz.func113 rfl (by kernel_rfl) (cw_ ?_)
 refine fmt_x op ?_
 rw [hf]
 conv=>whnf
 refine fields_x 14 (by decide) (cw_ ?_)
 by_cases za:a=0
 rotate_left
 ·rw [chk2 (by decide) (by first | (simp [badF,fieldsL];done) | (simp [badF,fieldsL];omega) | (simp_all [badF,fieldsL];done))] at hk
  refine bt_ ?_ (by simp [za])
  exact hk
 refine bf_ ?_ (by simp [za])
 by_cases zm:m=0
 rotate_left
 ·rw [chk2 (by decide) (by first | (simp [badF,fieldsL];done) | (simp [badF,fieldsL];omega) | (simp_all [badF,fieldsL];done))] at hk
  refine bt_ ?_ (by simp [zm])
  exact hk
 refine bf_ ?_ (by simp [zm])
 by_cases zs:s=0
 rotate_left
 ·rw [chk2 (by decide) (by first | (simp [badF,fieldsL];done) | (simp [badF,fieldsL];omega) | (simp_all [badF,fieldsL];done))] at hk
  refine bt_ ?_ (by simp [zs])
  exact hk
 refine bf_ ?_ (by simp [zs])
 by_cases zq:(aq || rl)=true
 ·rw [chk2 (by decide) (by simp at zq;simp [badF,fieldsL];simp [zq])] at hk
  cases aq with
  | true =>
   conv=>whnf
   exact hk
  | false =>
   conv=>whnf
   obtain rfl:rl=true:=by simpa using zq
   conv=>whnf
   exact hk
 obtain ⟨rfl,rfl⟩:aq=false∧rl=false:=by simpa using zq
 conv=>whnf
 have hb:¬ badF (fieldsL.getD 14 []) a b c m s false false:=by first | (simp [badF,fieldsL];done) | (simp [badF,fieldsL];omega) | (simp_all [badF,fieldsL];done)
 refine loop_step (cw_ ?_)
 refine br_ (fun qa=>?_) fun qa=>?_
 ·rw [chk3 (by decide) hb (by omega)] at hk
  conv=>whnf
  exact hk
 conv=>whnf
 refine br_ (fun ra=>?_) fun ra=>?_
 ·rw [chk3 (by decide) hb (by omega)] at hk
  conv=>whnf
  exact hk
 conv=>whnf
 refine n_ ?_
 refine loop_step (cw_ ?_)
 refine br_ (fun qb=>?_) fun qb=>?_
 ·rw [chk3 (by decide) hb (by omega)] at hk
  conv=>whnf
  exact hk
 conv=>whnf
 refine br_ (fun rb=>?_) fun rb=>?_
 ·rw [chk3 (by decide) hb (by omega)] at hk
  conv=>whnf
  exact hk
 conv=>whnf
 refine n_ ?_
 refine loop_step (cw_ ?_)
 refine br_ (fun qc=>?_) fun qc=>?_
 ·rw [chk3 (by decide) hb (by omega)] at hk
  conv=>whnf
  exact hk
 conv=>whnf
 refine br_ (fun rc=>?_) fun rc=>?_
 ·rw [chk3 (by decide) hb (by omega)] at hk
  conv=>whnf
  exact hk
 conv=>whnf
 refine n_ ?_
 refine loop_step (cw_ ?_)
 refine br_ (fun qs=>?_) fun qs=>?_
 ·rw [chk4 (by decide) hb (by omega) (by omega)] at hk
  conv=>whnf
  exact hk
 conv=>whnf
 refine br_ (fun rs=>?_) fun rs=>?_
 ·rw [chk4 (by decide) hb (by omega) (by omega)] at hk
  conv=>whnf
  exact hk
 conv=>whnf
 refine fits_x 14 (by decide) m m1 m2 ?_
 cases hfit:fitsN 14 m with
 | false =>
  rw [chk4 (by decide) hb (by omega) (.inr (.inr hfit))] at hk
  conv=>whnf
  exact hk
 | true =>
  rw [chk5 (by decide) hb (by omega) (by rw [hfit];simp;omega)] at hk
  conv=>whnf
  exact hk
theorem check0_x (op a b c m s:Int) (aq rl:Bool) (hf:fmtN op=0) (hk:K (.int .i64 (checkF 0 a b c m s aq rl)) h):X Tryz.prog 113 #[inV op a b c m s aq rl] h K:=by
 refine fnv (args:=_) mixed rfXAsI0 [] [] Tryz.func113 rfl (by kernel_rfl) (cw_ ?_)
 refine fmt_x op ?_
 rw [hf]
 conv=>whnf
 exact hk
theorem check_x (op a b c m s:Int) (aq rl:Bool) (m1 : -9223372036854775808≤m) (m2:m≤9223372036854775807) (hk:K (.int .i64 (checkF (fmtN op) a b c m s aq rl)) h):X Tryz.prog 113 #[inV op a b c m s aq rl] h K:=by
 have hl:=fmtN_lt op
 generalize hf:fmtN op=f at hl hk
 match f,hf,hl,hk with
 | 0,hf,_,hk=>exact check0_x op a b c m s aq rl hf hk
 | 1,hf,_,hk=>exact check1_x op a b c m s aq rl hf m1 m2 hk
 | 2,hf,_,hk=>exact check2_x op a b c m s aq rl hf m1 m2 hk
 | 3,hf,_,hk=>exact check3_x op a b c m s aq rl hf m1 m2 hk
 | 4,hf,_,hk=>exact check4_x op a b c m s aq rl hf m1 m2 hk
 | 5,hf,_,hk=>exact check5_x op a b c m s aq rl hf m1 m2 hk
 | 6,hf,_,hk=>exact check6_x op a b c m s aq rl hf m1 m2 hk
 | 7,hf,_,hk=>exact check7_x op a b c m s aq rl hf m1 m2 hk
 | 8,hf,_,hk=>exact check8_x op a b c m s aq rl hf m1 m2 hk
 | 9,hf,_,hk=>exact check9_x op a b c m s aq rl hf m1 m2 hk
 | 10,hf,_,hk=>exact check10_x op a b c m s aq rl hf m1 m2 hk
 | 11,hf,_,hk=>exact check11_x op a b c m s aq rl hf m1 m2 hk
 | 12,hf,_,hk=>exact check12_x op a b c m s aq rl hf m1 m2 hk
 | 13,hf,_,hk=>exact check13_x op a b c m s aq rl hf m1 m2 hk
 | 14,hf,_,hk=>exact check14_x op a b c m s aq rl hf m1 m2 hk
 | f+15,_,hl,_=>exact absurd hl (by omega)
end
end Go.Proofs.YtdhkjcdneidgaaaGreatDoor
