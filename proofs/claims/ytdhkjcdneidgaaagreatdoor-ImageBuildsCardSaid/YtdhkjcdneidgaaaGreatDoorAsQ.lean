/-
  Instructions as words: why an instruction has no word, the document's (printed by a program).
-/
import Derived.Test.YtdhkjcdneidgaaaGreatDoorAsO
import Derived.Test.YtdhkjcdneidgaaaGreatDoorAsI
set_option linter.unusedSimpArgs false
set_option linter.unusedVariables false
set_option maxHeartbeats 8000000
set_option maxRecDepth 10000
set_option linter.unusedSimpArgs false
set_option linter.unusedVariables false
namespace Go.Proofs.YtdhkjcdneidgaaaGreatDoor
open Go Go.Mid Go.RowKit Go.Bits
abbrev rfXAsQ0:Go.Mid.RF:=[(1,1),(5,1),(16,1),(25,1),(35,1),(45,1),(55,1),(65,1),(68,1),(73,1),(77,1),(82,1),(87,1),(92,1),(97,1),(102,1),(107,1),(113,1),(117,1),(3,3),(8,3)]
attribute [local irreducible] mid
theorem row_fmt (n:Int):(rowN n).fmt=fmtS.getD (fmtN n) []:=by
 have h1:∀ i:Nat,i<98→(rowsL.getD i rw0).fmt=fmtS.getD (fmtN ((i+1:Nat):Int)) []:=by decide
 by_cases hn:1≤n∧n≤98
 ·have:=h1 (n.toNat - 1) (by omega)
  unfold rowN
  rw [if_pos hn,this]
  congr 2
  omega
 ·unfold rowN
  rw [if_neg hn]
  unfold fmtN
  split
  ·rename_i h2
   obtain rfl:n=0:=by omega
   decide
  ·decide
section
variable {h:Hp} {K:Value→Hp→Prop}
theorem rfind4_x (n:Int) (f:Nat) (hf:fmtN n=f) (hk:∀ o m i h',h.le h'→K (.agg #[.int .i64 o,.string (bs (fmtS.getD f [])),.int .u64 m,.int .u64 i]) h'):X Tryz.prog 86 #[.int .i64 n] h K:=by
 refine rfind3_x n fun h' hle=>?_
 have hr:=row_fmt n
 rw [hf] at hr
 have e:(rowN n).cs=[.int .i64 (rowN n).op,.string (bs (fmtS.getD f [])),.int .u64 (rowN n).mask,.int .u64 (rowN n).is]:=by
  unfold Rw.cs;rw [hr]
 rw [e]
 exact hk _ _ _ h' hle
theorem rcheck1_x (op a b c m s:Int) (aq rl:Bool) (hf:fmtN op=1) (m1 : -9223372036854775808≤m) (m2:m≤9223372036854775807) (hk:K (.int .i64 (checkF 1 a b c m s aq rl)) h):X Tryz.prog 87 #[inV op a b c m s aq rl] h K:=by
 refine X.forget ?_
 refine fnv (args:=_) mixed rfXAsQ0 [] [] Tryz.func87 rfl (by kernel_rfl) (cw_ ?_)
 refine rfind4_x op 1 hf fun o' mk is h1 le1=>(cw_ ?_)
 refine seq_false ((by decide)) (cw_ ?_)
 refine has_x 1 (by decide) 0 (by decide) (cw_ ?_)
 refine has_x 1 (by decide) 1 (by decide) (cw_ ?_)
 refine has_x 1 (by decide) 2 (by decide) (cw_ ?_)
 refine has_x 1 (by decide) 3 (by decide) (cw_ ?_)
 by_cases zm:m=0
 rotate_left
 ·rw [chk2 (by decide) (by first | (simp [badF,fieldsL];done) | (simp [badF,fieldsL];omega) | (simp_all [badF,fieldsL];done))] at hk
  refine bt_ ?_ (by simp [zm])
  exact ⟨h,le1,hk⟩
 refine bf_ ?_ (by simp [zm])
 refine has_x 1 (by decide) 4 (by decide) (cw_ ?_)
 by_cases zs:s=0
 rotate_left
 ·rw [chk2 (by decide) (by first | (simp [badF,fieldsL];done) | (simp [badF,fieldsL];omega) | (simp_all [badF,fieldsL];done))] at hk
  refine bt_ ?_ (by simp [zs])
  exact ⟨h,le1,hk⟩
 refine bf_ ?_ (by simp [zs])
 refine has_x 1 (by decide) 5 (by decide) (cw_ ?_)
 by_cases zq:(aq || rl)=true
 ·rw [chk2 (by decide) (by simp at zq;simp [badF,fieldsL];simp [zq])] at hk
  cases aq with
  | true =>
   conv=>whnf
   exact ⟨h,le1,hk⟩
  | false =>
   obtain rfl:rl=true:=by simpa using zq
   conv=>whnf
   exact ⟨h,le1,hk⟩
 obtain ⟨rfl,rfl⟩:aq=false∧rl=false:=by simpa using zq
 conv=>whnf
 have hb:¬ badF (fieldsL.getD 1 []) a b c m s false false:=by first | (simp [badF,fieldsL];done) | (simp [badF,fieldsL];omega) | (simp_all [badF,fieldsL];done)
 have hi:i64N (immN 1 (layN 1 (u64N m)))=m↔fitsN 1 m=true:=by rw [zm];decide
 refine br_ (fun qa=>?_) fun qa=>?_
 ·rw [chk3 (by decide) hb (by omega)] at hk
  conv=>whnf
  exact ⟨h,le1,hk⟩
 conv=>whnf
 refine br_ (fun ra=>?_) fun ra=>?_
 ·rw [chk3 (by decide) hb (by omega)] at hk
  conv=>whnf
  exact ⟨h,le1,hk⟩
 conv=>whnf
 refine br_ (fun qb=>?_) fun qb=>?_
 ·rw [chk3 (by decide) hb (by omega)] at hk
  conv=>whnf
  exact ⟨h,le1,hk⟩
 conv=>whnf
 refine br_ (fun rb=>?_) fun rb=>?_
 ·rw [chk3 (by decide) hb (by omega)] at hk
  conv=>whnf
  exact ⟨h,le1,hk⟩
 conv=>whnf
 refine br_ (fun qc=>?_) fun qc=>?_
 ·rw [chk3 (by decide) hb (by omega)] at hk
  conv=>whnf
  exact ⟨h,le1,hk⟩
 conv=>whnf
 refine br_ (fun rc=>?_) fun rc=>?_
 ·rw [chk3 (by decide) hb (by omega)] at hk
  conv=>whnf
  exact ⟨h,le1,hk⟩
 conv=>whnf
 refine br_ (fun qs=>?_) fun qs=>?_
 ·rw [chk4 (by decide) hb (by omega) (by omega)] at hk
  conv=>whnf
  exact ⟨h,le1,hk⟩
 conv=>whnf
 refine br_ (fun rs=>?_) fun rs=>?_
 ·rw [chk4 (by decide) hb (by omega) (by omega)] at hk
  conv=>whnf
  exact ⟨h,le1,hk⟩
 conv=>whnf
 refine rlay_x 1 (by decide) m ?_
 refine ⟨trivial,cw_ ?_⟩
 refine rimm_x 1 (by decide) _ (layFrom_lt _ _ _ _ (by decide)) ?_
 refine ⟨trivial,cw_ ?_⟩
 by_cases hfit:fitsN 1 m=true
 ·rw [chk5 (by decide) hb (by omega) (by rw [hfit];simp;omega)] at hk
  refine bf_ ?_ (by simp [hi.2 hfit])
  exact ⟨h,le1,hk⟩
 ·rw [chk4 (by decide) hb (by omega) (.inr (.inr (by simpa using hfit)))] at hk
  refine bt_ ?_ (by simpa using fun e=>hfit (hi.1 e))
  exact ⟨h,le1,hk⟩
theorem rcheck2_x (op a b c m s:Int) (aq rl:Bool) (hf:fmtN op=2) (m1 : -9223372036854775808≤m) (m2:m≤9223372036854775807) (hk:K (.int .i64 (checkF 2 a b c m s aq rl)) h):X Tryz.prog 87 #[inV op a b c m s aq rl] h K:=by
 refine X.forget ?_
 refine fnv (args:=_) mixed rfXAsQ0 [] [] Tryz.func87 rfl (by kernel_rfl) (cw_ ?_)
 refine rfind4_x op 2 hf fun o' mk is h1 le1=>(cw_ ?_)
 refine seq_false ((by decide)) (cw_ ?_)
 refine has_x 2 (by decide) 0 (by decide) (cw_ ?_)
 refine has_x 2 (by decide) 1 (by decide) (cw_ ?_)
 refine has_x 2 (by decide) 2 (by decide) (cw_ ?_)
 by_cases zc:c=0
 rotate_left
 ·rw [chk2 (by decide) (by first | (simp [badF,fieldsL];done) | (simp [badF,fieldsL];omega) | (simp_all [badF,fieldsL];done))] at hk
  refine bt_ ?_ (by simp [zc])
  exact ⟨h,le1,hk⟩
 refine bf_ ?_ (by simp [zc])
 refine has_x 2 (by decide) 3 (by decide) (cw_ ?_)
 refine has_x 2 (by decide) 4 (by decide) (cw_ ?_)
 by_cases zs:s=0
 rotate_left
 ·rw [chk2 (by decide) (by first | (simp [badF,fieldsL];done) | (simp [badF,fieldsL];omega) | (simp_all [badF,fieldsL];done))] at hk
  refine bt_ ?_ (by simp [zs])
  exact ⟨h,le1,hk⟩
 refine bf_ ?_ (by simp [zs])
 refine has_x 2 (by decide) 5 (by decide) (cw_ ?_)
 by_cases zq:(aq || rl)=true
 ·rw [chk2 (by decide) (by simp at zq;simp [badF,fieldsL];simp [zq])] at hk
  cases aq with
  | true =>
   conv=>whnf
   exact ⟨h,le1,hk⟩
  | false =>
   obtain rfl:rl=true:=by simpa using zq
   conv=>whnf
   exact ⟨h,le1,hk⟩
 obtain ⟨rfl,rfl⟩:aq=false∧rl=false:=by simpa using zq
 conv=>whnf
 have hb:¬ badF (fieldsL.getD 2 []) a b c m s false false:=by first | (simp [badF,fieldsL];done) | (simp [badF,fieldsL];omega) | (simp_all [badF,fieldsL];done)
 have hi:i64N (immN 2 (layN 2 (u64N m)))=m↔fitsN 2 m=true:=by rw [fits_eq];exact imm_lay2 m m1 m2
 refine br_ (fun qa=>?_) fun qa=>?_
 ·rw [chk3 (by decide) hb (by omega)] at hk
  conv=>whnf
  exact ⟨h,le1,hk⟩
 conv=>whnf
 refine br_ (fun ra=>?_) fun ra=>?_
 ·rw [chk3 (by decide) hb (by omega)] at hk
  conv=>whnf
  exact ⟨h,le1,hk⟩
 conv=>whnf
 refine br_ (fun qb=>?_) fun qb=>?_
 ·rw [chk3 (by decide) hb (by omega)] at hk
  conv=>whnf
  exact ⟨h,le1,hk⟩
 conv=>whnf
 refine br_ (fun rb=>?_) fun rb=>?_
 ·rw [chk3 (by decide) hb (by omega)] at hk
  conv=>whnf
  exact ⟨h,le1,hk⟩
 conv=>whnf
 refine br_ (fun qc=>?_) fun qc=>?_
 ·rw [chk3 (by decide) hb (by omega)] at hk
  conv=>whnf
  exact ⟨h,le1,hk⟩
 conv=>whnf
 refine br_ (fun rc=>?_) fun rc=>?_
 ·rw [chk3 (by decide) hb (by omega)] at hk
  conv=>whnf
  exact ⟨h,le1,hk⟩
 conv=>whnf
 refine br_ (fun qs=>?_) fun qs=>?_
 ·rw [chk4 (by decide) hb (by omega) (by omega)] at hk
  conv=>whnf
  exact ⟨h,le1,hk⟩
 conv=>whnf
 refine br_ (fun rs=>?_) fun rs=>?_
 ·rw [chk4 (by decide) hb (by omega) (by omega)] at hk
  conv=>whnf
  exact ⟨h,le1,hk⟩
 conv=>whnf
 refine rlay_x 2 (by decide) m ?_
 refine ⟨trivial,cw_ ?_⟩
 refine rimm_x 2 (by decide) _ (layFrom_lt _ _ _ _ (by decide)) ?_
 refine ⟨trivial,cw_ ?_⟩
 by_cases hfit:fitsN 2 m=true
 ·rw [chk5 (by decide) hb (by omega) (by rw [hfit];simp;omega)] at hk
  refine bf_ ?_ (by simp [hi.2 hfit])
  exact ⟨h,le1,hk⟩
 ·rw [chk4 (by decide) hb (by omega) (.inr (.inr (by simpa using hfit)))] at hk
  refine bt_ ?_ (by simpa using fun e=>hfit (hi.1 e))
  exact ⟨h,le1,hk⟩
theorem rcheck3_x (op a b c m s:Int) (aq rl:Bool) (hf:fmtN op=3) (m1 : -9223372036854775808≤m) (m2:m≤9223372036854775807) (hk:K (.int .i64 (checkF 3 a b c m s aq rl)) h):X Tryz.prog 87 #[inV op a b c m s aq rl] h K:=by
 refine X.forget ?_
 refine fnv (args:=_) mixed rfXAsQ0 [] [] Tryz.func87 rfl (by kernel_rfl) (cw_ ?_)
 refine rfind4_x op 3 hf fun o' mk is h1 le1=>(cw_ ?_)
 refine seq_false ((by decide)) (cw_ ?_)
 refine has_x 3 (by decide) 0 (by decide) (cw_ ?_)
 by_cases za:a=0
 rotate_left
 ·rw [chk2 (by decide) (by first | (simp [badF,fieldsL];done) | (simp [badF,fieldsL];omega) | (simp_all [badF,fieldsL];done))] at hk
  refine bt_ ?_ (by simp [za])
  exact ⟨h,le1,hk⟩
 refine bf_ ?_ (by simp [za])
 refine has_x 3 (by decide) 1 (by decide) (cw_ ?_)
 refine has_x 3 (by decide) 2 (by decide) (cw_ ?_)
 refine has_x 3 (by decide) 3 (by decide) (cw_ ?_)
 refine has_x 3 (by decide) 4 (by decide) (cw_ ?_)
 by_cases zs:s=0
 rotate_left
 ·rw [chk2 (by decide) (by first | (simp [badF,fieldsL];done) | (simp [badF,fieldsL];omega) | (simp_all [badF,fieldsL];done))] at hk
  refine bt_ ?_ (by simp [zs])
  exact ⟨h,le1,hk⟩
 refine bf_ ?_ (by simp [zs])
 refine has_x 3 (by decide) 5 (by decide) (cw_ ?_)
 by_cases zq:(aq || rl)=true
 ·rw [chk2 (by decide) (by simp at zq;simp [badF,fieldsL];simp [zq])] at hk
  cases aq with
  | true =>
   conv=>whnf
   exact ⟨h,le1,hk⟩
  | false =>
   obtain rfl:rl=true:=by simpa using zq
   conv=>whnf
   exact ⟨h,le1,hk⟩
 obtain ⟨rfl,rfl⟩:aq=false∧rl=false:=by simpa using zq
 conv=>whnf
 have hb:¬ badF (fieldsL.getD 3 []) a b c m s false false:=by first | (simp [badF,fieldsL];done) | (simp [badF,fieldsL];omega) | (simp_all [badF,fieldsL];done)
 have hi:i64N (immN 3 (layN 3 (u64N m)))=m↔fitsN 3 m=true:=by rw [fits_eq];exact imm_lay3 m m1 m2
 refine br_ (fun qa=>?_) fun qa=>?_
 ·rw [chk3 (by decide) hb (by omega)] at hk
  conv=>whnf
  exact ⟨h,le1,hk⟩
 conv=>whnf
 refine br_ (fun ra=>?_) fun ra=>?_
 ·rw [chk3 (by decide) hb (by omega)] at hk
  conv=>whnf
  exact ⟨h,le1,hk⟩
 conv=>whnf
 refine br_ (fun qb=>?_) fun qb=>?_
 ·rw [chk3 (by decide) hb (by omega)] at hk
  conv=>whnf
  exact ⟨h,le1,hk⟩
 conv=>whnf
 refine br_ (fun rb=>?_) fun rb=>?_
 ·rw [chk3 (by decide) hb (by omega)] at hk
  conv=>whnf
  exact ⟨h,le1,hk⟩
 conv=>whnf
 refine br_ (fun qc=>?_) fun qc=>?_
 ·rw [chk3 (by decide) hb (by omega)] at hk
  conv=>whnf
  exact ⟨h,le1,hk⟩
 conv=>whnf
 refine br_ (fun rc=>?_) fun rc=>?_
 ·rw [chk3 (by decide) hb (by omega)] at hk
  conv=>whnf
  exact ⟨h,le1,hk⟩
 conv=>whnf
 refine br_ (fun qs=>?_) fun qs=>?_
 ·rw [chk4 (by decide) hb (by omega) (by omega)] at hk
  conv=>whnf
  exact ⟨h,le1,hk⟩
 conv=>whnf
 refine br_ (fun rs=>?_) fun rs=>?_
 ·rw [chk4 (by decide) hb (by omega) (by omega)] at hk
  conv=>whnf
  exact ⟨h,le1,hk⟩
 conv=>whnf
 refine rlay_x 3 (by decide) m ?_
 refine ⟨trivial,cw_ ?_⟩
 refine rimm_x 3 (by decide) _ (layFrom_lt _ _ _ _ (by decide)) ?_
 refine ⟨trivial,cw_ ?_⟩
 by_cases hfit:fitsN 3 m=true
 ·rw [chk5 (by decide) hb (by omega) (by rw [hfit];simp;omega)] at hk
  refine bf_ ?_ (by simp [hi.2 hfit])
  exact ⟨h,le1,hk⟩
 ·rw [chk4 (by decide) hb (by omega) (.inr (.inr (by simpa using hfit)))] at hk
  refine bt_ ?_ (by simpa using fun e=>hfit (hi.1 e))
  exact ⟨h,le1,hk⟩
theorem rcheck4_x (op a b c m s:Int) (aq rl:Bool) (hf:fmtN op=4) (m1 : -9223372036854775808≤m) (m2:m≤9223372036854775807) (hk:K (.int .i64 (checkF 4 a b c m s aq rl)) h):X Tryz.prog 87 #[inV op a b c m s aq rl] h K:=by
 refine X.forget ?_
 refine fnv (args:=_) mixed rfXAsQ0 [] [] Tryz.func87 rfl (by kernel_rfl) (cw_ ?_)
 refine rfind4_x op 4 hf fun o' mk is h1 le1=>(cw_ ?_)
 refine seq_false ((by decide)) (cw_ ?_)
 refine has_x 4 (by decide) 0 (by decide) (cw_ ?_)
 by_cases za:a=0
 rotate_left
 ·rw [chk2 (by decide) (by first | (simp [badF,fieldsL];done) | (simp [badF,fieldsL];omega) | (simp_all [badF,fieldsL];done))] at hk
  refine bt_ ?_ (by simp [za])
  exact ⟨h,le1,hk⟩
 refine bf_ ?_ (by simp [za])
 refine has_x 4 (by decide) 1 (by decide) (cw_ ?_)
 refine has_x 4 (by decide) 2 (by decide) (cw_ ?_)
 refine has_x 4 (by decide) 3 (by decide) (cw_ ?_)
 refine has_x 4 (by decide) 4 (by decide) (cw_ ?_)
 by_cases zs:s=0
 rotate_left
 ·rw [chk2 (by decide) (by first | (simp [badF,fieldsL];done) | (simp [badF,fieldsL];omega) | (simp_all [badF,fieldsL];done))] at hk
  refine bt_ ?_ (by simp [zs])
  exact ⟨h,le1,hk⟩
 refine bf_ ?_ (by simp [zs])
 refine has_x 4 (by decide) 5 (by decide) (cw_ ?_)
 by_cases zq:(aq || rl)=true
 ·rw [chk2 (by decide) (by simp at zq;simp [badF,fieldsL];simp [zq])] at hk
  cases aq with
  | true =>
   conv=>whnf
   exact ⟨h,le1,hk⟩
  | false =>
   obtain rfl:rl=true:=by simpa using zq
   conv=>whnf
   exact ⟨h,le1,hk⟩
 obtain ⟨rfl,rfl⟩:aq=false∧rl=false:=by simpa using zq
 conv=>whnf
 have hb:¬ badF (fieldsL.getD 4 []) a b c m s false false:=by first | (simp [badF,fieldsL];done) | (simp [badF,fieldsL];omega) | (simp_all [badF,fieldsL];done)
 have hi:i64N (immN 4 (layN 4 (u64N m)))=m↔fitsN 4 m=true:=by rw [fits_eq];exact imm_lay4 m m1 m2
 refine br_ (fun qa=>?_) fun qa=>?_
 ·rw [chk3 (by decide) hb (by omega)] at hk
  conv=>whnf
  exact ⟨h,le1,hk⟩
 conv=>whnf
 refine br_ (fun ra=>?_) fun ra=>?_
 ·rw [chk3 (by decide) hb (by omega)] at hk
  conv=>whnf
  exact ⟨h,le1,hk⟩
 conv=>whnf
 refine br_ (fun qb=>?_) fun qb=>?_
 ·rw [chk3 (by decide) hb (by omega)] at hk
  conv=>whnf
  exact ⟨h,le1,hk⟩
 conv=>whnf
 refine br_ (fun rb=>?_) fun rb=>?_
 ·rw [chk3 (by decide) hb (by omega)] at hk
  conv=>whnf
  exact ⟨h,le1,hk⟩
 conv=>whnf
 refine br_ (fun qc=>?_) fun qc=>?_
 ·rw [chk3 (by decide) hb (by omega)] at hk
  conv=>whnf
  exact ⟨h,le1,hk⟩
 conv=>whnf
 refine br_ (fun rc=>?_) fun rc=>?_
 ·rw [chk3 (by decide) hb (by omega)] at hk
  conv=>whnf
  exact ⟨h,le1,hk⟩
 conv=>whnf
 refine br_ (fun qs=>?_) fun qs=>?_
 ·rw [chk4 (by decide) hb (by omega) (by omega)] at hk
  conv=>whnf
  exact ⟨h,le1,hk⟩
 conv=>whnf
 refine br_ (fun rs=>?_) fun rs=>?_
 ·rw [chk4 (by decide) hb (by omega) (by omega)] at hk
  conv=>whnf
  exact ⟨h,le1,hk⟩
 conv=>whnf
 refine rlay_x 4 (by decide) m ?_
 refine ⟨trivial,cw_ ?_⟩
 refine rimm_x 4 (by decide) _ (layFrom_lt _ _ _ _ (by decide)) ?_
 refine ⟨trivial,cw_ ?_⟩
 by_cases hfit:fitsN 4 m=true
 ·rw [chk5 (by decide) hb (by omega) (by rw [hfit];simp;omega)] at hk
  refine bf_ ?_ (by simp [hi.2 hfit])
  exact ⟨h,le1,hk⟩
 ·rw [chk4 (by decide) hb (by omega) (.inr (.inr (by simpa using hfit)))] at hk
  refine bt_ ?_ (by simpa using fun e=>hfit (hi.1 e))
  exact ⟨h,le1,hk⟩
theorem rcheck5_x (op a b c m s:Int) (aq rl:Bool) (hf:fmtN op=5) (m1 : -9223372036854775808≤m) (m2:m≤9223372036854775807) (hk:K (.int .i64 (checkF 5 a b c m s aq rl)) h):X Tryz.prog 87 #[inV op a b c m s aq rl] h K:=by
 refine X.forget ?_
 refine fnv (args:=_) mixed rfXAsQ0 [] [] Tryz.func87 rfl (by kernel_rfl) (cw_ ?_)
 refine rfind4_x op 5 hf fun o' mk is h1 le1=>(cw_ ?_)
 refine seq_false ((by decide)) (cw_ ?_)
 refine has_x 5 (by decide) 0 (by decide) (cw_ ?_)
 refine has_x 5 (by decide) 1 (by decide) (cw_ ?_)
 by_cases zb:b=0
 rotate_left
 ·rw [chk2 (by decide) (by first | (simp [badF,fieldsL];done) | (simp [badF,fieldsL];omega) | (simp_all [badF,fieldsL];done))] at hk
  refine bt_ ?_ (by simp [zb])
  exact ⟨h,le1,hk⟩
 refine bf_ ?_ (by simp [zb])
 refine has_x 5 (by decide) 2 (by decide) (cw_ ?_)
 by_cases zc:c=0
 rotate_left
 ·rw [chk2 (by decide) (by first | (simp [badF,fieldsL];done) | (simp [badF,fieldsL];omega) | (simp_all [badF,fieldsL];done))] at hk
  refine bt_ ?_ (by simp [zc])
  exact ⟨h,le1,hk⟩
 refine bf_ ?_ (by simp [zc])
 refine has_x 5 (by decide) 3 (by decide) (cw_ ?_)
 refine has_x 5 (by decide) 4 (by decide) (cw_ ?_)
 by_cases zs:s=0
 rotate_left
 ·rw [chk2 (by decide) (by first | (simp [badF,fieldsL];done) | (simp [badF,fieldsL];omega) | (simp_all [badF,fieldsL];done))] at hk
  refine bt_ ?_ (by simp [zs])
  exact ⟨h,le1,hk⟩
 refine bf_ ?_ (by simp [zs])
 refine has_x 5 (by decide) 5 (by decide) (cw_ ?_)
 by_cases zq:(aq || rl)=true
 ·rw [chk2 (by decide) (by simp at zq;simp [badF,fieldsL];simp [zq])] at hk
  cases aq with
  | true =>
   conv=>whnf
   exact ⟨h,le1,hk⟩
  | false =>
   obtain rfl:rl=true:=by simpa using zq
   conv=>whnf
   exact ⟨h,le1,hk⟩
 obtain ⟨rfl,rfl⟩:aq=false∧rl=false:=by simpa using zq
 conv=>whnf
 have hb:¬ badF (fieldsL.getD 5 []) a b c m s false false:=by first | (simp [badF,fieldsL];done) | (simp [badF,fieldsL];omega) | (simp_all [badF,fieldsL];done)
 have hi:i64N (immN 5 (layN 5 (u64N m)))=m↔fitsN 5 m=true:=by rw [fits_eq];exact imm_lay5 m m1 m2
 refine br_ (fun qa=>?_) fun qa=>?_
 ·rw [chk3 (by decide) hb (by omega)] at hk
  conv=>whnf
  exact ⟨h,le1,hk⟩
 conv=>whnf
 refine br_ (fun ra=>?_) fun ra=>?_
 ·rw [chk3 (by decide) hb (by omega)] at hk
  conv=>whnf
  exact ⟨h,le1,hk⟩
 conv=>whnf
 refine br_ (fun qb=>?_) fun qb=>?_
 ·rw [chk3 (by decide) hb (by omega)] at hk
  conv=>whnf
  exact ⟨h,le1,hk⟩
 conv=>whnf
 refine br_ (fun rb=>?_) fun rb=>?_
 ·rw [chk3 (by decide) hb (by omega)] at hk
  conv=>whnf
  exact ⟨h,le1,hk⟩
 conv=>whnf
 refine br_ (fun qc=>?_) fun qc=>?_
 ·rw [chk3 (by decide) hb (by omega)] at hk
  conv=>whnf
  exact ⟨h,le1,hk⟩
 conv=>whnf
 refine br_ (fun rc=>?_) fun rc=>?_
 ·rw [chk3 (by decide) hb (by omega)] at hk
  conv=>whnf
  exact ⟨h,le1,hk⟩
 conv=>whnf
 refine br_ (fun qs=>?_) fun qs=>?_
 ·rw [chk4 (by decide) hb (by omega) (by omega)] at hk
  conv=>whnf
  exact ⟨h,le1,hk⟩
 conv=>whnf
 refine br_ (fun rs=>?_) fun rs=>?_
 ·rw [chk4 (by decide) hb (by omega) (by omega)] at hk
  conv=>whnf
  exact ⟨h,le1,hk⟩
 conv=>whnf
 refine rlay_x 5 (by decide) m ?_
 refine ⟨trivial,cw_ ?_⟩
 refine rimm_x 5 (by decide) _ (layFrom_lt _ _ _ _ (by decide)) ?_
 refine ⟨trivial,cw_ ?_⟩
 by_cases hfit:fitsN 5 m=true
 ·rw [chk5 (by decide) hb (by omega) (by rw [hfit];simp;omega)] at hk
  refine bf_ ?_ (by simp [hi.2 hfit])
  exact ⟨h,le1,hk⟩
 ·rw [chk4 (by decide) hb (by omega) (.inr (.inr (by simpa using hfit)))] at hk
  refine bt_ ?_ (by simpa using fun e=>hfit (hi.1 e))
  exact ⟨h,le1,hk⟩
theorem rcheck6_x (op a b c m s:Int) (aq rl:Bool) (hf:fmtN op=6) (m1 : -9223372036854775808≤m) (m2:m≤9223372036854775807) (hk:K (.int .i64 (checkF 6 a b c m s aq rl)) h):X Tryz.prog 87 #[inV op a b c m s aq rl] h K:=by
 refine X.forget ?_
 refine fnv (args:=_) mixed rfXAsQ0 [] [] Tryz.func87 rfl (by kernel_rfl) (cw_ ?_)
 refine rfind4_x op 6 hf fun o' mk is h1 le1=>(cw_ ?_)
 refine seq_false ((by decide)) (cw_ ?_)
 refine has_x 6 (by decide) 0 (by decide) (cw_ ?_)
 refine has_x 6 (by decide) 1 (by decide) (cw_ ?_)
 by_cases zb:b=0
 rotate_left
 ·rw [chk2 (by decide) (by first | (simp [badF,fieldsL];done) | (simp [badF,fieldsL];omega) | (simp_all [badF,fieldsL];done))] at hk
  refine bt_ ?_ (by simp [zb])
  exact ⟨h,le1,hk⟩
 refine bf_ ?_ (by simp [zb])
 refine has_x 6 (by decide) 2 (by decide) (cw_ ?_)
 by_cases zc:c=0
 rotate_left
 ·rw [chk2 (by decide) (by first | (simp [badF,fieldsL];done) | (simp [badF,fieldsL];omega) | (simp_all [badF,fieldsL];done))] at hk
  refine bt_ ?_ (by simp [zc])
  exact ⟨h,le1,hk⟩
 refine bf_ ?_ (by simp [zc])
 refine has_x 6 (by decide) 3 (by decide) (cw_ ?_)
 refine has_x 6 (by decide) 4 (by decide) (cw_ ?_)
 by_cases zs:s=0
 rotate_left
 ·rw [chk2 (by decide) (by first | (simp [badF,fieldsL];done) | (simp [badF,fieldsL];omega) | (simp_all [badF,fieldsL];done))] at hk
  refine bt_ ?_ (by simp [zs])
  exact ⟨h,le1,hk⟩
 refine bf_ ?_ (by simp [zs])
 refine has_x 6 (by decide) 5 (by decide) (cw_ ?_)
 by_cases zq:(aq || rl)=true
 ·rw [chk2 (by decide) (by simp at zq;simp [badF,fieldsL];simp [zq])] at hk
  cases aq with
  | true =>
   conv=>whnf
   exact ⟨h,le1,hk⟩
  | false =>
   obtain rfl:rl=true:=by simpa using zq
   conv=>whnf
   exact ⟨h,le1,hk⟩
 obtain ⟨rfl,rfl⟩:aq=false∧rl=false:=by simpa using zq
 conv=>whnf
 have hb:¬ badF (fieldsL.getD 6 []) a b c m s false false:=by first | (simp [badF,fieldsL];done) | (simp [badF,fieldsL];omega) | (simp_all [badF,fieldsL];done)
 have hi:i64N (immN 6 (layN 6 (u64N m)))=m↔fitsN 6 m=true:=by rw [fits_eq];exact imm_lay6 m m1 m2
 refine br_ (fun qa=>?_) fun qa=>?_
 ·rw [chk3 (by decide) hb (by omega)] at hk
  conv=>whnf
  exact ⟨h,le1,hk⟩
 conv=>whnf
 refine br_ (fun ra=>?_) fun ra=>?_
 ·rw [chk3 (by decide) hb (by omega)] at hk
  conv=>whnf
  exact ⟨h,le1,hk⟩
 conv=>whnf
 refine br_ (fun qb=>?_) fun qb=>?_
 ·rw [chk3 (by decide) hb (by omega)] at hk
  conv=>whnf
  exact ⟨h,le1,hk⟩
 conv=>whnf
 refine br_ (fun rb=>?_) fun rb=>?_
 ·rw [chk3 (by decide) hb (by omega)] at hk
  conv=>whnf
  exact ⟨h,le1,hk⟩
 conv=>whnf
 refine br_ (fun qc=>?_) fun qc=>?_
 ·rw [chk3 (by decide) hb (by omega)] at hk
  conv=>whnf
  exact ⟨h,le1,hk⟩
 conv=>whnf
 refine br_ (fun rc=>?_) fun rc=>?_
 ·rw [chk3 (by decide) hb (by omega)] at hk
  conv=>whnf
  exact ⟨h,le1,hk⟩
 conv=>whnf
 refine br_ (fun qs=>?_) fun qs=>?_
 ·rw [chk4 (by decide) hb (by omega) (by omega)] at hk
  conv=>whnf
  exact ⟨h,le1,hk⟩
 conv=>whnf
 refine br_ (fun rs=>?_) fun rs=>?_
 ·rw [chk4 (by decide) hb (by omega) (by omega)] at hk
  conv=>whnf
  exact ⟨h,le1,hk⟩
 conv=>whnf
 refine rlay_x 6 (by decide) m ?_
 refine ⟨trivial,cw_ ?_⟩
 refine rimm_x 6 (by decide) _ (layFrom_lt _ _ _ _ (by decide)) ?_
 refine ⟨trivial,cw_ ?_⟩
 by_cases hfit:fitsN 6 m=true
 ·rw [chk5 (by decide) hb (by omega) (by rw [hfit];simp;omega)] at hk
  refine bf_ ?_ (by simp [hi.2 hfit])
  exact ⟨h,le1,hk⟩
 ·rw [chk4 (by decide) hb (by omega) (.inr (.inr (by simpa using hfit)))] at hk
  refine bt_ ?_ (by simpa using fun e=>hfit (hi.1 e))
  exact ⟨h,le1,hk⟩
theorem rcheck7_x (op a b c m s:Int) (aq rl:Bool) (hf:fmtN op=7) (m1 : -9223372036854775808≤m) (m2:m≤9223372036854775807) (hk:K (.int .i64 (checkF 7 a b c m s aq rl)) h):X Tryz.prog 87 #[inV op a b c m s aq rl] h K:=by
 refine X.forget ?_
 refine fnv (args:=_) mixed rfXAsQ0 [] [] Tryz.func87 rfl (by kernel_rfl) (cw_ ?_)
 refine rfind4_x op 7 hf fun o' mk is h1 le1=>(cw_ ?_)
 refine seq_false ((by decide)) (cw_ ?_)
 refine has_x 7 (by decide) 0 (by decide) (cw_ ?_)
 refine has_x 7 (by decide) 1 (by decide) (cw_ ?_)
 refine has_x 7 (by decide) 2 (by decide) (cw_ ?_)
 by_cases zc:c=0
 rotate_left
 ·rw [chk2 (by decide) (by first | (simp [badF,fieldsL];done) | (simp [badF,fieldsL];omega) | (simp_all [badF,fieldsL];done))] at hk
  refine bt_ ?_ (by simp [zc])
  exact ⟨h,le1,hk⟩
 refine bf_ ?_ (by simp [zc])
 refine has_x 7 (by decide) 3 (by decide) (cw_ ?_)
 refine has_x 7 (by decide) 4 (by decide) (cw_ ?_)
 by_cases zs:s=0
 rotate_left
 ·rw [chk2 (by decide) (by first | (simp [badF,fieldsL];done) | (simp [badF,fieldsL];omega) | (simp_all [badF,fieldsL];done))] at hk
  refine bt_ ?_ (by simp [zs])
  exact ⟨h,le1,hk⟩
 refine bf_ ?_ (by simp [zs])
 refine has_x 7 (by decide) 5 (by decide) (cw_ ?_)
 by_cases zq:(aq || rl)=true
 ·rw [chk2 (by decide) (by simp at zq;simp [badF,fieldsL];simp [zq])] at hk
  cases aq with
  | true =>
   conv=>whnf
   exact ⟨h,le1,hk⟩
  | false =>
   obtain rfl:rl=true:=by simpa using zq
   conv=>whnf
   exact ⟨h,le1,hk⟩
 obtain ⟨rfl,rfl⟩:aq=false∧rl=false:=by simpa using zq
 conv=>whnf
 have hb:¬ badF (fieldsL.getD 7 []) a b c m s false false:=by first | (simp [badF,fieldsL];done) | (simp [badF,fieldsL];omega) | (simp_all [badF,fieldsL];done)
 have hi:i64N (immN 7 (layN 7 (u64N m)))=m↔fitsN 7 m=true:=by rw [fits_eq];exact imm_lay7 m m1 m2
 refine br_ (fun qa=>?_) fun qa=>?_
 ·rw [chk3 (by decide) hb (by omega)] at hk
  conv=>whnf
  exact ⟨h,le1,hk⟩
 conv=>whnf
 refine br_ (fun ra=>?_) fun ra=>?_
 ·rw [chk3 (by decide) hb (by omega)] at hk
  conv=>whnf
  exact ⟨h,le1,hk⟩
 conv=>whnf
 refine br_ (fun qb=>?_) fun qb=>?_
 ·rw [chk3 (by decide) hb (by omega)] at hk
  conv=>whnf
  exact ⟨h,le1,hk⟩
 conv=>whnf
 refine br_ (fun rb=>?_) fun rb=>?_
 ·rw [chk3 (by decide) hb (by omega)] at hk
  conv=>whnf
  exact ⟨h,le1,hk⟩
 conv=>whnf
 refine br_ (fun qc=>?_) fun qc=>?_
 ·rw [chk3 (by decide) hb (by omega)] at hk
  conv=>whnf
  exact ⟨h,le1,hk⟩
 conv=>whnf
 refine br_ (fun rc=>?_) fun rc=>?_
 ·rw [chk3 (by decide) hb (by omega)] at hk
  conv=>whnf
  exact ⟨h,le1,hk⟩
 conv=>whnf
 refine br_ (fun qs=>?_) fun qs=>?_
 ·rw [chk4 (by decide) hb (by omega) (by omega)] at hk
  conv=>whnf
  exact ⟨h,le1,hk⟩
 conv=>whnf
 refine br_ (fun rs=>?_) fun rs=>?_
 ·rw [chk4 (by decide) hb (by omega) (by omega)] at hk
  conv=>whnf
  exact ⟨h,le1,hk⟩
 conv=>whnf
 refine rlay_x 7 (by decide) m ?_
 refine ⟨trivial,cw_ ?_⟩
 refine rimm_x 7 (by decide) _ (layFrom_lt _ _ _ _ (by decide)) ?_
 refine ⟨trivial,cw_ ?_⟩
 by_cases hfit:fitsN 7 m=true
 ·rw [chk5 (by decide) hb (by omega) (by rw [hfit];simp;omega)] at hk
  refine bf_ ?_ (by simp [hi.2 hfit])
  exact ⟨h,le1,hk⟩
 ·rw [chk4 (by decide) hb (by omega) (.inr (.inr (by simpa using hfit)))] at hk
  refine bt_ ?_ (by simpa using fun e=>hfit (hi.1 e))
  exact ⟨h,le1,hk⟩
theorem rcheck8_x (op a b c m s:Int) (aq rl:Bool) (hf:fmtN op=8) (m1 : -9223372036854775808≤m) (m2:m≤9223372036854775807) (hk:K (.int .i64 (checkF 8 a b c m s aq rl)) h):X Tryz.prog 87 #[inV op a b c m s aq rl] h K:=by
 refine X.forget ?_
 refine fnv (args:=_) mixed rfXAsQ0 [] [] Tryz.func87 rfl (by kernel_rfl) (cw_ ?_)
 refine rfind4_x op 8 hf fun o' mk is h1 le1=>(cw_ ?_)
 refine seq_false ((by decide)) (cw_ ?_)
 refine has_x 8 (by decide) 0 (by decide) (cw_ ?_)
 refine has_x 8 (by decide) 1 (by decide) (cw_ ?_)
 refine has_x 8 (by decide) 2 (by decide) (cw_ ?_)
 by_cases zc:c=0
 rotate_left
 ·rw [chk2 (by decide) (by first | (simp [badF,fieldsL];done) | (simp [badF,fieldsL];omega) | (simp_all [badF,fieldsL];done))] at hk
  refine bt_ ?_ (by simp [zc])
  exact ⟨h,le1,hk⟩
 refine bf_ ?_ (by simp [zc])
 refine has_x 8 (by decide) 3 (by decide) (cw_ ?_)
 refine has_x 8 (by decide) 4 (by decide) (cw_ ?_)
 by_cases zs:s=0
 rotate_left
 ·rw [chk2 (by decide) (by first | (simp [badF,fieldsL];done) | (simp [badF,fieldsL];omega) | (simp_all [badF,fieldsL];done))] at hk
  refine bt_ ?_ (by simp [zs])
  exact ⟨h,le1,hk⟩
 refine bf_ ?_ (by simp [zs])
 refine has_x 8 (by decide) 5 (by decide) (cw_ ?_)
 by_cases zq:(aq || rl)=true
 ·rw [chk2 (by decide) (by simp at zq;simp [badF,fieldsL];simp [zq])] at hk
  cases aq with
  | true =>
   conv=>whnf
   exact ⟨h,le1,hk⟩
  | false =>
   obtain rfl:rl=true:=by simpa using zq
   conv=>whnf
   exact ⟨h,le1,hk⟩
 obtain ⟨rfl,rfl⟩:aq=false∧rl=false:=by simpa using zq
 conv=>whnf
 have hb:¬ badF (fieldsL.getD 8 []) a b c m s false false:=by first | (simp [badF,fieldsL];done) | (simp [badF,fieldsL];omega) | (simp_all [badF,fieldsL];done)
 have hi:i64N (immN 8 (layN 8 (u64N m)))=m↔fitsN 8 m=true:=by rw [fits_eq];exact imm_lay8 m m1 m2
 refine br_ (fun qa=>?_) fun qa=>?_
 ·rw [chk3 (by decide) hb (by omega)] at hk
  conv=>whnf
  exact ⟨h,le1,hk⟩
 conv=>whnf
 refine br_ (fun ra=>?_) fun ra=>?_
 ·rw [chk3 (by decide) hb (by omega)] at hk
  conv=>whnf
  exact ⟨h,le1,hk⟩
 conv=>whnf
 refine br_ (fun qb=>?_) fun qb=>?_
 ·rw [chk3 (by decide) hb (by omega)] at hk
  conv=>whnf
  exact ⟨h,le1,hk⟩
 conv=>whnf
 refine br_ (fun rb=>?_) fun rb=>?_
 ·rw [chk3 (by decide) hb (by omega)] at hk
  conv=>whnf
  exact ⟨h,le1,hk⟩
 conv=>whnf
 refine br_ (fun qc=>?_) fun qc=>?_
 ·rw [chk3 (by decide) hb (by omega)] at hk
  conv=>whnf
  exact ⟨h,le1,hk⟩
 conv=>whnf
 refine br_ (fun rc=>?_) fun rc=>?_
 ·rw [chk3 (by decide) hb (by omega)] at hk
  conv=>whnf
  exact ⟨h,le1,hk⟩
 conv=>whnf
 refine br_ (fun qs=>?_) fun qs=>?_
 ·rw [chk4 (by decide) hb (by omega) (by omega)] at hk
  conv=>whnf
  exact ⟨h,le1,hk⟩
 conv=>whnf
 refine br_ (fun rs=>?_) fun rs=>?_
 ·rw [chk4 (by decide) hb (by omega) (by omega)] at hk
  conv=>whnf
  exact ⟨h,le1,hk⟩
 conv=>whnf
 refine rlay_x 8 (by decide) m ?_
 refine ⟨trivial,cw_ ?_⟩
 refine rimm_x 8 (by decide) _ (layFrom_lt _ _ _ _ (by decide)) ?_
 refine ⟨trivial,cw_ ?_⟩
 by_cases hfit:fitsN 8 m=true
 ·rw [chk5 (by decide) hb (by omega) (by rw [hfit];simp;omega)] at hk
  refine bf_ ?_ (by simp [hi.2 hfit])
  exact ⟨h,le1,hk⟩
 ·rw [chk4 (by decide) hb (by omega) (.inr (.inr (by simpa using hfit)))] at hk
  refine bt_ ?_ (by simpa using fun e=>hfit (hi.1 e))
  exact ⟨h,le1,hk⟩
theorem rcheck9_x (op a b c m s:Int) (aq rl:Bool) (hf:fmtN op=9) (m1 : -9223372036854775808≤m) (m2:m≤9223372036854775807) (hk:K (.int .i64 (checkF 9 a b c m s aq rl)) h):X Tryz.prog 87 #[inV op a b c m s aq rl] h K:=by
 refine X.forget ?_
 refine fnv (args:=_) mixed rfXAsQ0 [] [] Tryz.func87 rfl (by kernel_rfl) (cw_ ?_)
 refine rfind4_x op 9 hf fun o' mk is h1 le1=>(cw_ ?_)
 refine seq_false ((by decide)) (cw_ ?_)
 refine has_x 9 (by decide) 0 (by decide) (cw_ ?_)
 refine has_x 9 (by decide) 1 (by decide) (cw_ ?_)
 refine has_x 9 (by decide) 2 (by decide) (cw_ ?_)
 by_cases zc:c=0
 rotate_left
 ·rw [chk2 (by decide) (by first | (simp [badF,fieldsL];done) | (simp [badF,fieldsL];omega) | (simp_all [badF,fieldsL];done))] at hk
  refine bt_ ?_ (by simp [zc])
  exact ⟨h,le1,hk⟩
 refine bf_ ?_ (by simp [zc])
 refine has_x 9 (by decide) 3 (by decide) (cw_ ?_)
 by_cases zm:m=0
 rotate_left
 ·rw [chk2 (by decide) (by first | (simp [badF,fieldsL];done) | (simp [badF,fieldsL];omega) | (simp_all [badF,fieldsL];done))] at hk
  refine bt_ ?_ (by simp [zm])
  exact ⟨h,le1,hk⟩
 refine bf_ ?_ (by simp [zm])
 refine has_x 9 (by decide) 4 (by decide) (cw_ ?_)
 refine has_x 9 (by decide) 5 (by decide) (cw_ ?_)
 by_cases zq:(aq || rl)=true
 ·rw [chk2 (by decide) (by simp at zq;simp [badF,fieldsL];simp [zq])] at hk
  cases aq with
  | true =>
   conv=>whnf
   exact ⟨h,le1,hk⟩
  | false =>
   obtain rfl:rl=true:=by simpa using zq
   conv=>whnf
   exact ⟨h,le1,hk⟩
 obtain ⟨rfl,rfl⟩:aq=false∧rl=false:=by simpa using zq
 conv=>whnf
 have hb:¬ badF (fieldsL.getD 9 []) a b c m s false false:=by first | (simp [badF,fieldsL];done) | (simp [badF,fieldsL];omega) | (simp_all [badF,fieldsL];done)
 have hi:i64N (immN 9 (layN 9 (u64N m)))=m↔fitsN 9 m=true:=by rw [zm];decide
 refine br_ (fun qa=>?_) fun qa=>?_
 ·rw [chk3 (by decide) hb (by omega)] at hk
  conv=>whnf
  exact ⟨h,le1,hk⟩
 conv=>whnf
 refine br_ (fun ra=>?_) fun ra=>?_
 ·rw [chk3 (by decide) hb (by omega)] at hk
  conv=>whnf
  exact ⟨h,le1,hk⟩
 conv=>whnf
 refine br_ (fun qb=>?_) fun qb=>?_
 ·rw [chk3 (by decide) hb (by omega)] at hk
  conv=>whnf
  exact ⟨h,le1,hk⟩
 conv=>whnf
 refine br_ (fun rb=>?_) fun rb=>?_
 ·rw [chk3 (by decide) hb (by omega)] at hk
  conv=>whnf
  exact ⟨h,le1,hk⟩
 conv=>whnf
 refine br_ (fun qc=>?_) fun qc=>?_
 ·rw [chk3 (by decide) hb (by omega)] at hk
  conv=>whnf
  exact ⟨h,le1,hk⟩
 conv=>whnf
 refine br_ (fun rc=>?_) fun rc=>?_
 ·rw [chk3 (by decide) hb (by omega)] at hk
  conv=>whnf
  exact ⟨h,le1,hk⟩
 conv=>whnf
 refine br_ (fun qs=>?_) fun qs=>?_
 ·rw [chk4 (by decide) hb (by omega) (by omega)] at hk
  conv=>whnf
  exact ⟨h,le1,hk⟩
 conv=>whnf
 refine br_ (fun rs=>?_) fun rs=>?_
 ·rw [chk4 (by decide) hb (by omega) (by omega)] at hk
  conv=>whnf
  exact ⟨h,le1,hk⟩
 conv=>whnf
 refine rlay_x 9 (by decide) m ?_
 refine ⟨trivial,cw_ ?_⟩
 refine rimm_x 9 (by decide) _ (layFrom_lt _ _ _ _ (by decide)) ?_
 refine ⟨trivial,cw_ ?_⟩
 by_cases hfit:fitsN 9 m=true
 ·rw [chk5 (by decide) hb (by omega) (by rw [hfit];simp;omega)] at hk
  refine bf_ ?_ (by simp [hi.2 hfit])
  exact ⟨h,le1,hk⟩
 ·rw [chk4 (by decide) hb (by omega) (.inr (.inr (by simpa using hfit)))] at hk
  refine bt_ ?_ (by simpa using fun e=>hfit (hi.1 e))
  exact ⟨h,le1,hk⟩
theorem rcheck10_x (op a b c m s:Int) (aq rl:Bool) (hf:fmtN op=10) (m1 : -9223372036854775808≤m) (m2:m≤9223372036854775807) (hk:K (.int .i64 (checkF 10 a b c m s aq rl)) h):X Tryz.prog 87 #[inV op a b c m s aq rl] h K:=by
 refine X.forget ?_
 refine fnv (args:=_) mixed rfXAsQ0 [] [] Tryz.func87 rfl (by kernel_rfl) (cw_ ?_)
 refine rfind4_x op 10 hf fun o' mk is h1 le1=>(cw_ ?_)
 refine seq_false ((by decide)) (cw_ ?_)
 refine has_x 10 (by decide) 0 (by decide) (cw_ ?_)
 refine has_x 10 (by decide) 1 (by decide) (cw_ ?_)
 refine has_x 10 (by decide) 2 (by decide) (cw_ ?_)
 by_cases zc:c=0
 rotate_left
 ·rw [chk2 (by decide) (by first | (simp [badF,fieldsL];done) | (simp [badF,fieldsL];omega) | (simp_all [badF,fieldsL];done))] at hk
  refine bt_ ?_ (by simp [zc])
  exact ⟨h,le1,hk⟩
 refine bf_ ?_ (by simp [zc])
 refine has_x 10 (by decide) 3 (by decide) (cw_ ?_)
 by_cases zm:m=0
 rotate_left
 ·rw [chk2 (by decide) (by first | (simp [badF,fieldsL];done) | (simp [badF,fieldsL];omega) | (simp_all [badF,fieldsL];done))] at hk
  refine bt_ ?_ (by simp [zm])
  exact ⟨h,le1,hk⟩
 refine bf_ ?_ (by simp [zm])
 refine has_x 10 (by decide) 4 (by decide) (cw_ ?_)
 refine has_x 10 (by decide) 5 (by decide) (cw_ ?_)
 by_cases zq:(aq || rl)=true
 ·rw [chk2 (by decide) (by simp at zq;simp [badF,fieldsL];simp [zq])] at hk
  cases aq with
  | true =>
   conv=>whnf
   exact ⟨h,le1,hk⟩
  | false =>
   obtain rfl:rl=true:=by simpa using zq
   conv=>whnf
   exact ⟨h,le1,hk⟩
 obtain ⟨rfl,rfl⟩:aq=false∧rl=false:=by simpa using zq
 conv=>whnf
 have hb:¬ badF (fieldsL.getD 10 []) a b c m s false false:=by first | (simp [badF,fieldsL];done) | (simp [badF,fieldsL];omega) | (simp_all [badF,fieldsL];done)
 have hi:i64N (immN 10 (layN 10 (u64N m)))=m↔fitsN 10 m=true:=by rw [zm];decide
 refine br_ (fun qa=>?_) fun qa=>?_
 ·rw [chk3 (by decide) hb (by omega)] at hk
  conv=>whnf
  exact ⟨h,le1,hk⟩
 conv=>whnf
 refine br_ (fun ra=>?_) fun ra=>?_
 ·rw [chk3 (by decide) hb (by omega)] at hk
  conv=>whnf
  exact ⟨h,le1,hk⟩
 conv=>whnf
 refine br_ (fun qb=>?_) fun qb=>?_
 ·rw [chk3 (by decide) hb (by omega)] at hk
  conv=>whnf
  exact ⟨h,le1,hk⟩
 conv=>whnf
 refine br_ (fun rb=>?_) fun rb=>?_
 ·rw [chk3 (by decide) hb (by omega)] at hk
  conv=>whnf
  exact ⟨h,le1,hk⟩
 conv=>whnf
 refine br_ (fun qc=>?_) fun qc=>?_
 ·rw [chk3 (by decide) hb (by omega)] at hk
  conv=>whnf
  exact ⟨h,le1,hk⟩
 conv=>whnf
 refine br_ (fun rc=>?_) fun rc=>?_
 ·rw [chk3 (by decide) hb (by omega)] at hk
  conv=>whnf
  exact ⟨h,le1,hk⟩
 conv=>whnf
 refine br_ (fun qs=>?_) fun qs=>?_
 ·rw [chk4 (by decide) hb (by omega) (by omega)] at hk
  conv=>whnf
  exact ⟨h,le1,hk⟩
 conv=>whnf
 refine br_ (fun rs=>?_) fun rs=>?_
 ·rw [chk4 (by decide) hb (by omega) (by omega)] at hk
  conv=>whnf
  exact ⟨h,le1,hk⟩
 conv=>whnf
 refine rlay_x 10 (by decide) m ?_
 refine ⟨trivial,cw_ ?_⟩
 refine rimm_x 10 (by decide) _ (layFrom_lt _ _ _ _ (by decide)) ?_
 refine ⟨trivial,cw_ ?_⟩
 by_cases hfit:fitsN 10 m=true
 ·rw [chk5 (by decide) hb (by omega) (by rw [hfit];simp;omega)] at hk
  refine bf_ ?_ (by simp [hi.2 hfit])
  exact ⟨h,le1,hk⟩
 ·rw [chk4 (by decide) hb (by omega) (.inr (.inr (by simpa using hfit)))] at hk
  refine bt_ ?_ (by simpa using fun e=>hfit (hi.1 e))
  exact ⟨h,le1,hk⟩
theorem rcheck11_x (op a b c m s:Int) (aq rl:Bool) (hf:fmtN op=11) (m1 : -9223372036854775808≤m) (m2:m≤9223372036854775807) (hk:K (.int .i64 (checkF 11 a b c m s aq rl)) h):X Tryz.prog 87 #[inV op a b c m s aq rl] h K:=by
 refine X.forget ?_
 refine fnv (args:=_) mixed rfXAsQ0 [] [] Tryz.func87 rfl (by kernel_rfl) (cw_ ?_)
 refine rfind4_x op 11 hf fun o' mk is h1 le1=>(cw_ ?_)
 refine seq_false ((by decide)) (cw_ ?_)
 refine has_x 11 (by decide) 0 (by decide) (cw_ ?_)
 refine has_x 11 (by decide) 1 (by decide) (cw_ ?_)
 refine has_x 11 (by decide) 2 (by decide) (cw_ ?_)
 refine has_x 11 (by decide) 3 (by decide) (cw_ ?_)
 by_cases zm:m=0
 rotate_left
 ·rw [chk2 (by decide) (by first | (simp [badF,fieldsL];done) | (simp [badF,fieldsL];omega) | (simp_all [badF,fieldsL];done))] at hk
  refine bt_ ?_ (by simp [zm])
  exact ⟨h,le1,hk⟩
 refine bf_ ?_ (by simp [zm])
 refine has_x 11 (by decide) 4 (by decide) (cw_ ?_)
 by_cases zs:s=0
 rotate_left
 ·rw [chk2 (by decide) (by first | (simp [badF,fieldsL];done) | (simp [badF,fieldsL];omega) | (simp_all [badF,fieldsL];done))] at hk
  refine bt_ ?_ (by simp [zs])
  exact ⟨h,le1,hk⟩
 refine bf_ ?_ (by simp [zs])
 refine has_x 11 (by decide) 5 (by decide) (cw_ ?_)
 have hb:¬ badF (fieldsL.getD 11 []) a b c m s aq rl:=by first | (simp [badF,fieldsL];done) | (simp [badF,fieldsL];omega) | (simp_all [badF,fieldsL];done)
 have hi:i64N (immN 11 (layN 11 (u64N m)))=m↔fitsN 11 m=true:=by rw [zm];decide
 refine br_ (fun qa=>?_) fun qa=>?_
 ·rw [chk3 (by decide) hb (by omega)] at hk
  conv=>whnf
  exact ⟨h,le1,hk⟩
 conv=>whnf
 refine br_ (fun ra=>?_) fun ra=>?_
 ·rw [chk3 (by decide) hb (by omega)] at hk
  conv=>whnf
  exact ⟨h,le1,hk⟩
 conv=>whnf
 refine br_ (fun qb=>?_) fun qb=>?_
 ·rw [chk3 (by decide) hb (by omega)] at hk
  conv=>whnf
  exact ⟨h,le1,hk⟩
 conv=>whnf
 refine br_ (fun rb=>?_) fun rb=>?_
 ·rw [chk3 (by decide) hb (by omega)] at hk
  conv=>whnf
  exact ⟨h,le1,hk⟩
 conv=>whnf
 refine br_ (fun qc=>?_) fun qc=>?_
 ·rw [chk3 (by decide) hb (by omega)] at hk
  conv=>whnf
  exact ⟨h,le1,hk⟩
 conv=>whnf
 refine br_ (fun rc=>?_) fun rc=>?_
 ·rw [chk3 (by decide) hb (by omega)] at hk
  conv=>whnf
  exact ⟨h,le1,hk⟩
 conv=>whnf
 refine br_ (fun qs=>?_) fun qs=>?_
 ·rw [chk4 (by decide) hb (by omega) (by omega)] at hk
  conv=>whnf
  exact ⟨h,le1,hk⟩
 conv=>whnf
 refine br_ (fun rs=>?_) fun rs=>?_
 ·rw [chk4 (by decide) hb (by omega) (by omega)] at hk
  conv=>whnf
  exact ⟨h,le1,hk⟩
 conv=>whnf
 refine rlay_x 11 (by decide) m ?_
 refine ⟨trivial,cw_ ?_⟩
 refine rimm_x 11 (by decide) _ (layFrom_lt _ _ _ _ (by decide)) ?_
 refine ⟨trivial,cw_ ?_⟩
 by_cases hfit:fitsN 11 m=true
 ·rw [chk5 (by decide) hb (by omega) (by rw [hfit];simp;omega)] at hk
  refine bf_ ?_ (by simp [hi.2 hfit])
  exact ⟨h,le1,hk⟩
 ·rw [chk4 (by decide) hb (by omega) (.inr (.inr (by simpa using hfit)))] at hk
  refine bt_ ?_ (by simpa using fun e=>hfit (hi.1 e))
  exact ⟨h,le1,hk⟩
theorem rcheck12_x (op a b c m s:Int) (aq rl:Bool) (hf:fmtN op=12) (m1 : -9223372036854775808≤m) (m2:m≤9223372036854775807) (hk:K (.int .i64 (checkF 12 a b c m s aq rl)) h):X Tryz.prog 87 #[inV op a b c m s aq rl] h K:=by
 refine X.forget ?_
 refine fnv (args:=_) mixed rfXAsQ0 [] [] Tryz.func87 rfl (by kernel_rfl) (cw_ ?_)
 refine rfind4_x op 12 hf fun o' mk is h1 le1=>(cw_ ?_)
 refine seq_false ((by decide)) (cw_ ?_)
 refine has_x 12 (by decide) 0 (by decide) (cw_ ?_)
 refine has_x 12 (by decide) 1 (by decide) (cw_ ?_)
 refine has_x 12 (by decide) 2 (by decide) (cw_ ?_)
 by_cases zc:c=0
 rotate_left
 ·rw [chk2 (by decide) (by first | (simp [badF,fieldsL];done) | (simp [badF,fieldsL];omega) | (simp_all [badF,fieldsL];done))] at hk
  refine bt_ ?_ (by simp [zc])
  exact ⟨h,le1,hk⟩
 refine bf_ ?_ (by simp [zc])
 refine has_x 12 (by decide) 3 (by decide) (cw_ ?_)
 by_cases zm:m=0
 rotate_left
 ·rw [chk2 (by decide) (by first | (simp [badF,fieldsL];done) | (simp [badF,fieldsL];omega) | (simp_all [badF,fieldsL];done))] at hk
  refine bt_ ?_ (by simp [zm])
  exact ⟨h,le1,hk⟩
 refine bf_ ?_ (by simp [zm])
 refine has_x 12 (by decide) 4 (by decide) (cw_ ?_)
 by_cases zs:s=0
 rotate_left
 ·rw [chk2 (by decide) (by first | (simp [badF,fieldsL];done) | (simp [badF,fieldsL];omega) | (simp_all [badF,fieldsL];done))] at hk
  refine bt_ ?_ (by simp [zs])
  exact ⟨h,le1,hk⟩
 refine bf_ ?_ (by simp [zs])
 refine has_x 12 (by decide) 5 (by decide) (cw_ ?_)
 have hb:¬ badF (fieldsL.getD 12 []) a b c m s aq rl:=by first | (simp [badF,fieldsL];done) | (simp [badF,fieldsL];omega) | (simp_all [badF,fieldsL];done)
 have hi:i64N (immN 12 (layN 12 (u64N m)))=m↔fitsN 12 m=true:=by rw [zm];decide
 refine br_ (fun qa=>?_) fun qa=>?_
 ·rw [chk3 (by decide) hb (by omega)] at hk
  conv=>whnf
  exact ⟨h,le1,hk⟩
 conv=>whnf
 refine br_ (fun ra=>?_) fun ra=>?_
 ·rw [chk3 (by decide) hb (by omega)] at hk
  conv=>whnf
  exact ⟨h,le1,hk⟩
 conv=>whnf
 refine br_ (fun qb=>?_) fun qb=>?_
 ·rw [chk3 (by decide) hb (by omega)] at hk
  conv=>whnf
  exact ⟨h,le1,hk⟩
 conv=>whnf
 refine br_ (fun rb=>?_) fun rb=>?_
 ·rw [chk3 (by decide) hb (by omega)] at hk
  conv=>whnf
  exact ⟨h,le1,hk⟩
 conv=>whnf
 refine br_ (fun qc=>?_) fun qc=>?_
 ·rw [chk3 (by decide) hb (by omega)] at hk
  conv=>whnf
  exact ⟨h,le1,hk⟩
 conv=>whnf
 refine br_ (fun rc=>?_) fun rc=>?_
 ·rw [chk3 (by decide) hb (by omega)] at hk
  conv=>whnf
  exact ⟨h,le1,hk⟩
 conv=>whnf
 refine br_ (fun qs=>?_) fun qs=>?_
 ·rw [chk4 (by decide) hb (by omega) (by omega)] at hk
  conv=>whnf
  exact ⟨h,le1,hk⟩
 conv=>whnf
 refine br_ (fun rs=>?_) fun rs=>?_
 ·rw [chk4 (by decide) hb (by omega) (by omega)] at hk
  conv=>whnf
  exact ⟨h,le1,hk⟩
 conv=>whnf
 refine rlay_x 12 (by decide) m ?_
 refine ⟨trivial,cw_ ?_⟩
 refine rimm_x 12 (by decide) _ (layFrom_lt _ _ _ _ (by decide)) ?_
 refine ⟨trivial,cw_ ?_⟩
 by_cases hfit:fitsN 12 m=true
 ·rw [chk5 (by decide) hb (by omega) (by rw [hfit];simp;omega)] at hk
  refine bf_ ?_ (by simp [hi.2 hfit])
  exact ⟨h,le1,hk⟩
 ·rw [chk4 (by decide) hb (by omega) (.inr (.inr (by simpa using hfit)))] at hk
  refine bt_ ?_ (by simpa using fun e=>hfit (hi.1 e))
  exact ⟨h,le1,hk⟩
theorem rcheck13_x (op a b c m s:Int) (aq rl:Bool) (hf:fmtN op=13) (m1 : -9223372036854775808≤m) (m2:m≤9223372036854775807) (hk:K (.int .i64 (checkF 13 a b c m s aq rl)) h):X Tryz.prog 87 #[inV op a b c m s aq rl] h K:=by
 refine X.forget ?_
 refine fnv (args:=_) mixed rfXAsQ0 [] [] Tryz.func87 rfl (by kernel_rfl) (cw_ ?_)
 refine rfind4_x op 13 hf fun o' mk is h1 le1=>(cw_ ?_)
 refine seq_false ((by decide)) (cw_ ?_)
 refine has_x 13 (by decide) 0 (by decide) (cw_ ?_)
 by_cases za:a=0
 rotate_left
 ·rw [chk2 (by decide) (by first | (simp [badF,fieldsL];done) | (simp [badF,fieldsL];omega) | (simp_all [badF,fieldsL];done))] at hk
  refine bt_ ?_ (by simp [za])
  exact ⟨h,le1,hk⟩
 refine bf_ ?_ (by simp [za])
 refine has_x 13 (by decide) 1 (by decide) (cw_ ?_)
 by_cases zb:b=0
 rotate_left
 ·rw [chk2 (by decide) (by first | (simp [badF,fieldsL];done) | (simp [badF,fieldsL];omega) | (simp_all [badF,fieldsL];done))] at hk
  refine bt_ ?_ (by simp [zb])
  exact ⟨h,le1,hk⟩
 refine bf_ ?_ (by simp [zb])
 refine has_x 13 (by decide) 2 (by decide) (cw_ ?_)
 by_cases zc:c=0
 rotate_left
 ·rw [chk2 (by decide) (by first | (simp [badF,fieldsL];done) | (simp [badF,fieldsL];omega) | (simp_all [badF,fieldsL];done))] at hk
  refine bt_ ?_ (by simp [zc])
  exact ⟨h,le1,hk⟩
 refine bf_ ?_ (by simp [zc])
 refine has_x 13 (by decide) 3 (by decide) (cw_ ?_)
 by_cases zm:m=0
 rotate_left
 ·rw [chk2 (by decide) (by first | (simp [badF,fieldsL];done) | (simp [badF,fieldsL];omega) | (simp_all [badF,fieldsL];done))] at hk
  refine bt_ ?_ (by simp [zm])
  exact ⟨h,le1,hk⟩
 refine bf_ ?_ (by simp [zm])
 refine has_x 13 (by decide) 4 (by decide) (cw_ ?_)
 by_cases zs:s=0
 rotate_left
 ·rw [chk2 (by decide) (by first | (simp [badF,fieldsL];done) | (simp [badF,fieldsL];omega) | (simp_all [badF,fieldsL];done))] at hk
  refine bt_ ?_ (by simp [zs])
  exact ⟨h,le1,hk⟩
 refine bf_ ?_ (by simp [zs])
 refine has_x 13 (by decide) 5 (by decide) (cw_ ?_)
 by_cases zq:(aq || rl)=true
 ·rw [chk2 (by decide) (by simp at zq;simp [badF,fieldsL];simp [zq])] at hk
  cases aq with
  | true =>
   conv=>whnf
   exact ⟨h,le1,hk⟩
  | false =>
   obtain rfl:rl=true:=by simpa using zq
   conv=>whnf
   exact ⟨h,le1,hk⟩
 obtain ⟨rfl,rfl⟩:aq=false∧rl=false:=by simpa using zq
 conv=>whnf
 have hb:¬ badF (fieldsL.getD 13 []) a b c m s false false:=by first | (simp [badF,fieldsL];done) | (simp [badF,fieldsL];omega) | (simp_all [badF,fieldsL];done)
 have hi:i64N (immN 13 (layN 13 (u64N m)))=m↔fitsN 13 m=true:=by rw [zm];decide
 refine br_ (fun qa=>?_) fun qa=>?_
 ·rw [chk3 (by decide) hb (by omega)] at hk
  conv=>whnf
  exact ⟨h,le1,hk⟩
 conv=>whnf
 refine br_ (fun ra=>?_) fun ra=>?_
 ·rw [chk3 (by decide) hb (by omega)] at hk
  conv=>whnf
  exact ⟨h,le1,hk⟩
 conv=>whnf
 refine br_ (fun qb=>?_) fun qb=>?_
 ·rw [chk3 (by decide) hb (by omega)] at hk
  conv=>whnf
  exact ⟨h,le1,hk⟩
 conv=>whnf
 refine br_ (fun rb=>?_) fun rb=>?_
 ·rw [chk3 (by decide) hb (by omega)] at hk
  conv=>whnf
  exact ⟨h,le1,hk⟩
 conv=>whnf
 refine br_ (fun qc=>?_) fun qc=>?_
 ·rw [chk3 (by decide) hb (by omega)] at hk
  conv=>whnf
  exact ⟨h,le1,hk⟩
 conv=>whnf
 refine br_ (fun rc=>?_) fun rc=>?_
 ·rw [chk3 (by decide) hb (by omega)] at hk
  conv=>whnf
  exact ⟨h,le1,hk⟩
 conv=>whnf
 refine br_ (fun qs=>?_) fun qs=>?_
 ·rw [chk4 (by decide) hb (by omega) (by omega)] at hk
  conv=>whnf
  exact ⟨h,le1,hk⟩
 conv=>whnf
 refine br_ (fun rs=>?_) fun rs=>?_
 ·rw [chk4 (by decide) hb (by omega) (by omega)] at hk
  conv=>whnf
  exact ⟨h,le1,hk⟩
 conv=>whnf
 refine rlay_x 13 (by decide) m ?_
 refine ⟨trivial,cw_ ?_⟩
 refine rimm_x 13 (by decide) _ (layFrom_lt _ _ _ _ (by decide)) ?_
 refine ⟨trivial,cw_ ?_⟩
 by_cases hfit:fitsN 13 m=true
 ·rw [chk5 (by decide) hb (by omega) (by rw [hfit];simp;omega)] at hk
  refine bf_ ?_ (by simp [hi.2 hfit])
  exact ⟨h,le1,hk⟩
 ·rw [chk4 (by decide) hb (by omega) (.inr (.inr (by simpa using hfit)))] at hk
  refine bt_ ?_ (by simpa using fun e=>hfit (hi.1 e))
  exact ⟨h,le1,hk⟩
theorem rcheck14_x (op a b c m s:Int) (aq rl:Bool) (hf:fmtN op=14) (m1 : -9223372036854775808≤m) (m2:m≤9223372036854775807) (hk:K (.int .i64 (checkF 14 a b c m s aq rl)) h):X Tryz.prog 87 #[inV op a b c m s aq rl] h K:=by
 refine X.forget ?_
 refine fnv (args:=_) mixed rfXAsQ0 [] [] Tryz.func87 rfl (by kernel_rfl) (cw_ ?_)
 refine rfind4_x op 14 hf fun o' mk is h1 le1=>(cw_ ?_)
 refine seq_false ((by decide)) (cw_ ?_)
 refine has_x 14 (by decide) 0 (by decide) (cw_ ?_)
 by_cases za:a=0
 rotate_left
 ·rw [chk2 (by decide) (by first | (simp [badF,fieldsL];done) | (simp [badF,fieldsL];omega) | (simp_all [badF,fieldsL];done))] at hk
  refine bt_ ?_ (by simp [za])
  exact ⟨h,le1,hk⟩
 refine bf_ ?_ (by simp [za])
 refine has_x 14 (by decide) 1 (by decide) (cw_ ?_)
 refine has_x 14 (by decide) 2 (by decide) (cw_ ?_)
 refine has_x 14 (by decide) 3 (by decide) (cw_ ?_)
 by_cases zm:m=0
 rotate_left
 ·rw [chk2 (by decide) (by first | (simp [badF,fieldsL];done) | (simp [badF,fieldsL];omega) | (simp_all [badF,fieldsL];done))] at hk
  refine bt_ ?_ (by simp [zm])
  exact ⟨h,le1,hk⟩
 refine bf_ ?_ (by simp [zm])
 refine has_x 14 (by decide) 4 (by decide) (cw_ ?_)
 by_cases zs:s=0
 rotate_left
 ·rw [chk2 (by decide) (by first | (simp [badF,fieldsL];done) | (simp [badF,fieldsL];omega) | (simp_all [badF,fieldsL];done))] at hk
  refine bt_ ?_ (by simp [zs])
  exact ⟨h,le1,hk⟩
 refine bf_ ?_ (by simp [zs])
 refine has_x 14 (by decide) 5 (by decide) (cw_ ?_)
 by_cases zq:(aq || rl)=true
 ·rw [chk2 (by decide) (by simp at zq;simp [badF,fieldsL];simp [zq])] at hk
  cases aq with
  | true =>
   conv=>whnf
   exact ⟨h,le1,hk⟩
  | false =>
   obtain rfl:rl=true:=by simpa using zq
   conv=>whnf
   exact ⟨h,le1,hk⟩
 obtain ⟨rfl,rfl⟩:aq=false∧rl=false:=by simpa using zq
 conv=>whnf
 have hb:¬ badF (fieldsL.getD 14 []) a b c m s false false:=by first | (simp [badF,fieldsL];done) | (simp [badF,fieldsL];omega) | (simp_all [badF,fieldsL];done)
 have hi:i64N (immN 14 (layN 14 (u64N m)))=m↔fitsN 14 m=true:=by rw [zm];decide
 refine br_ (fun qa=>?_) fun qa=>?_
 ·rw [chk3 (by decide) hb (by omega)] at hk
  conv=>whnf
  exact ⟨h,le1,hk⟩
 conv=>whnf
 refine br_ (fun ra=>?_) fun ra=>?_
 ·rw [chk3 (by decide) hb (by omega)] at hk
  conv=>whnf
  exact ⟨h,le1,hk⟩
 conv=>whnf
 refine br_ (fun qb=>?_) fun qb=>?_
 ·rw [chk3 (by decide) hb (by omega)] at hk
  conv=>whnf
  exact ⟨h,le1,hk⟩
 conv=>whnf
 refine br_ (fun rb=>?_) fun rb=>?_
 ·rw [chk3 (by decide) hb (by omega)] at hk
  conv=>whnf
  exact ⟨h,le1,hk⟩
 conv=>whnf
 refine br_ (fun qc=>?_) fun qc=>?_
 ·rw [chk3 (by decide) hb (by omega)] at hk
  conv=>whnf
  exact ⟨h,le1,hk⟩
 conv=>whnf
 refine br_ (fun rc=>?_) fun rc=>?_
 ·rw [chk3 (by decide) hb (by omega)] at hk
  conv=>whnf
  exact ⟨h,le1,hk⟩
 conv=>whnf
 refine br_ (fun qs=>?_) fun qs=>?_
 ·rw [chk4 (by decide) hb (by omega) (by omega)] at hk
  conv=>whnf
  exact ⟨h,le1,hk⟩
 conv=>whnf
 refine br_ (fun rs=>?_) fun rs=>?_
 ·rw [chk4 (by decide) hb (by omega) (by omega)] at hk
  conv=>whnf
  exact ⟨h,le1,hk⟩
 conv=>whnf
 refine rlay_x 14 (by decide) m ?_
 refine ⟨trivial,cw_ ?_⟩
 refine rimm_x 14 (by decide) _ (layFrom_lt _ _ _ _ (by decide)) ?_
 refine ⟨trivial,cw_ ?_⟩
 by_cases hfit:fitsN 14 m=true
 ·rw [chk5 (by decide) hb (by omega) (by rw [hfit];simp;omega)] at hk
  refine bf_ ?_ (by simp [hi.2 hfit])
  exact ⟨h,le1,hk⟩
 ·rw [chk4 (by decide) hb (by omega) (.inr (.inr (by simpa using hfit)))] at hk
  refine bt_ ?_ (by simpa using fun e=>hfit (hi.1 e))
  exact ⟨h,le1,hk⟩
theorem rcheck0_x (op a b c m s:Int) (aq rl:Bool) (hf:fmtN op=0) (hk:K (.int .i64 (checkF 0 a b c m s aq rl)) h):X Tryz.prog 87 #[inV op a b c m s aq rl] h K:=by
 refine X.forget ?_
 refine fnv (args:=_) mixed rfXAsQ0 [] [] Tryz.func87 rfl (by kernel_rfl) (cw_ ?_)
 refine rfind4_x op 0 hf fun o' mk is h1 le1=>(cw_ ?_)
 refine seq_true (rfl) (cw_ ?_)
 exact ⟨h,le1,hk⟩
theorem rcheck_x (op a b c m s:Int) (aq rl:Bool) (m1 : -9223372036854775808≤m) (m2:m≤9223372036854775807) (hk:K (.int .i64 (checkF (fmtN op) a b c m s aq rl)) h):X Tryz.prog 87 #[inV op a b c m s aq rl] h K:=by
 have hl:=fmtN_lt op
 generalize hf:fmtN op=f at hl hk
 match f,hf,hl,hk with
 | 0,hf,_,hk=>exact rcheck0_x op a b c m s aq rl hf hk
 | 1,hf,_,hk=>exact rcheck1_x op a b c m s aq rl hf m1 m2 hk
 | 2,hf,_,hk=>exact rcheck2_x op a b c m s aq rl hf m1 m2 hk
 | 3,hf,_,hk=>exact rcheck3_x op a b c m s aq rl hf m1 m2 hk
 | 4,hf,_,hk=>exact rcheck4_x op a b c m s aq rl hf m1 m2 hk
 | 5,hf,_,hk=>exact rcheck5_x op a b c m s aq rl hf m1 m2 hk
 | 6,hf,_,hk=>exact rcheck6_x op a b c m s aq rl hf m1 m2 hk
 | 7,hf,_,hk=>exact rcheck7_x op a b c m s aq rl hf m1 m2 hk
 | 8,hf,_,hk=>exact rcheck8_x op a b c m s aq rl hf m1 m2 hk
 | 9,hf,_,hk=>exact rcheck9_x op a b c m s aq rl hf m1 m2 hk
 | 10,hf,_,hk=>exact rcheck10_x op a b c m s aq rl hf m1 m2 hk
 | 11,hf,_,hk=>exact rcheck11_x op a b c m s aq rl hf m1 m2 hk
 | 12,hf,_,hk=>exact rcheck12_x op a b c m s aq rl hf m1 m2 hk
 | 13,hf,_,hk=>exact rcheck13_x op a b c m s aq rl hf m1 m2 hk
 | 14,hf,_,hk=>exact rcheck14_x op a b c m s aq rl hf m1 m2 hk
 | f+15,_,hl,_=>exact absurd hl (by omega)
end
end Go.Proofs.YtdhkjcdneidgaaaGreatDoor
