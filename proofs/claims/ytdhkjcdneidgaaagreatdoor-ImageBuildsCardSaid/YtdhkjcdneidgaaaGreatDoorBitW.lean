/-
  Words by their bits: the document's.
-/
import Derived.Test.YtdhkjcdneidgaaaGreatDoorAsM
import Derived.Test.YtdhkjcdneidgaaaGreatDoorLinS
import Derived.Test.YtdhkjcdneidgaaaGreatDoorPgB
set_option linter.unusedSimpArgs false
set_option linter.unusedVariables false
set_option maxHeartbeats 8000000
set_option maxRecDepth 10000
set_option linter.unusedSimpArgs false
set_option linter.unusedVariables false
namespace Go.Proofs.YtdhkjcdneidgaaaGreatDoor
open Go Go.Mid Go.RowKit
attribute [local irreducible] mid
section
variable {h:Hp} {K:Value→Hp→Prop}
theorem has0_x (c:UInt8) (hk:K (.bool (([]:Str).contains c)) h):X Tryz.prog 121 #[.string (bs []),.int .u8 c.toNat] h K:=by
 refine fnv (args:=_) mixed [] [] [] Tryz.func121 rfl (by kernel_rfl) (cw_ ?_)
 iterate 13 (refine seq_false (by decide) ?_;conv=>whnf)
 refine loop_step (cw_ ?_)
 exact hk
theorem has1_x (c:UInt8) (hk:K (.bool (([100,49,50]:Str).contains c)) h):X Tryz.prog 121 #[.string (bs [82]),.int .u8 c.toNat] h K:=by
 have n100:(100:UInt8).toNat=100:=rfl
 have n49:(49:UInt8).toNat=49:=rfl
 have n50:(50:UInt8).toNat=50:=rfl
 refine fnv (args:=_) mixed [] [] [] Tryz.func121 rfl (by kernel_rfl) (cw_ ?_)
 refine seq_true (rfl) (cw_ ?_)
 refine loop_step (cw_ ?_)
 refine ch_intro (l:=[100,49,50]) 100 (by decide) rfl (cw_ ?_)
 refine br_ (fun q0=>?_) fun q0=>?_
 ·obtain rfl:c=100:=UInt8.toNat_inj.1 (by omega)
  conv=>whnf
  exact hk
 conv=>whnf
 refine n_ ?_
 refine loop_step (cw_ ?_)
 refine ch_intro (l:=[100,49,50]) 49 (by decide) rfl (cw_ ?_)
 refine br_ (fun q1=>?_) fun q1=>?_
 ·obtain rfl:c=49:=UInt8.toNat_inj.1 (by omega)
  conv=>whnf
  exact hk
 conv=>whnf
 refine n_ ?_
 refine loop_step (cw_ ?_)
 refine ch_intro (l:=[100,49,50]) 50 (by decide) rfl (cw_ ?_)
 refine br_ (fun q2=>?_) fun q2=>?_
 ·obtain rfl:c=50:=UInt8.toNat_inj.1 (by omega)
  conv=>whnf
  exact hk
 conv=>whnf
 refine n_ ?_
 refine loop_step (cw_ ?_)
 exact kq hk (bI (by
  cases hc:([100,49,50]:Str).contains c with
  | false=>rfl
  | true =>
   have hm:=List.contains_iff_mem.1 hc
   simp only [List.mem_cons,List.not_mem_nil,or_false] at hm
   rcases hm with rfl | rfl | rfl
   ·exact absurd rfl q0
   ·exact absurd rfl q1
   ·exact absurd rfl q2))
theorem has2_x (c:UInt8) (hk:K (.bool (([100,49,105]:Str).contains c)) h):X Tryz.prog 121 #[.string (bs [73]),.int .u8 c.toNat] h K:=by
 have n100:(100:UInt8).toNat=100:=rfl
 have n49:(49:UInt8).toNat=49:=rfl
 have n105:(105:UInt8).toNat=105:=rfl
 refine fnv (args:=_) mixed [] [] [] Tryz.func121 rfl (by kernel_rfl) (cw_ ?_)
 refine seq_false ((by decide)) (cw_ ?_)
 refine seq_true (rfl) (cw_ ?_)
 refine loop_step (cw_ ?_)
 refine ch_intro (l:=[100,49,105]) 100 (by decide) rfl (cw_ ?_)
 refine br_ (fun q0=>?_) fun q0=>?_
 ·obtain rfl:c=100:=UInt8.toNat_inj.1 (by omega)
  conv=>whnf
  exact hk
 conv=>whnf
 refine n_ ?_
 refine loop_step (cw_ ?_)
 refine ch_intro (l:=[100,49,105]) 49 (by decide) rfl (cw_ ?_)
 refine br_ (fun q1=>?_) fun q1=>?_
 ·obtain rfl:c=49:=UInt8.toNat_inj.1 (by omega)
  conv=>whnf
  exact hk
 conv=>whnf
 refine n_ ?_
 refine loop_step (cw_ ?_)
 refine ch_intro (l:=[100,49,105]) 105 (by decide) rfl (cw_ ?_)
 refine br_ (fun q2=>?_) fun q2=>?_
 ·obtain rfl:c=105:=UInt8.toNat_inj.1 (by omega)
  conv=>whnf
  exact hk
 conv=>whnf
 refine n_ ?_
 refine loop_step (cw_ ?_)
 exact kq hk (bI (by
  cases hc:([100,49,105]:Str).contains c with
  | false=>rfl
  | true =>
   have hm:=List.contains_iff_mem.1 hc
   simp only [List.mem_cons,List.not_mem_nil,or_false] at hm
   rcases hm with rfl | rfl | rfl
   ·exact absurd rfl q0
   ·exact absurd rfl q1
   ·exact absurd rfl q2))
theorem has3_x (c:UInt8) (hk:K (.bool (([49,50,105]:Str).contains c)) h):X Tryz.prog 121 #[.string (bs [83]),.int .u8 c.toNat] h K:=by
 have n49:(49:UInt8).toNat=49:=rfl
 have n50:(50:UInt8).toNat=50:=rfl
 have n105:(105:UInt8).toNat=105:=rfl
 refine fnv (args:=_) mixed [] [] [] Tryz.func121 rfl (by kernel_rfl) (cw_ ?_)
 iterate 4 (refine seq_false (by decide) ?_;conv=>whnf)
 refine seq_true (rfl) (cw_ ?_)
 refine loop_step (cw_ ?_)
 refine ch_intro (l:=[49,50,105]) 49 (by decide) rfl (cw_ ?_)
 refine br_ (fun q0=>?_) fun q0=>?_
 ·obtain rfl:c=49:=UInt8.toNat_inj.1 (by omega)
  conv=>whnf
  exact hk
 conv=>whnf
 refine n_ ?_
 refine loop_step (cw_ ?_)
 refine ch_intro (l:=[49,50,105]) 50 (by decide) rfl (cw_ ?_)
 refine br_ (fun q1=>?_) fun q1=>?_
 ·obtain rfl:c=50:=UInt8.toNat_inj.1 (by omega)
  conv=>whnf
  exact hk
 conv=>whnf
 refine n_ ?_
 refine loop_step (cw_ ?_)
 refine ch_intro (l:=[49,50,105]) 105 (by decide) rfl (cw_ ?_)
 refine br_ (fun q2=>?_) fun q2=>?_
 ·obtain rfl:c=105:=UInt8.toNat_inj.1 (by omega)
  conv=>whnf
  exact hk
 conv=>whnf
 refine n_ ?_
 refine loop_step (cw_ ?_)
 exact kq hk (bI (by
  cases hc:([49,50,105]:Str).contains c with
  | false=>rfl
  | true =>
   have hm:=List.contains_iff_mem.1 hc
   simp only [List.mem_cons,List.not_mem_nil,or_false] at hm
   rcases hm with rfl | rfl | rfl
   ·exact absurd rfl q0
   ·exact absurd rfl q1
   ·exact absurd rfl q2))
theorem has4_x (c:UInt8) (hk:K (.bool (([49,50,105]:Str).contains c)) h):X Tryz.prog 121 #[.string (bs [66]),.int .u8 c.toNat] h K:=by
 have n49:(49:UInt8).toNat=49:=rfl
 have n50:(50:UInt8).toNat=50:=rfl
 have n105:(105:UInt8).toNat=105:=rfl
 refine fnv (args:=_) mixed [] [] [] Tryz.func121 rfl (by kernel_rfl) (cw_ ?_)
 iterate 5 (refine seq_false (by decide) ?_;conv=>whnf)
 refine seq_true (rfl) (cw_ ?_)
 refine loop_step (cw_ ?_)
 refine ch_intro (l:=[49,50,105]) 49 (by decide) rfl (cw_ ?_)
 refine br_ (fun q0=>?_) fun q0=>?_
 ·obtain rfl:c=49:=UInt8.toNat_inj.1 (by omega)
  conv=>whnf
  exact hk
 conv=>whnf
 refine n_ ?_
 refine loop_step (cw_ ?_)
 refine ch_intro (l:=[49,50,105]) 50 (by decide) rfl (cw_ ?_)
 refine br_ (fun q1=>?_) fun q1=>?_
 ·obtain rfl:c=50:=UInt8.toNat_inj.1 (by omega)
  conv=>whnf
  exact hk
 conv=>whnf
 refine n_ ?_
 refine loop_step (cw_ ?_)
 refine ch_intro (l:=[49,50,105]) 105 (by decide) rfl (cw_ ?_)
 refine br_ (fun q2=>?_) fun q2=>?_
 ·obtain rfl:c=105:=UInt8.toNat_inj.1 (by omega)
  conv=>whnf
  exact hk
 conv=>whnf
 refine n_ ?_
 refine loop_step (cw_ ?_)
 exact kq hk (bI (by
  cases hc:([49,50,105]:Str).contains c with
  | false=>rfl
  | true =>
   have hm:=List.contains_iff_mem.1 hc
   simp only [List.mem_cons,List.not_mem_nil,or_false] at hm
   rcases hm with rfl | rfl | rfl
   ·exact absurd rfl q0
   ·exact absurd rfl q1
   ·exact absurd rfl q2))
theorem has5_x (c:UInt8) (hk:K (.bool (([100,105]:Str).contains c)) h):X Tryz.prog 121 #[.string (bs [85]),.int .u8 c.toNat] h K:=by
 have n100:(100:UInt8).toNat=100:=rfl
 have n105:(105:UInt8).toNat=105:=rfl
 refine fnv (args:=_) mixed [] [] [] Tryz.func121 rfl (by kernel_rfl) (cw_ ?_)
 iterate 6 (refine seq_false (by decide) ?_;conv=>whnf)
 refine seq_true (rfl) (cw_ ?_)
 refine loop_step (cw_ ?_)
 refine ch_intro (l:=[100,105]) 100 (by decide) rfl (cw_ ?_)
 refine br_ (fun q0=>?_) fun q0=>?_
 ·obtain rfl:c=100:=UInt8.toNat_inj.1 (by omega)
  conv=>whnf
  exact hk
 conv=>whnf
 refine n_ ?_
 refine loop_step (cw_ ?_)
 refine ch_intro (l:=[100,105]) 105 (by decide) rfl (cw_ ?_)
 refine br_ (fun q1=>?_) fun q1=>?_
 ·obtain rfl:c=105:=UInt8.toNat_inj.1 (by omega)
  conv=>whnf
  exact hk
 conv=>whnf
 refine n_ ?_
 refine loop_step (cw_ ?_)
 exact kq hk (bI (by
  cases hc:([100,105]:Str).contains c with
  | false=>rfl
  | true =>
   have hm:=List.contains_iff_mem.1 hc
   simp only [List.mem_cons,List.not_mem_nil,or_false] at hm
   rcases hm with rfl | rfl
   ·exact absurd rfl q0
   ·exact absurd rfl q1))
theorem has6_x (c:UInt8) (hk:K (.bool (([100,105]:Str).contains c)) h):X Tryz.prog 121 #[.string (bs [74]),.int .u8 c.toNat] h K:=by
 have n100:(100:UInt8).toNat=100:=rfl
 have n105:(105:UInt8).toNat=105:=rfl
 refine fnv (args:=_) mixed [] [] [] Tryz.func121 rfl (by kernel_rfl) (cw_ ?_)
 iterate 7 (refine seq_false (by decide) ?_;conv=>whnf)
 refine seq_true (rfl) (cw_ ?_)
 refine loop_step (cw_ ?_)
 refine ch_intro (l:=[100,105]) 100 (by decide) rfl (cw_ ?_)
 refine br_ (fun q0=>?_) fun q0=>?_
 ·obtain rfl:c=100:=UInt8.toNat_inj.1 (by omega)
  conv=>whnf
  exact hk
 conv=>whnf
 refine n_ ?_
 refine loop_step (cw_ ?_)
 refine ch_intro (l:=[100,105]) 105 (by decide) rfl (cw_ ?_)
 refine br_ (fun q1=>?_) fun q1=>?_
 ·obtain rfl:c=105:=UInt8.toNat_inj.1 (by omega)
  conv=>whnf
  exact hk
 conv=>whnf
 refine n_ ?_
 refine loop_step (cw_ ?_)
 exact kq hk (bI (by
  cases hc:([100,105]:Str).contains c with
  | false=>rfl
  | true =>
   have hm:=List.contains_iff_mem.1 hc
   simp only [List.mem_cons,List.not_mem_nil,or_false] at hm
   rcases hm with rfl | rfl
   ·exact absurd rfl q0
   ·exact absurd rfl q1))
theorem has7_x (c:UInt8) (hk:K (.bool (([100,49,105]:Str).contains c)) h):X Tryz.prog 121 #[.string (bs [83,104,105,102,116]),.int .u8 c.toNat] h K:=by
 have n100:(100:UInt8).toNat=100:=rfl
 have n49:(49:UInt8).toNat=49:=rfl
 have n105:(105:UInt8).toNat=105:=rfl
 refine fnv (args:=_) mixed [] [] [] Tryz.func121 rfl (by kernel_rfl) (cw_ ?_)
 iterate 2 (refine seq_false (by decide) ?_;conv=>whnf)
 refine seq_true (rfl) (cw_ ?_)
 refine loop_step (cw_ ?_)
 refine ch_intro (l:=[100,49,105]) 100 (by decide) rfl (cw_ ?_)
 refine br_ (fun q0=>?_) fun q0=>?_
 ·obtain rfl:c=100:=UInt8.toNat_inj.1 (by omega)
  conv=>whnf
  exact hk
 conv=>whnf
 refine n_ ?_
 refine loop_step (cw_ ?_)
 refine ch_intro (l:=[100,49,105]) 49 (by decide) rfl (cw_ ?_)
 refine br_ (fun q1=>?_) fun q1=>?_
 ·obtain rfl:c=49:=UInt8.toNat_inj.1 (by omega)
  conv=>whnf
  exact hk
 conv=>whnf
 refine n_ ?_
 refine loop_step (cw_ ?_)
 refine ch_intro (l:=[100,49,105]) 105 (by decide) rfl (cw_ ?_)
 refine br_ (fun q2=>?_) fun q2=>?_
 ·obtain rfl:c=105:=UInt8.toNat_inj.1 (by omega)
  conv=>whnf
  exact hk
 conv=>whnf
 refine n_ ?_
 refine loop_step (cw_ ?_)
 exact kq hk (bI (by
  cases hc:([100,49,105]:Str).contains c with
  | false=>rfl
  | true =>
   have hm:=List.contains_iff_mem.1 hc
   simp only [List.mem_cons,List.not_mem_nil,or_false] at hm
   rcases hm with rfl | rfl | rfl
   ·exact absurd rfl q0
   ·exact absurd rfl q1
   ·exact absurd rfl q2))
theorem has8_x (c:UInt8) (hk:K (.bool (([100,49,105]:Str).contains c)) h):X Tryz.prog 121 #[.string (bs [83,104,105,102,116,87]),.int .u8 c.toNat] h K:=by
 have n100:(100:UInt8).toNat=100:=rfl
 have n49:(49:UInt8).toNat=49:=rfl
 have n105:(105:UInt8).toNat=105:=rfl
 refine fnv (args:=_) mixed [] [] [] Tryz.func121 rfl (by kernel_rfl) (cw_ ?_)
 iterate 3 (refine seq_false (by decide) ?_;conv=>whnf)
 refine seq_true (rfl) (cw_ ?_)
 refine loop_step (cw_ ?_)
 refine ch_intro (l:=[100,49,105]) 100 (by decide) rfl (cw_ ?_)
 refine br_ (fun q0=>?_) fun q0=>?_
 ·obtain rfl:c=100:=UInt8.toNat_inj.1 (by omega)
  conv=>whnf
  exact hk
 conv=>whnf
 refine n_ ?_
 refine loop_step (cw_ ?_)
 refine ch_intro (l:=[100,49,105]) 49 (by decide) rfl (cw_ ?_)
 refine br_ (fun q1=>?_) fun q1=>?_
 ·obtain rfl:c=49:=UInt8.toNat_inj.1 (by omega)
  conv=>whnf
  exact hk
 conv=>whnf
 refine n_ ?_
 refine loop_step (cw_ ?_)
 refine ch_intro (l:=[100,49,105]) 105 (by decide) rfl (cw_ ?_)
 refine br_ (fun q2=>?_) fun q2=>?_
 ·obtain rfl:c=105:=UInt8.toNat_inj.1 (by omega)
  conv=>whnf
  exact hk
 conv=>whnf
 refine n_ ?_
 refine loop_step (cw_ ?_)
 exact kq hk (bI (by
  cases hc:([100,49,105]:Str).contains c with
  | false=>rfl
  | true =>
   have hm:=List.contains_iff_mem.1 hc
   simp only [List.mem_cons,List.not_mem_nil,or_false] at hm
   rcases hm with rfl | rfl | rfl
   ·exact absurd rfl q0
   ·exact absurd rfl q1
   ·exact absurd rfl q2))
theorem has9_x (c:UInt8) (hk:K (.bool (([100,49,99]:Str).contains c)) h):X Tryz.prog 121 #[.string (bs [67,115,114]),.int .u8 c.toNat] h K:=by
 have n100:(100:UInt8).toNat=100:=rfl
 have n49:(49:UInt8).toNat=49:=rfl
 have n99:(99:UInt8).toNat=99:=rfl
 refine fnv (args:=_) mixed [] [] [] Tryz.func121 rfl (by kernel_rfl) (cw_ ?_)
 iterate 8 (refine seq_false (by decide) ?_;conv=>whnf)
 refine seq_true (rfl) (cw_ ?_)
 refine loop_step (cw_ ?_)
 refine ch_intro (l:=[100,49,99]) 100 (by decide) rfl (cw_ ?_)
 refine br_ (fun q0=>?_) fun q0=>?_
 ·obtain rfl:c=100:=UInt8.toNat_inj.1 (by omega)
  conv=>whnf
  exact hk
 conv=>whnf
 refine n_ ?_
 refine loop_step (cw_ ?_)
 refine ch_intro (l:=[100,49,99]) 49 (by decide) rfl (cw_ ?_)
 refine br_ (fun q1=>?_) fun q1=>?_
 ·obtain rfl:c=49:=UInt8.toNat_inj.1 (by omega)
  conv=>whnf
  exact hk
 conv=>whnf
 refine n_ ?_
 refine loop_step (cw_ ?_)
 refine ch_intro (l:=[100,49,99]) 99 (by decide) rfl (cw_ ?_)
 refine br_ (fun q2=>?_) fun q2=>?_
 ·obtain rfl:c=99:=UInt8.toNat_inj.1 (by omega)
  conv=>whnf
  exact hk
 conv=>whnf
 refine n_ ?_
 refine loop_step (cw_ ?_)
 exact kq hk (bI (by
  cases hc:([100,49,99]:Str).contains c with
  | false=>rfl
  | true =>
   have hm:=List.contains_iff_mem.1 hc
   simp only [List.mem_cons,List.not_mem_nil,or_false] at hm
   rcases hm with rfl | rfl | rfl
   ·exact absurd rfl q0
   ·exact absurd rfl q1
   ·exact absurd rfl q2))
theorem has10_x (c:UInt8) (hk:K (.bool (([100,49,99]:Str).contains c)) h):X Tryz.prog 121 #[.string (bs [67,115,114,73]),.int .u8 c.toNat] h K:=by
 have n100:(100:UInt8).toNat=100:=rfl
 have n49:(49:UInt8).toNat=49:=rfl
 have n99:(99:UInt8).toNat=99:=rfl
 refine fnv (args:=_) mixed [] [] [] Tryz.func121 rfl (by kernel_rfl) (cw_ ?_)
 iterate 9 (refine seq_false (by decide) ?_;conv=>whnf)
 refine seq_true (rfl) (cw_ ?_)
 refine loop_step (cw_ ?_)
 refine ch_intro (l:=[100,49,99]) 100 (by decide) rfl (cw_ ?_)
 refine br_ (fun q0=>?_) fun q0=>?_
 ·obtain rfl:c=100:=UInt8.toNat_inj.1 (by omega)
  conv=>whnf
  exact hk
 conv=>whnf
 refine n_ ?_
 refine loop_step (cw_ ?_)
 refine ch_intro (l:=[100,49,99]) 49 (by decide) rfl (cw_ ?_)
 refine br_ (fun q1=>?_) fun q1=>?_
 ·obtain rfl:c=49:=UInt8.toNat_inj.1 (by omega)
  conv=>whnf
  exact hk
 conv=>whnf
 refine n_ ?_
 refine loop_step (cw_ ?_)
 refine ch_intro (l:=[100,49,99]) 99 (by decide) rfl (cw_ ?_)
 refine br_ (fun q2=>?_) fun q2=>?_
 ·obtain rfl:c=99:=UInt8.toNat_inj.1 (by omega)
  conv=>whnf
  exact hk
 conv=>whnf
 refine n_ ?_
 refine loop_step (cw_ ?_)
 exact kq hk (bI (by
  cases hc:([100,49,99]:Str).contains c with
  | false=>rfl
  | true =>
   have hm:=List.contains_iff_mem.1 hc
   simp only [List.mem_cons,List.not_mem_nil,or_false] at hm
   rcases hm with rfl | rfl | rfl
   ·exact absurd rfl q0
   ·exact absurd rfl q1
   ·exact absurd rfl q2))
theorem has11_x (c:UInt8) (hk:K (.bool (([100,49,50,113]:Str).contains c)) h):X Tryz.prog 121 #[.string (bs [65]),.int .u8 c.toNat] h K:=by
 have n100:(100:UInt8).toNat=100:=rfl
 have n49:(49:UInt8).toNat=49:=rfl
 have n50:(50:UInt8).toNat=50:=rfl
 have n113:(113:UInt8).toNat=113:=rfl
 refine fnv (args:=_) mixed [] [] [] Tryz.func121 rfl (by kernel_rfl) (cw_ ?_)
 iterate 10 (refine seq_false (by decide) ?_;conv=>whnf)
 refine seq_true (rfl) (cw_ ?_)
 refine loop_step (cw_ ?_)
 refine ch_intro (l:=[100,49,50,113]) 100 (by decide) rfl (cw_ ?_)
 refine br_ (fun q0=>?_) fun q0=>?_
 ·obtain rfl:c=100:=UInt8.toNat_inj.1 (by omega)
  conv=>whnf
  exact hk
 conv=>whnf
 refine n_ ?_
 refine loop_step (cw_ ?_)
 refine ch_intro (l:=[100,49,50,113]) 49 (by decide) rfl (cw_ ?_)
 refine br_ (fun q1=>?_) fun q1=>?_
 ·obtain rfl:c=49:=UInt8.toNat_inj.1 (by omega)
  conv=>whnf
  exact hk
 conv=>whnf
 refine n_ ?_
 refine loop_step (cw_ ?_)
 refine ch_intro (l:=[100,49,50,113]) 50 (by decide) rfl (cw_ ?_)
 refine br_ (fun q2=>?_) fun q2=>?_
 ·obtain rfl:c=50:=UInt8.toNat_inj.1 (by omega)
  conv=>whnf
  exact hk
 conv=>whnf
 refine n_ ?_
 refine loop_step (cw_ ?_)
 refine ch_intro (l:=[100,49,50,113]) 113 (by decide) rfl (cw_ ?_)
 refine br_ (fun q3=>?_) fun q3=>?_
 ·obtain rfl:c=113:=UInt8.toNat_inj.1 (by omega)
  conv=>whnf
  exact hk
 conv=>whnf
 refine n_ ?_
 refine loop_step (cw_ ?_)
 exact kq hk (bI (by
  cases hc:([100,49,50,113]:Str).contains c with
  | false=>rfl
  | true =>
   have hm:=List.contains_iff_mem.1 hc
   simp only [List.mem_cons,List.not_mem_nil,or_false] at hm
   rcases hm with rfl | rfl | rfl | rfl
   ·exact absurd rfl q0
   ·exact absurd rfl q1
   ·exact absurd rfl q2
   ·exact absurd rfl q3))
theorem has12_x (c:UInt8) (hk:K (.bool (([100,49,113]:Str).contains c)) h):X Tryz.prog 121 #[.string (bs [76,114]),.int .u8 c.toNat] h K:=by
 have n100:(100:UInt8).toNat=100:=rfl
 have n49:(49:UInt8).toNat=49:=rfl
 have n113:(113:UInt8).toNat=113:=rfl
 refine fnv (args:=_) mixed [] [] [] Tryz.func121 rfl (by kernel_rfl) (cw_ ?_)
 iterate 11 (refine seq_false (by decide) ?_;conv=>whnf)
 refine seq_true (rfl) (cw_ ?_)
 refine loop_step (cw_ ?_)
 refine ch_intro (l:=[100,49,113]) 100 (by decide) rfl (cw_ ?_)
 refine br_ (fun q0=>?_) fun q0=>?_
 ·obtain rfl:c=100:=UInt8.toNat_inj.1 (by omega)
  conv=>whnf
  exact hk
 conv=>whnf
 refine n_ ?_
 refine loop_step (cw_ ?_)
 refine ch_intro (l:=[100,49,113]) 49 (by decide) rfl (cw_ ?_)
 refine br_ (fun q1=>?_) fun q1=>?_
 ·obtain rfl:c=49:=UInt8.toNat_inj.1 (by omega)
  conv=>whnf
  exact hk
 conv=>whnf
 refine n_ ?_
 refine loop_step (cw_ ?_)
 refine ch_intro (l:=[100,49,113]) 113 (by decide) rfl (cw_ ?_)
 refine br_ (fun q2=>?_) fun q2=>?_
 ·obtain rfl:c=113:=UInt8.toNat_inj.1 (by omega)
  conv=>whnf
  exact hk
 conv=>whnf
 refine n_ ?_
 refine loop_step (cw_ ?_)
 exact kq hk (bI (by
  cases hc:([100,49,113]:Str).contains c with
  | false=>rfl
  | true =>
   have hm:=List.contains_iff_mem.1 hc
   simp only [List.mem_cons,List.not_mem_nil,or_false] at hm
   rcases hm with rfl | rfl | rfl
   ·exact absurd rfl q0
   ·exact absurd rfl q1
   ·exact absurd rfl q2))
theorem has13_x (c:UInt8) (hk:K (.bool (([]:Str).contains c)) h):X Tryz.prog 121 #[.string (bs [66,97,114,101]),.int .u8 c.toNat] h K:=by
 refine fnv (args:=_) mixed [] [] [] Tryz.func121 rfl (by kernel_rfl) (cw_ ?_)
 iterate 13 (refine seq_false (by decide) ?_;conv=>whnf)
 refine loop_step (cw_ ?_)
 exact hk
theorem has14_x (c:UInt8) (hk:K (.bool (([49,50]:Str).contains c)) h):X Tryz.prog 121 #[.string (bs [83,102,101,110,99,101]),.int .u8 c.toNat] h K:=by
 have n49:(49:UInt8).toNat=49:=rfl
 have n50:(50:UInt8).toNat=50:=rfl
 refine fnv (args:=_) mixed [] [] [] Tryz.func121 rfl (by kernel_rfl) (cw_ ?_)
 iterate 12 (refine seq_false (by decide) ?_;conv=>whnf)
 refine seq_true (rfl) (cw_ ?_)
 refine loop_step (cw_ ?_)
 refine ch_intro (l:=[49,50]) 49 (by decide) rfl (cw_ ?_)
 refine br_ (fun q0=>?_) fun q0=>?_
 ·obtain rfl:c=49:=UInt8.toNat_inj.1 (by omega)
  conv=>whnf
  exact hk
 conv=>whnf
 refine n_ ?_
 refine loop_step (cw_ ?_)
 refine ch_intro (l:=[49,50]) 50 (by decide) rfl (cw_ ?_)
 refine br_ (fun q1=>?_) fun q1=>?_
 ·obtain rfl:c=50:=UInt8.toNat_inj.1 (by omega)
  conv=>whnf
  exact hk
 conv=>whnf
 refine n_ ?_
 refine loop_step (cw_ ?_)
 exact kq hk (bI (by
  cases hc:([49,50]:Str).contains c with
  | false=>rfl
  | true =>
   have hm:=List.contains_iff_mem.1 hc
   simp only [List.mem_cons,List.not_mem_nil,or_false] at hm
   rcases hm with rfl | rfl
   ·exact absurd rfl q0
   ·exact absurd rfl q1))
theorem has_x (f:Nat) (hf:f<15) (j:Nat) (hj:j<6) (hk:K (.bool ((fieldsL.getD f []).getD j false)) h):X Tryz.prog 121 #[.string (bs (fmtS.getD f [])),.int .u8 (([100,49,50,105,99,113]:List Nat).getD j 0:Nat)] h K:=by
 match f,hf,j,hj,hk with
 | 0,_,0,_,hk=>exact has0_x 100 hk
 | 0,_,1,_,hk=>exact has0_x 49 hk
 | 0,_,2,_,hk=>exact has0_x 50 hk
 | 0,_,3,_,hk=>exact has0_x 105 hk
 | 0,_,4,_,hk=>exact has0_x 99 hk
 | 0,_,5,_,hk=>exact has0_x 113 hk
 | 1,_,0,_,hk=>exact has1_x 100 hk
 | 1,_,1,_,hk=>exact has1_x 49 hk
 | 1,_,2,_,hk=>exact has1_x 50 hk
 | 1,_,3,_,hk=>exact has1_x 105 hk
 | 1,_,4,_,hk=>exact has1_x 99 hk
 | 1,_,5,_,hk=>exact has1_x 113 hk
 | 2,_,0,_,hk=>exact has2_x 100 hk
 | 2,_,1,_,hk=>exact has2_x 49 hk
 | 2,_,2,_,hk=>exact has2_x 50 hk
 | 2,_,3,_,hk=>exact has2_x 105 hk
 | 2,_,4,_,hk=>exact has2_x 99 hk
 | 2,_,5,_,hk=>exact has2_x 113 hk
 | 3,_,0,_,hk=>exact has3_x 100 hk
 | 3,_,1,_,hk=>exact has3_x 49 hk
 | 3,_,2,_,hk=>exact has3_x 50 hk
 | 3,_,3,_,hk=>exact has3_x 105 hk
 | 3,_,4,_,hk=>exact has3_x 99 hk
 | 3,_,5,_,hk=>exact has3_x 113 hk
 | 4,_,0,_,hk=>exact has4_x 100 hk
 | 4,_,1,_,hk=>exact has4_x 49 hk
 | 4,_,2,_,hk=>exact has4_x 50 hk
 | 4,_,3,_,hk=>exact has4_x 105 hk
 | 4,_,4,_,hk=>exact has4_x 99 hk
 | 4,_,5,_,hk=>exact has4_x 113 hk
 | 5,_,0,_,hk=>exact has5_x 100 hk
 | 5,_,1,_,hk=>exact has5_x 49 hk
 | 5,_,2,_,hk=>exact has5_x 50 hk
 | 5,_,3,_,hk=>exact has5_x 105 hk
 | 5,_,4,_,hk=>exact has5_x 99 hk
 | 5,_,5,_,hk=>exact has5_x 113 hk
 | 6,_,0,_,hk=>exact has6_x 100 hk
 | 6,_,1,_,hk=>exact has6_x 49 hk
 | 6,_,2,_,hk=>exact has6_x 50 hk
 | 6,_,3,_,hk=>exact has6_x 105 hk
 | 6,_,4,_,hk=>exact has6_x 99 hk
 | 6,_,5,_,hk=>exact has6_x 113 hk
 | 7,_,0,_,hk=>exact has7_x 100 hk
 | 7,_,1,_,hk=>exact has7_x 49 hk
 | 7,_,2,_,hk=>exact has7_x 50 hk
 | 7,_,3,_,hk=>exact has7_x 105 hk
 | 7,_,4,_,hk=>exact has7_x 99 hk
 | 7,_,5,_,hk=>exact has7_x 113 hk
 | 8,_,0,_,hk=>exact has8_x 100 hk
 | 8,_,1,_,hk=>exact has8_x 49 hk
 | 8,_,2,_,hk=>exact has8_x 50 hk
 | 8,_,3,_,hk=>exact has8_x 105 hk
 | 8,_,4,_,hk=>exact has8_x 99 hk
 | 8,_,5,_,hk=>exact has8_x 113 hk
 | 9,_,0,_,hk=>exact has9_x 100 hk
 | 9,_,1,_,hk=>exact has9_x 49 hk
 | 9,_,2,_,hk=>exact has9_x 50 hk
 | 9,_,3,_,hk=>exact has9_x 105 hk
 | 9,_,4,_,hk=>exact has9_x 99 hk
 | 9,_,5,_,hk=>exact has9_x 113 hk
 | 10,_,0,_,hk=>exact has10_x 100 hk
 | 10,_,1,_,hk=>exact has10_x 49 hk
 | 10,_,2,_,hk=>exact has10_x 50 hk
 | 10,_,3,_,hk=>exact has10_x 105 hk
 | 10,_,4,_,hk=>exact has10_x 99 hk
 | 10,_,5,_,hk=>exact has10_x 113 hk
 | 11,_,0,_,hk=>exact has11_x 100 hk
 | 11,_,1,_,hk=>exact has11_x 49 hk
 | 11,_,2,_,hk=>exact has11_x 50 hk
 | 11,_,3,_,hk=>exact has11_x 105 hk
 | 11,_,4,_,hk=>exact has11_x 99 hk
 | 11,_,5,_,hk=>exact has11_x 113 hk
 | 12,_,0,_,hk=>exact has12_x 100 hk
 | 12,_,1,_,hk=>exact has12_x 49 hk
 | 12,_,2,_,hk=>exact has12_x 50 hk
 | 12,_,3,_,hk=>exact has12_x 105 hk
 | 12,_,4,_,hk=>exact has12_x 99 hk
 | 12,_,5,_,hk=>exact has12_x 113 hk
 | 13,_,0,_,hk=>exact has13_x 100 hk
 | 13,_,1,_,hk=>exact has13_x 49 hk
 | 13,_,2,_,hk=>exact has13_x 50 hk
 | 13,_,3,_,hk=>exact has13_x 105 hk
 | 13,_,4,_,hk=>exact has13_x 99 hk
 | 13,_,5,_,hk=>exact has13_x 113 hk
 | 14,_,0,_,hk=>exact has14_x 100 hk
 | 14,_,1,_,hk=>exact has14_x 49 hk
 | 14,_,2,_,hk=>exact has14_x 50 hk
 | 14,_,3,_,hk=>exact has14_x 105 hk
 | 14,_,4,_,hk=>exact has14_x 99 hk
 | 14,_,5,_,hk=>exact has14_x 113 hk
 | f+15,hf,_,_,_=>exact absurd hf (by omega)
 | _,_,j+6,hj,_=>exact absurd hj (by omega)
end
end Go.Proofs.YtdhkjcdneidgaaaGreatDoor
namespace Go.Proofs.YtdhkjcdneidgaaaGreatDoor
open Go Go.Mid Go.RowKit Go.Bits
attribute [local irreducible] mid
abbrev uv (n:Nat):Value:=.int .u64 n
section
variable {h:Hp} {K:Value→Hp→Prop}
theorem aggU64:isAggT Tryz.prog 25=some false:=by kernel_rfl
theorem infU64:Tryz.prog.info? 25=some Tryz.prog.types[25]:=by kernel_rfl
theorem rbit_x (w:Nat) (i:Int) (hw:w<2 ^ 64) (hi:i≤63) (hk:K (uv (if 0≤i then bitN w i.toNat else 0)) h):X Tryz.prog 68 #[uv w,.int .i64 i] h K:=by
 by_cases h0:0≤i
 ·rw [if_pos h0] at hk
  refine fnv (args:=_) mixed [] [] [] Tryz.func68 rfl (by kernel_rfl) (cw_ ?_)
  refine bf_ ?_
  refine bf_ ?_
  refine loop_at [5,0] [] (fun r vs _ h'=>h=h'∧∃ k:Nat,k≤i.toNat∧r=i.toNat - k∧vs=[.v (.int .i64 k),.v (uv (w / 2 ^ k))]) i.toNat ⟨rfl,0,by omega,by omega,by rw [show w / 2 ^ 0=w by simp];rfl⟩ ?_
  rintro r vs cs mm bx _ ⟨rfl,k,hk1,rfl,rfl⟩
  conv=>whnf
  have hwk2:w / 2 ^ k≤w:=Nat.div_le_self _ _
  have hwk4:w / 2 ^ (k+1)≤w:=Nat.div_le_self _ _
  refine br_ (fun h1=>?_) fun h1=>?_
  ·conv=>whnf
   have e1:((w / 2 ^ k:Nat):Int).tdiv 2=((w / 2 ^ (k+1):Nat):Int):=by rw [Int.tdiv_eq_ediv_of_nonneg (Int.natCast_nonneg _),Nat.pow_succ,← Nat.div_div_eq_div_mul];rfl
   rw [e1]
   generalize hq:w / 2 ^ (k+1)=q at *
   have hq2:q<18446744073709551616:=by omega
   refine ov_u64 (by omega) (cw_ ?_)
   refine n_ ?_
   exact ⟨i.toNat - (k+1),by omega,rfl,k+1,by omega,rfl,by rw [hq];rfl⟩
  ·conv=>whnf
   obtain rfl:k=i.toNat:=by omega
   exact kq hk (iI (by rw [Int.tmod_eq_emod_of_nonneg (Int.natCast_nonneg _)];rfl))
 ·rw [if_neg h0] at hk
  refine fnv (args:=_) mixed [] [] [] Tryz.func68 rfl (by kernel_rfl) (cw_ ?_)
  refine bt_ ?_
  exact hk
theorem rof_x {k:Hp} {s:Value} {l:List Nat} (hO:Owns k h 25 1 s l.length (l.map uv)) (hl:l.length≤64) (h1:∀ x ∈ l,x<2) (hk:K (uv (ofL l)) h):X Tryz.prog 102 #[s] h K:=by
 rcases Nat.eq_zero_or_pos l.length with h0 | h0
 ·obtain rfl:l=[]:=List.eq_nil_of_length_eq_zero h0
  obtain ⟨sa,sc,rfl⟩:=hO.shape
  refine fnv (args:=_) mixed [] [] [] Tryz.func102 rfl (by kernel_rfl) (cw_ ?_)
  refine ov_i64 (by simp) (cw_ ?_)
  refine loop_step (cw_ ?_)
  exact hk
 ·obtain ⟨b,cap,rest,rfl,hc,hb,_⟩:=hO.row h0
  refine fnv (args:=_) mixed [] [] [] Tryz.func102 rfl (by kernel_rfl) (cw_ ?_)
  refine n_ ?_
  refine loop_at [4,3] [] (fun r vs _ h'=>h=h'∧r≤l.length∧vs=[.v (.int .i64 ((r:Int) - 1)),.v (uv (ofL (l.drop r)))]) l.length ⟨rfl,Nat.le_refl _,by rw [List.drop_length];rfl⟩ ?_
  rintro r vs cs mm bx _ ⟨rfl,hr,rfl⟩
  conv=>whnf
  refine br_ (fun q1=>?_) fun q1=>?_
  ·obtain ⟨j,rfl⟩:∃ j,r=j+1:=⟨r - 1,by omega⟩
   have hj:j<l.length:=by omega
   obtain ⟨x,hx⟩:∃ x,l[j]? = some x:=⟨_,List.getElem?_eq_getElem hj⟩
   have hx2:=h1 x (List.mem_of_getElem? hx)
   have hcell:(l.map uv++rest)[j]? = some (uv x):=by
    rw [List.getElem?_append_left (by simpa using hj),List.getElem?_map,hx];rfl
   have hd:l.drop j=x :: l.drop (j+1):=by
    rw [List.drop_eq_getElem_cons hj]
    congr 1
    exact (List.getElem?_eq_some_iff.1 hx).2
   have hlt:=ofL_lt (l.drop (j+1)) (fun y hy=>h1 y (List.mem_of_mem_drop hy))
   have hle:2 ^ (l.drop (j+1)).length≤2 ^ 63:=Nat.pow_le_pow_right (by decide) (by rw [List.length_drop];omega)
   have hlt2:ofL (l.drop (j+1))<9223372036854775808:=Nat.lt_of_lt_of_le hlt hle
   conv=>whnf
   refine bt_ ?_
   refine ov_u64 (by omega) (cw_ ?_)
   refine n_ ?_
   refine ⟨_,loadI aggU64 hb (j:=j) (by omega) hcell,cw_ ?_⟩
   refine ov_u64 (by omega) (cw_ ?_)
   refine n_ ?_
   refine ⟨j,by omega,rfl,by omega,?_⟩
   rw [hd]
   show [MV.v _,MV.v _]=_
   rw [show ((j+1:Nat):Int) - 1 - 1=(j:Int) - 1 by omega]
   rfl
  ·obtain rfl:r=0:=by omega
   conv=>whnf
   exact hk
theorem rin_x (a s b:Nat) (ha:a≤64) (hs:s≤64) (hb:b≤64) (hk:K (.tuple #[.int .i64 (if a≤b∧b<a+s then b - a else 0:Nat),.bool (decide (a≤b∧b<a+s))]) h):X Tryz.prog 101 #[.int .i64 a,.int .i64 s,.int .i64 b] h K:=by
 by_cases hc:a≤b∧b<a+s
 ·rw [if_pos hc,decide_eq_true hc] at hk
  refine fnv (args:=_) mixed [] [] [] Tryz.func101 rfl (by kernel_rfl) (cw_ ?_)
  refine bf_ ?_
  refine bf_ ?_
  refine n_ ?_
  refine n_ ?_
  refine n_ ?_
  refine n_ ?_
  refine bf_ ?_
  refine bf_ ?_
  refine n_ ?_
  exact kq hk (by rw [show ((b:Int) - a)=((b - a:Nat):Int) by omega];rfl)
 ·rw [if_neg hc,decide_eq_false hc] at hk
  refine fnv (args:=_) mixed [] [] [] Tryz.func101 rfl (by kernel_rfl) (cw_ ?_)
  refine br_ (fun q1=>?_) fun q1=>?_
  ·conv=>whnf
   exact hk
  ·conv=>whnf
   refine br_ (fun q2=>?_) fun q2=>?_
   ·conv=>whnf
    exact hk
   ·conv=>whnf
    refine n_ ?_
    refine n_ ?_
    refine n_ ?_
    refine n_ ?_
    refine bt_ ?_
    exact hk
def upto (f:Nat→Nat) (i:Nat):List Value:=((List.range i).map f).map uv
theorem upto_succ (f:Nat→Nat) (i:Nat):upto f (i+1)=upto f i++[uv (f i)]:=by
 unfold upto;rw [List.range_succ,List.map_append,List.map_append];rfl
theorem rofU_x {k h:Hp} {s:Value} {f:Nat→Nat} (hO:Owns k h 25 1 s 64 (upto f 64)) (hf:∀ i,f i<2) (hk:K (uv (bitsOf 64 f)) h):X Tryz.prog 102 #[s] h K:=by
 have hl:((List.range 64).map f).length=64:=by simp
 refine rof_x (l:=(List.range 64).map f) (by rw [hl];exact hO) (by rw [hl];exact Nat.le_refl _) (fun x hx=>?_) hk
 obtain ⟨i,_,rfl⟩:=List.mem_map.1 hx
 exact hf i
theorem rput_x (w a s n:Nat) (hw:w<2 ^ 64) (hn:n<2 ^ 64) (ha:a≤63) (hs:s≤64) (hk:K (uv (putN w a s n)) h):X Tryz.prog 72 #[uv w,.int .i64 a,.int .i64 s,uv n] h K:=by
 refine X.forget ?_
 have hf:∀ i,(if a≤i∧i<a+s then bitN n (i - a) else bitN w i)<2:=fun i=>by split <;> exact bitN_lt _ _
 refine fnv (args:=_) mixed [] [] [] Tryz.func72 rfl (by kernel_rfl) (cw_ ?_)
 refine loop_at [10,9] [] (fun r vs _ h'=>∃ (i:Nat) (sl:Value),i≤64∧r=64 - i∧vs=[.v (.int .i64 i),.v sl]∧Owns h h' 25 1 sl i (upto (fun i=>if a≤i∧i<a+s then bitN n (i - a) else bitN w i) i)) 64
  ⟨0,.slice none 0 0,by omega,rfl,rfl,Owns.nil (Hp.le_refl _)⟩ ?_
 rintro r vs cs mm bx h1 ⟨i,sl,hi,rfl,rfl,hO⟩
 obtain ⟨sa,sc,rfl⟩:=hO.shape
 conv=>whnf
 refine br_ (fun q1=>?_) fun q1=>?_
 ·conv=>whnf
  refine rin_x a s i (by omega) hs (by omega) ?_
  by_cases hc:a≤i∧i<a+s
  ·rw [if_pos hc,decide_eq_true hc]
   conv=>whnf
   refine rbit_x n (i - a:Nat) hn (by omega) ?_
   rw [if_pos (by omega)]
   conv=>whnf
   refine new_intro (o:=rowO 25 [uv (bitN n (i - a))]) (fun y h2 n_y le_y at_y ot_y=>cw_ ?_)
   refine Owns.app1 (z:=.int .u64 0) (by kernel_rfl) infU64 (by kernel_rfl) (by kernel_rfl) (by kernel_rfl) rfl (bytes:=8) (by decide) rfl rfl rfl (hO.up le_y) at_y rfl rfl (by omega) fun s3 h3 hO3=>(cw_ ?_)
   refine n_ ?_
   refine ⟨64 - (i+1),by omega,i+1,s3,by omega,rfl,rfl,?_⟩
   rw [upto_succ]
   simp only [if_pos hc]
   exact hO3
  ·rw [if_neg hc,decide_eq_false hc]
   conv=>whnf
   refine rbit_x w i hw (by omega) ?_
   rw [if_pos (by omega)]
   conv=>whnf
   refine new_intro (o:=rowO 25 [uv (bitN w i)]) (fun y h2 n_y le_y at_y ot_y=>cw_ ?_)
   refine Owns.app1 (z:=.int .u64 0) (by kernel_rfl) infU64 (by kernel_rfl) (by kernel_rfl) (by kernel_rfl) rfl (bytes:=8) (by decide) rfl rfl rfl (hO.up le_y) at_y rfl rfl (by omega) fun s3 h3 hO3=>(cw_ ?_)
   refine n_ ?_
   refine ⟨64 - (i+1),by omega,i+1,s3,by omega,rfl,rfl,?_⟩
   rw [upto_succ]
   simp only [if_neg hc]
   exact hO3
 ·obtain rfl:i=64:=by omega
  conv=>whnf
  refine rofU_x hO hf (cw_ ?_)
  exact ⟨h,hO.le,hk⟩
theorem rsign_x (w s:Nat) (hw:w<2 ^ 64) (h1:1≤s) (hs:s≤64) (hk:K (uv (signN w s)) h):X Tryz.prog 161 #[uv w,.int .i64 s] h K:=by
 refine X.forget ?_
 have hf:∀ i,(if i<s then bitN w i else bitN w (s - 1))<2:=fun i=>by split <;> exact bitN_lt _ _
 refine fnv (args:=_) mixed [] [] [] Tryz.func161 rfl (by kernel_rfl) (cw_ ?_)
 refine bf_ ?_
 refine loop_at [6,5] [] (fun r vs _ h'=>∃ (i:Nat) (sl:Value),i≤64∧r=64 - i∧vs=[.v (.int .i64 i),.v sl]∧Owns h h' 25 1 sl i (upto (fun i=>if i<s then bitN w i else bitN w (s - 1)) i)) 64
  ⟨0,.slice none 0 0,by omega,rfl,rfl,Owns.nil (Hp.le_refl _)⟩ ?_
 rintro r vs cs mm bx h1 ⟨i,sl,hi,rfl,rfl,hO⟩
 obtain ⟨sa,sc,rfl⟩:=hO.shape
 conv=>whnf
 refine br_ (fun q1=>?_) fun q1=>?_
 ·conv=>whnf
  refine br_ (fun q2=>?_) fun q2=>?_
  ·have hc:i<s:=by omega
   conv=>whnf
   refine rbit_x w i hw (by omega) ?_
   rw [if_pos (by omega)]
   conv=>whnf
   refine new_intro (o:=rowO 25 [uv (bitN w i)]) (fun y h2 n_y le_y at_y ot_y=>cw_ ?_)
   refine Owns.app1 (z:=.int .u64 0) (by kernel_rfl) infU64 (by kernel_rfl) (by kernel_rfl) (by kernel_rfl) rfl (bytes:=8) (by decide) rfl rfl rfl (hO.up le_y) at_y rfl rfl (by omega) fun s3 h3 hO3=>(cw_ ?_)
   refine n_ ?_
   refine ⟨64 - (i+1),by omega,i+1,s3,by omega,rfl,rfl,?_⟩
   rw [upto_succ]
   simp only [if_pos hc]
   exact hO3
  ·have hc:¬ i<s:=by omega
   conv=>whnf
   refine n_ ?_
   refine rbit_x w ((s:Int) - 1) hw (by omega) ?_
   rw [if_pos (by omega),show ((s:Int) - 1).toNat=s - 1 by omega]
   conv=>whnf
   refine new_intro (o:=rowO 25 [uv (bitN w (s - 1))]) (fun y h2 n_y le_y at_y ot_y=>cw_ ?_)
   refine Owns.app1 (z:=.int .u64 0) (by kernel_rfl) infU64 (by kernel_rfl) (by kernel_rfl) (by kernel_rfl) rfl (bytes:=8) (by decide) rfl rfl rfl (hO.up le_y) at_y rfl rfl (by omega) fun s3 h3 hO3=>(cw_ ?_)
   refine n_ ?_
   refine ⟨64 - (i+1),by omega,i+1,s3,by omega,rfl,rfl,?_⟩
   rw [upto_succ]
   simp only [if_neg hc]
   exact hO3
 ·obtain rfl:i=64:=by omega
  conv=>whnf
  refine rofU_x hO hf (cw_ ?_)
  exact ⟨h,hO.le,hk⟩
end
end Go.Proofs.YtdhkjcdneidgaaaGreatDoor
