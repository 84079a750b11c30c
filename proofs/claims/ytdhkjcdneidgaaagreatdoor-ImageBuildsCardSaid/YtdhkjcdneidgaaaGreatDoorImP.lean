/-
  Images: what is parsed, plainly.
-/
import Derived.Test.YtdhkjcdneidgaaaGreatDoorAsSp
import Derived.Test.YtdhkjcdneidgaaaGreatDoorAsV
import Derived.Test.YtdhkjcdneidgaaaGreatDoorImA
import Derived.Test.YtdhkjcdneidgaaaGreatDoorAsT
import Derived.Test.YtdhkjcdneidgaaaGreatDoorInsP
set_option linter.unusedSimpArgs false
set_option linter.unusedVariables false
set_option maxHeartbeats 8000000
set_option maxRecDepth 10000
set_option linter.unusedSimpArgs false
set_option linter.unusedVariables false
namespace Go.Proofs.YtdhkjcdneidgaaaGreatDoor
open Go Go.Mid Go.RowKit
abbrev rfXAsW0:Go.Mid.RF:=[(2,2),(6,6),(48,6),(99,6),(103,6),(107,6),(122,6),(135,6),(147,6),(166,6)]
attribute [local irreducible] mid
section
variable {h:Hp} {K:Value→Hp→Prop}
theorem rreg_x (u:Str) (hu:u.length≤2 ^ 40) (hk:K (zv ((Rg.findI u).getD (-1))) h):X Tryz.prog 119 #[.string (bs u)] h K:=by
 refine Rg.rfind_x u (by omega) h K ?_
 have e:Rg.refV u=(Rg.findI u).getD (-1):=by
  unfold Rg.refV
  rw [Rg.find_ref]
  cases Rg.refI u <;> rfl
 rw [e];exact hk
theorem findI_nn {u:Str} {v:Int} (h:Rg.findI u=some v):0≤v:=by
 obtain ⟨k,rfl,_⟩:=Rg.find_some h
 exact Int.natCast_nonneg _
theorem rparse_x (s:Str) (hl:s.length≤2 ^ 40) (hk:K (parsedV (parseA s)) h):X Tryz.prog 85 #[.string (bs s)] h K:=by
 refine X.forget ?_
 unfold parseA at hk
 have hsz:(bs s).size=s.length:=bs_size s
 refine fnv (args:=_) mixed rfXAsW0 [] [] Tryz.func85 rfl (by kernel_rfl) (cw_ ?_)
 refine br_ (fun g1=>?_) fun g1=>?_
 ·rw [if_pos (by omega)] at hk
  conv=>whnf
  exact ⟨h,Hp.le_refl _,hk⟩
 rw [if_neg (by omega)] at hk
 conv=>whnf
 refine br_ (fun g2=>?_) fun g2=>?_
 ·rw [if_pos (List.eq_nil_of_length_eq_zero (by omega))] at hk
  conv=>whnf
  exact ⟨h,Hp.le_refl _,hk⟩
 rw [if_neg (fun e=>g2 (by rw [e];rfl))] at hk
 conv=>whnf
 refine rsplit_x s (by omega) fun sl h1 hO=>?_
 have hlen:(sp [32] s).length≤201:=Nat.le_trans (sp_length [32] s (by decide)) (by omega)
 have hwl:∀ w ∈ sp [32] s,w.length≤2 ^ 40:=fun w hw=>Nat.le_trans (sp_word [32] (by decide) _ s (Nat.le_refl _) w hw) (by omega)
 obtain ⟨w,r,hsp⟩:=sp_first s
 rw [hsp] at hO hk hwl hlen
 replace hk:K (parsedV (if (w :: r).any (·.isEmpty)=true then .error 2 else lineR w r)) h:=by rw [lineR_eq];exact hk
 obtain ⟨bw,cap,rest,rfl,hcap,hw,_⟩:=hO.row (by simp)
 have hle:=hO.le
 clear hO
 have hw0:(((w :: r).map sv)++rest)[0]? = some (sv w):=rfl
 have w0l:w.length≤2 ^ 40:=hwl w (by simp)
 obtain ⟨L,hL⟩:∃ L,L=w :: r:=⟨_,rfl⟩
 rw [← hL] at hw hk hwl hlen hcap ⊢
 have hL1:L.length=r.length+1:=by rw [hL];rfl
 conv=>whnf
 refine loop_at [5] [2] (fun q vs cs h'=>h1=h'∧cs=[some insn0]∧∃ i:Nat,i≤L.length∧q=L.length - i∧vs=[.v (zv i)]∧∀ x ∈ L.take i,x≠[]) L.length ⟨rfl,rfl,0,by omega,by omega,rfl,by simp⟩ ?_
 rintro q vs cs mm bx9 _ ⟨rfl,rfl,i,hi,rfl,rfl,hno⟩
 conv=>whnf
 refine br_ (fun q1=>?_) fun q1=>?_
 ·have hiL:i<L.length:=by omega
  obtain ⟨x,hx⟩:∃ x,L[i]? = some x:=⟨_,List.getElem?_eq_getElem hiL⟩
  conv=>whnf
  refine n_ ?_
  refine ⟨_,loadI aggStr hw rfl (by rw [List.getElem?_append_left (by rw [List.length_map];exact hiL),List.getElem?_map,hx];rfl),?_⟩;conv=>whnf
  by_cases gx:x=[]
  ·have hany:L.any (·.isEmpty)=true:=List.any_eq_true.2 ⟨x,List.mem_of_getElem? hx,by rw [gx];rfl⟩
   rw [if_pos hany] at hk
   refine seq_true (gx) (cw_ ?_)
   exact ⟨h,hle,hk⟩
  ·refine seq_false (gx) (cw_ ?_)
   refine n_ ?_
   refine ⟨L.length - (i+1),by omega,rfl,rfl,i+1,by omega,rfl,rfl,fun y hy=>?_⟩
   rw [List.take_add_one,hx] at hy
   rcases List.mem_append.1 hy with hy | hy
   ·exact hno y hy
   ·simp only [Option.toList_some,List.mem_singleton] at hy;subst hy;exact gx
 have hany:¬ L.any (·.isEmpty)=true:=by
  rw [List.any_eq_true]
  rintro ⟨x,hx,hx2⟩
  exact hno x (by rw [List.take_of_length_le (by omega)];exact hx) (by simpa using hx2)
 rw [if_neg hany] at hk
 clear hno hany
 unfold lineR at hk
 conv=>whnf
 refine n_ ?_
 refine ⟨_,loadI (j:=0) aggStr hw rfl (by rw [hL];rfl),cw_ ?_⟩
 refine rfirst_x w ?_
 unfold firstV
 cases ho:opA w with
 | none =>
  rw [ho] at hk
  simp only at hk
  conv=>whnf
  exact ⟨h,hle,hk⟩
 | some t =>
  obtain ⟨i0,aq,rl⟩:=t
  rw [ho] at hk
  simp only at hk
  have hf15:=fmtN_lt (i0+1:Nat)
  generalize hf:fmtN (i0+1:Nat)=f at hk hf15
  have hof:=order_lt f hf15
  have hom:=order_mem f hf15
  generalize hfs:orderS f=fs at hk hof hom
  have hbz:(bs fs).size=fs.length:=bs_size fs
  conv=>whnf
  refine rfind4_x _ f hf fun o' mk is h2 le2=>?_
  have hw2:=le2 _ _ hw
  have hle2:h.le h2:=Hp.le_trans hle le2
  clear hw hle le2
  conv=>whnf
  refine rorder_x f hf15 ?_
  rw [hfs]
  conv=>whnf
  refine n_ ?_
  by_cases gl:r.length=fs.length
  rotate_left
  ·rw [if_pos gl] at hk
   refine bt_ ?_
   exact ⟨h,hle2,hk⟩
  rw [if_neg (by simpa using gl)] at hk
  refine bf_ ?_
  refine loop_at [11,10] [2,6] (fun q vs cs h'=>h2=h'∧∃ (i:Nat) (y:Ins) (far:Bool),i≤fs.length∧q=fs.length - i∧vs=[.v (zv i),.v (.bool far)]∧cs=[some insn0,some y.cs]∧fieldsR (y,far) (fs.drop i) (r.drop i)=fieldsR (⟨(i0+1:Nat),0,0,0,0,0,aq,rl⟩,false) fs r ∧ -9223372036854775808≤y.m∧y.m≤9223372036854775807) fs.length ⟨rfl,0,⟨(i0+1:Nat),0,0,0,0,0,aq,rl⟩,false,by omega,by omega,rfl,rfl,rfl,(show (-9223372036854775808:Int)≤0 by decide),(show (0:Int)≤9223372036854775807 by decide)⟩ ?_
  rintro q vs cs mm2 bx9 _ ⟨rfl,i,y,far,hi,rfl,rfl,rfl,hR,m1,m2⟩
  conv=>whnf
  refine br_ (fun q1=>?_) fun q1=>?_
  ·have hiL:i<r.length:=by omega
   obtain ⟨u,hu⟩:∃ u,r[i]? = some u:=⟨_,List.getElem?_eq_getElem hiL⟩
   obtain ⟨f',hf'⟩:∃ f',fs[i]? = some f':=⟨_,List.getElem?_eq_getElem (by omega)⟩
   have hdr:r.drop i=u :: r.drop (i+1):=by
    rw [List.drop_eq_getElem_cons hiL]
    congr 1
    exact (List.getElem?_eq_some_iff.1 hu).2
   have hdf:fs.drop i=f' :: fs.drop (i+1):=by
    rw [List.drop_eq_getElem_cons (by omega)]
    congr 1
    exact (List.getElem?_eq_some_iff.1 hf').2
   have hul:u.length≤2 ^ 40:=hwl u (by rw [hL];simp [List.mem_of_getElem? hu])
   have hcm:=hom f' (List.mem_of_getElem? hf')
   have hf2:fs[((i:Nat):Int).toNat]? = some f':=by rw [Int.toNat_natCast];exact hf'
   rw [hdr,hdf,fieldsR_cons] at hR
   conv=>whnf
   refine n_ ?_
   refine n_ ?_
   refine ⟨_,loadI (j:=i+1) aggStr hw2 rfl (by rw [List.getElem?_append_left (by rw [List.length_map];omega),List.getElem?_map,hL,List.getElem?_cons_succ,hu];rfl),?_⟩;conv=>whnf
   conv=>whnf
   rcases hcm with rfl | rfl | rfl | rfl | rfl | rfl | rfl
   ·repeat (refine ch_intro (l:=fs) 100 (by omega) hf2 ?_;(conv=>whnf))
    refine rreg_x u (by omega) ?_
    have hF:fieldR (y,far) 100 u=(match Rg.findI u with | some i=>.ok ({ y with a:=i },far) | none=>.error 9):=rfl
    rw [hF] at hR
    cases hr:Rg.findI u with
    | none =>
     rw [hr] at hR
     have hR:fieldsR (⟨(i0+1:Nat),0,0,0,0,0,aq,rl⟩,false) fs r=.error 9:=hR.symm
     rw [hR] at hk
     conv=>whnf
     exact ⟨h,hle2,hk⟩
    | some v =>
     rw [hr] at hR
     have hv:=findI_nn hr
     have hR:fieldsR ({ y with a:=v },far) (fs.drop (i+1)) (r.drop (i+1))=_:=hR
     conv=>whnf
     refine bf_ ?_
     repeat (refine ch_intro (l:=fs) 100 (by omega) hf2 ?_;(conv=>whnf))
     refine n_ ?_
     exact ⟨fs.length - (i+1),by omega,rfl,i+1,{ y with a:=v },far,by omega,rfl,rfl,rfl,hR,m1,m2⟩
   ·repeat (refine ch_intro (l:=fs) 49 (by omega) hf2 ?_;(conv=>whnf))
    refine rreg_x u (by omega) ?_
    have hF:fieldR (y,far) 49 u=(match Rg.findI u with | some i=>.ok ({ y with b:=i },far) | none=>.error 9):=rfl
    rw [hF] at hR
    cases hr:Rg.findI u with
    | none =>
     rw [hr] at hR
     have hR:fieldsR (⟨(i0+1:Nat),0,0,0,0,0,aq,rl⟩,false) fs r=.error 9:=hR.symm
     rw [hR] at hk
     conv=>whnf
     exact ⟨h,hle2,hk⟩
    | some v =>
     rw [hr] at hR
     have hv:=findI_nn hr
     have hR:fieldsR ({ y with b:=v },far) (fs.drop (i+1)) (r.drop (i+1))=_:=hR
     conv=>whnf
     refine bf_ ?_
     repeat (refine ch_intro (l:=fs) 49 (by omega) hf2 ?_;(conv=>whnf))
     refine n_ ?_
     exact ⟨fs.length - (i+1),by omega,rfl,i+1,{ y with b:=v },far,by omega,rfl,rfl,rfl,hR,m1,m2⟩
   ·repeat (refine ch_intro (l:=fs) 50 (by omega) hf2 ?_;(conv=>whnf))
    refine rreg_x u (by omega) ?_
    have hF:fieldR (y,far) 50 u=(match Rg.findI u with | some i=>.ok ({ y with c:=i },far) | none=>.error 9):=rfl
    rw [hF] at hR
    cases hr:Rg.findI u with
    | none =>
     rw [hr] at hR
     have hR:fieldsR (⟨(i0+1:Nat),0,0,0,0,0,aq,rl⟩,false) fs r=.error 9:=hR.symm
     rw [hR] at hk
     conv=>whnf
     exact ⟨h,hle2,hk⟩
    | some v =>
     rw [hr] at hR
     have hv:=findI_nn hr
     have hR:fieldsR ({ y with c:=v },far) (fs.drop (i+1)) (r.drop (i+1))=_:=hR
     conv=>whnf
     refine bf_ ?_
     repeat (refine ch_intro (l:=fs) 50 (by omega) hf2 ?_;(conv=>whnf))
     refine n_ ?_
     exact ⟨fs.length - (i+1),by omega,rfl,i+1,{ y with c:=v },far,by omega,rfl,rfl,rfl,hR,m1,m2⟩
   ·repeat (refine ch_intro (l:=fs) 105 (by omega) hf2 ?_;(conv=>whnf))
    refine rnumber_x u (by omega) ?_
    have hF:fieldR (y,far) 105 u=(match numA u with | some n=>.ok ({ y with m:=n },far) | none=>.error 2):=rfl
    rw [hF] at hR
    cases hr:numA u with
    | none =>
     rw [hr] at hR
     have hR:fieldsR (⟨(i0+1:Nat),0,0,0,0,0,aq,rl⟩,false) fs r=.error 2:=hR.symm
     rw [hR] at hk
     conv=>whnf
     exact ⟨h,hle2,hk⟩
    | some v =>
     rw [hr] at hR
     obtain ⟨v1,v2⟩:=numA_rng hr
     simp only at hR
     rw [show okV (some v)=.tuple #[zv v,.bool true] from rfl]
     conv=>whnf
     repeat (refine ch_intro (l:=fs) 105 (by omega) hf2 ?_;(conv=>whnf))
     refine n_ ?_
     exact ⟨fs.length - (i+1),by omega,rfl,i+1,{ y with m:=v },far,by omega,rfl,rfl,rfl,hR,v1,v2⟩
   ·repeat (refine ch_intro (l:=fs) 117 (by omega) hf2 ?_;(conv=>whnf))
    refine rnumber_x u (by omega) ?_
    have hF:fieldR (y,far) 117 u=(match numA u with | some n=>if n < -524288∨524287<n then .ok (y,true) else .ok ({ y with m:=n*4096 },false) | none=>.error 2):=rfl
    rw [hF] at hR
    cases hr:numA u with
    | none =>
     rw [hr] at hR
     have hR:fieldsR (⟨(i0+1:Nat),0,0,0,0,0,aq,rl⟩,false) fs r=.error 2:=hR.symm
     rw [hR] at hk
     conv=>whnf
     exact ⟨h,hle2,hk⟩
    | some v =>
     rw [hr] at hR
     obtain ⟨v1,v2⟩:=numA_rng hr
     simp only at hR
     rw [show okV (some v)=.tuple #[zv v,.bool true] from rfl]
     conv=>whnf
     repeat (refine ch_intro (l:=fs) 117 (by omega) hf2 ?_;(conv=>whnf))
     refine br_ (fun t1=>?_) fun t1=>?_
     ·rw [if_pos (.inl (by omega))] at hR
      conv=>whnf
      refine n_ ?_
      exact ⟨fs.length - (i+1),by omega,rfl,i+1,y,true,by omega,rfl,rfl,rfl,hR,m1,m2⟩
     conv=>whnf
     by_cases t2:524287<v
     ·rw [if_pos (.inr t2)] at hR
      refine bf_ ?_
      refine n_ ?_
      exact ⟨fs.length - (i+1),by omega,rfl,i+1,y,_,by omega,rfl,rfl,rfl,by rw [decide_eq_true t2];exact hR,m1,m2⟩
     rw [if_neg (show ¬ (v < -524288∨524287<v) by omega)] at hR
     refine bt_ ?_
     refine n_ ?_
     refine n_ ?_
     exact ⟨fs.length - (i+1),by omega,rfl,i+1,{ y with m:=v*4096 },_,by omega,rfl,rfl,rfl,by rw [decide_eq_false t2];exact hR,(show _≤v*4096 by omega),(show v*4096≤_ by omega)⟩
   ·repeat (refine ch_intro (l:=fs) 99 (by omega) hf2 ?_;(conv=>whnf))
    refine rnumber_x u (by omega) ?_
    have hF:fieldR (y,far) 99 u=(match numA u with | some n=>if n<0∨4095<n then .ok (y,true) else .ok ({ y with s:=n },false) | none=>.error 2):=rfl
    rw [hF] at hR
    cases hr:numA u with
    | none =>
     rw [hr] at hR
     have hR:fieldsR (⟨(i0+1:Nat),0,0,0,0,0,aq,rl⟩,false) fs r=.error 2:=hR.symm
     rw [hR] at hk
     conv=>whnf
     exact ⟨h,hle2,hk⟩
    | some v =>
     rw [hr] at hR
     obtain ⟨v1,v2⟩:=numA_rng hr
     simp only at hR
     rw [show okV (some v)=.tuple #[zv v,.bool true] from rfl]
     conv=>whnf
     repeat (refine ch_intro (l:=fs) 99 (by omega) hf2 ?_;(conv=>whnf))
     refine br_ (fun t1=>?_) fun t1=>?_
     ·rw [if_pos (.inl (by omega))] at hR
      conv=>whnf
      refine n_ ?_
      exact ⟨fs.length - (i+1),by omega,rfl,i+1,y,true,by omega,rfl,rfl,rfl,hR,m1,m2⟩
     conv=>whnf
     by_cases t2:4095<v
     ·rw [if_pos (.inr t2)] at hR
      refine bf_ ?_
      refine n_ ?_
      exact ⟨fs.length - (i+1),by omega,rfl,i+1,y,_,by omega,rfl,rfl,rfl,by rw [decide_eq_true t2];exact hR,m1,m2⟩
     rw [if_neg (show ¬ (v<0∨4095<v) by omega)] at hR
     refine bt_ ?_
     refine n_ ?_
     exact ⟨fs.length - (i+1),by omega,rfl,i+1,{ y with s:=v },_,by omega,rfl,rfl,rfl,by rw [decide_eq_false t2];exact hR,m1,m2⟩
   ·repeat (refine ch_intro (l:=fs) 110 (by omega) hf2 ?_;(conv=>whnf))
    refine rnumber_x u (by omega) ?_
    have hF:fieldR (y,far) 110 u=(match numA u with | some n=>if n<0∨31<n then .ok (y,true) else .ok ({ y with b:=n },far) | none=>.error 2):=rfl
    rw [hF] at hR
    cases hr:numA u with
    | none =>
     rw [hr] at hR
     have hR:fieldsR (⟨(i0+1:Nat),0,0,0,0,0,aq,rl⟩,false) fs r=.error 2:=hR.symm
     rw [hR] at hk
     conv=>whnf
     exact ⟨h,hle2,hk⟩
    | some v =>
     rw [hr] at hR
     obtain ⟨v1,v2⟩:=numA_rng hr
     simp only at hR
     rw [show okV (some v)=.tuple #[zv v,.bool true] from rfl]
     conv=>whnf
     repeat (refine ch_intro (l:=fs) 110 (by omega) hf2 ?_;(conv=>whnf))
     cases far with
     | true =>
      conv=>whnf
      refine br_ (fun t1=>?_) fun t1=>?_
      ·conv=>whnf
       refine br_ (fun t2=>?_) fun t2=>?_
       ·rw [if_neg (show ¬ (v<0∨31<v) by omega)] at hR
        conv=>whnf
        refine n_ ?_
        exact ⟨fs.length - (i+1),by omega,rfl,i+1,{ y with b:=v },true,by omega,rfl,rfl,rfl,hR,m1,m2⟩
       ·rw [if_pos (.inr (by omega))] at hR
        conv=>whnf
        refine n_ ?_
        exact ⟨fs.length - (i+1),by omega,rfl,i+1,y,true,by omega,rfl,rfl,rfl,hR,m1,m2⟩
      ·rw [if_pos (.inl (by omega))] at hR
       conv=>whnf
       refine n_ ?_
       exact ⟨fs.length - (i+1),by omega,rfl,i+1,y,true,by omega,rfl,rfl,rfl,hR,m1,m2⟩
     | false =>
      conv=>whnf
      refine br_ (fun t1=>?_) fun t1=>?_
      ·rw [if_pos (.inl (by omega))] at hR
       conv=>whnf
       refine bf_ ?_
       refine n_ ?_
       exact ⟨fs.length - (i+1),by omega,rfl,i+1,y,true,by omega,rfl,rfl,rfl,hR,m1,m2⟩
      conv=>whnf
      refine bt_ ?_
      by_cases t2:31<v
      ·rw [if_pos (.inr t2)] at hR
       refine bf_ ?_
       refine n_ ?_
       exact ⟨fs.length - (i+1),by omega,rfl,i+1,y,_,by omega,rfl,rfl,rfl,by rw [decide_eq_true t2];exact hR,m1,m2⟩
      rw [if_neg (show ¬ (v<0∨31<v) by omega)] at hR
      refine bt_ ?_
      refine n_ ?_
      exact ⟨fs.length - (i+1),by omega,rfl,i+1,{ y with b:=v },_,by omega,rfl,rfl,rfl,by rw [decide_eq_false t2];exact hR,m1,m2⟩
  have hir:i=r.length:=by omega
  rw [List.drop_of_length_le (by omega),List.drop_of_length_le (by omega)] at hR
  have hR:fieldsR (⟨(i0+1:Nat),0,0,0,0,0,aq,rl⟩,false) fs r=.ok (y,far):=hR.symm
  rw [hR] at hk
  have hk:K (parsedV (if far=true∨y.chk≠0 then .error 3 else .ok y)) h:=hk
  cases far with
  | true =>
   rw [if_pos (.inl rfl)] at hk
   conv=>whnf
   exact ⟨h,hle2,hk⟩
  | false =>
   conv=>whnf
   refine rcheck_x y.op y.a y.b y.c y.m y.s y.aq y.rl m1 m2 ?_
   have hc0:checkF (fmtN y.op) y.a y.b y.c y.m y.s y.aq y.rl=y.chk:=rfl
   rw [hc0]
   generalize y.chk=e at hk ⊢
   conv=>whnf
   refine br_ (fun ge=>?_) fun ge=>?_
   ·rw [if_pos (.inr (by omega))] at hk
    conv=>whnf
    exact ⟨h,hle2,hk⟩
   ·rw [if_neg (by rintro (h | h);cases h;exact h (by omega))] at hk
    conv=>whnf
    exact ⟨h,hle2,hk⟩
end
end Go.Proofs.YtdhkjcdneidgaaaGreatDoor
namespace Go.Proofs.YtdhkjcdneidgaaaGreatDoor
open Go Go.Mid Go.RowKit
attribute [local irreducible] mid
section
variable {h:Hp} {K:Value→Hp→Prop}
theorem rlines_x (t:Str) (hl:t.length≤2 ^ 20) (hk:∀ sl h',Owns h h' 9 1 sl (linesA t).length ((linesA t).map sv)→K sl h'):X Tryz.prog 24 #[.string (bs t)] h K:=by
 have hsz:(bs t).size=t.length:=bs_size t
 refine fnv (args:=_) mixed [] [] [] Tryz.func24 rfl (by kernel_rfl) (cw_ ?_)
 refine loop_at [5,3,4] [] (fun r vs _ h'=>∃ (i f:Nat) (sl:Value) (acc:List Str),i≤t.length∧f≤i∧r=t.length - i∧vs=[.v (.int .i64 i),.v sl,.v (.int .i64 f)]∧Owns h h' 9 1 sl acc.length (acc.map sv)∧acc.length≤i∧(10:UInt8) ∉ (t.take i).drop f∧acc++linesA (t.drop f)=linesA t) t.length
  ⟨0,0,.slice none 0 0,[],by omega,by omega,by omega,rfl,Owns.nil (Hp.le_refl _),by simp,by simp,by simp⟩ ?_
 rintro r vs cs mm bx h1 ⟨i,f,sl,acc,hi,hf,rfl,rfl,hO,ha,hno,hR⟩
 obtain ⟨sa,sc,rfl⟩:=hO.shape
 conv=>whnf
 refine br_ (fun q1=>?_) fun q1=>?_
 ·have hi2:i<t.length:=by omega
  obtain ⟨c,hc⟩:∃ c,t[i]? = some c:=⟨_,List.getElem?_eq_getElem hi2⟩
  have hd:t.drop f=(t.take i).drop f++c :: t.drop (i+1):=by
   obtain ⟨hp2,rfl⟩:=List.getElem?_eq_some_iff.1 hc
   rw [← List.drop_eq_getElem_cons hp2,← List.drop_append_of_le_length (by rw [List.length_take];omega),List.take_append_drop]
  conv=>whnf
  refine ch_intro (c) (by omega) (by rw [Int.toNat_natCast];exact hc) (cw_ ?_)
  by_cases hc10:c=10
  ·rw [hd,hc10,linesA_cons hno] at hR
   refine bt_ ?_ (by rw [hc10];rfl)
   refine n_ ?_
   refine n_ ?_
   refine sub_by (m:=(t.take i).drop f) (by rw [Int.toNat_natCast,Int.toNat_natCast]) (cw_ ?_)
   refine new_intro (o:=rowO 9 [sv ((t.take i).drop f)]) (fun y h2 n_y le_y at_y ot_y=>cw_ ?_)
   refine Owns.app1 (z:=.string ⟨#[]⟩) (by kernel_rfl) infS (by kernel_rfl) (by kernel_rfl) (by kernel_rfl) rfl (bytes:=16) (by decide) rfl rfl rfl (hO.up le_y) at_y rfl rfl (by omega) fun s3 h3 hO3=>(cw_ ?_)
   refine n_ ?_
   refine n_ ?_
   refine ⟨t.length - (i+1),by omega,i+1,i+1,s3,acc++[(t.take i).drop f],by omega,by omega,rfl,rfl,?_,by simp;omega,?_,by rw [← hR];simp⟩
   ·rw [List.length_append,List.map_append];exact hO3
   ·rw [List.drop_of_length_le (by rw [List.length_take];omega)];simp
  ·refine bf_ ?_ (by simpa using fun e=>hc10 (UInt8.toNat_inj.1 (by have:(10:UInt8).toNat=10:=rfl;omega)))
   refine n_ ?_
   refine ⟨t.length - (i+1),by omega,i+1,f,_,acc,by omega,by omega,rfl,rfl,hO,by omega,?_,hR⟩
   rw [List.take_add_one,hc,List.drop_append_of_le_length (by rw [List.length_take];omega)]
   intro hm
   rcases List.mem_append.1 hm with hm | hm
   ·exact hno hm
   ·simp only [Option.toList_some,List.mem_singleton] at hm;exact hc10 hm.symm
 ·have hin:i=t.length:=by omega
  rw [hin,List.take_length] at hno
  conv=>whnf
  refine br_ (fun q2=>?_) fun q2=>?_
  ·have hf2:f<t.length:=by omega
   rw [linesA_one hno (fun e=>by have:=congrArg List.length e;rw [List.length_drop] at this;simp at this;omega)] at hR
   conv=>whnf
   refine n_ ?_
   refine sub_from (m:=t.drop f) (by rw [Int.toNat_natCast]) (cw_ ?_)
   refine new_intro (o:=rowO 9 [sv (t.drop f)]) (fun y h2 n_y le_y at_y ot_y=>cw_ ?_)
   refine Owns.app1 (z:=.string ⟨#[]⟩) (by kernel_rfl) infS (by kernel_rfl) (by kernel_rfl) (by kernel_rfl) rfl (bytes:=16) (by decide) rfl rfl rfl (hO.up le_y) at_y rfl rfl (by omega) fun s3 h3 hO3=>(cw_ ?_)
   refine hk _ _ ?_
   rw [← hR,List.length_append,List.map_append]
   exact hO3
  ·rw [List.drop_of_length_le (by omega),linesA_nil,List.append_nil] at hR
   conv=>whnf
   refine hk _ _ ?_
   rw [← hR]
   exact hO
theorem linesA_len (t:Str):(linesA t).length≤t.length+1:=by
 unfold linesA
 have:=sp_length [10] t (by decide)
 split
 ·rw [List.length_dropLast];omega
 ·exact this
theorem linesA_word (t:Str):∀ w ∈ linesA t,w.length≤t.length:=by
 intro w hw
 refine sp_word [10] (by decide) _ t (Nat.le_refl _) w ?_
 unfold linesA at hw
 split at hw
 ·exact List.dropLast_subset _ hw
 ·exact hw
end
end Go.Proofs.YtdhkjcdneidgaaaGreatDoor
namespace Go.Proofs.YtdhkjcdneidgaaaGreatDoor
open Go Go.Mid Go.RowKit Go.Bits
attribute [local irreducible] mid
theorem nameB_iff (w:Str):nameB w=true↔0<w.length∧w.length<17∧(∀ c,w[0]? = some c→isLo c=true)∧∀ (i:Nat) (c:UInt8),w[i]? = some c→isNm c=true:=by
 cases w with
 | nil=>simp [nameB]
 | cons a r =>
  unfold nameB
  simp only [Bool.and_eq_true,decide_eq_true_eq,List.length_cons,List.getElem?_cons_zero,Option.some.injEq,forall_eq',List.all_eq_true]
  constructor
  ·rintro ⟨⟨h1,h2⟩,h3⟩
   exact ⟨by omega,by omega,h2,fun i c h=>h3 c (List.mem_of_getElem? h)⟩
  ·rintro ⟨h1,h2,h3,h4⟩
   exact ⟨⟨by omega,h3⟩,fun c hc=>by obtain ⟨i,hi,e⟩:=List.getElem_of_mem hc;exact h4 i c (by rw [← e];exact List.getElem?_eq_getElem hi)⟩
section
variable {h:Hp} {K:Value→Hp→Prop}
theorem rname_x (w:Str) (hl:w.length≤2 ^ 20) (hk:K (.bool (nameB w)) h):X Tryz.prog 49 #[sv w] h K:=by
 have hb:=nameB_iff w
 refine fnv (args:=_) mixed [] [] [] Tryz.func49 rfl (by kernel_rfl) (cw_ ?_)
 refine loop_at [3] [] (fun q vs _ h'=>h=h'∧∃ i:Nat,i≤w.length∧q=w.length - i∧vs=[.v (.int .i64 i)]∧(0<i→∀ c,w[0]? = some c→isLo c=true)∧∀ (j:Nat) (c:UInt8),j<i→w[j]? = some c→isNm c=true) w.length ⟨rfl,0,by omega,by omega,rfl,fun h=>by omega,fun j c h=>by omega⟩ ?_
 rintro q vs cs mm bx _ ⟨rfl,i,hi,rfl,rfl,h0,hg⟩
 conv=>whnf
 refine br_ (fun q1=>?_) fun q1=>?_
 ·obtain ⟨c,hc⟩:∃ c,w[i]? = some c:=⟨_,List.getElem?_eq_getElem (show i<w.length by omega)⟩
  have hc2:=c.toNat_lt
  conv=>whnf
  refine ch_intro (l:=w) c (by omega) (by rw [Int.toNat_natCast];exact hc) ?_
  have hcl:isLo c=true↔97≤c.toNat∧c.toNat≤122:=by unfold isLo;simp
  have hcn:isNm c=true↔isLo c=true∨(48≤c.toNat∧c.toNat≤57)∨c.toNat=95:=by unfold isNm;simp [or_assoc]
  conv=>whnf
  refine br_ (fun q2=>?_) fun q2=>?_
  ·conv=>whnf
   refine br_ (fun q3=>?_) fun q3=>?_
   ·have NL:¬ isLo c=true:=fun hh=>by have:=hcl.1 hh;omega
    conv=>whnf
    refine br_ (fun q4=>?_) fun q4=>?_
    ·have BAD:¬ nameB w=true:=fun hh=>NL ((hb.1 hh).2.2.1 c (by rw [← hc,show i=0 by omega]))
     rw [show nameB w=false by rw [← Bool.not_eq_true];exact BAD] at hk
     exact hk
    conv=>whnf
    refine br_ (fun q5=>?_) fun q5=>?_
    ·conv=>whnf
     refine br_ (fun q6=>?_) fun q6=>?_
     ·have BAD:¬ nameB w=true:=fun hh=>by
       rcases hcn.1 ((hb.1 hh).2.2.2 i c hc) with h1 | h1 | h1
       ·exact NL h1
       ·omega
       ·omega
      rw [show nameB w=false by rw [← Bool.not_eq_true];exact BAD] at hk
      exact hk
     conv=>whnf
     refine br_ (fun q7=>?_) fun q7=>?_
     ·have BAD:¬ nameB w=true:=fun hh=>by
       rcases hcn.1 ((hb.1 hh).2.2.2 i c hc) with h1 | h1 | h1
       ·exact NL h1
       ·omega
       ·omega
      rw [show nameB w=false by rw [← Bool.not_eq_true];exact BAD] at hk
      exact hk
     ·have L0:i=0→isLo c=true:=fun e=>by omega
      have LN:isNm c=true:=hcn.2 (.inr (.inl (by omega)))
      conv=>whnf
      refine n_ ?_
      refine ⟨w.length - (i+1),by omega,rfl,i+1,by omega,rfl,rfl,fun _ x hx=>?_,fun j x hj hx=>?_⟩
      ·by_cases e:i=0
       ·subst e;rw [hc] at hx;cases hx;exact L0 rfl
       ·exact h0 (by omega) x hx
      ·by_cases e:j=i
       ·subst e;rw [hc] at hx;cases hx;exact LN
       ·exact hg j x (by omega) hx
    ·have L0:i=0→isLo c=true:=fun e=>by omega
     have LN:isNm c=true:=hcn.2 (.inr (.inr (by omega)))
     conv=>whnf
     refine n_ ?_
     refine ⟨w.length - (i+1),by omega,rfl,i+1,by omega,rfl,rfl,fun _ x hx=>?_,fun j x hj hx=>?_⟩
     ·by_cases e:i=0
      ·subst e;rw [hc] at hx;cases hx;exact L0 rfl
      ·exact h0 (by omega) x hx
     ·by_cases e:j=i
      ·subst e;rw [hc] at hx;cases hx;exact LN
      ·exact hg j x (by omega) hx
   ·have hlo:isLo c=true:=hcl.2 (by omega)
    have L0:i=0→isLo c=true:=fun _=>hlo
    have LN:isNm c=true:=hcn.2 (.inl hlo)
    conv=>whnf
    refine n_ ?_
    refine ⟨w.length - (i+1),by omega,rfl,i+1,by omega,rfl,rfl,fun _ x hx=>?_,fun j x hj hx=>?_⟩
    ·by_cases e:i=0
     ·subst e;rw [hc] at hx;cases hx;exact L0 rfl
     ·exact h0 (by omega) x hx
    ·by_cases e:j=i
     ·subst e;rw [hc] at hx;cases hx;exact LN
     ·exact hg j x (by omega) hx
  ·have NL:¬ isLo c=true:=fun hh=>by have:=hcl.1 hh;omega
   conv=>whnf
   refine br_ (fun q4=>?_) fun q4=>?_
   ·have BAD:¬ nameB w=true:=fun hh=>NL ((hb.1 hh).2.2.1 c (by rw [← hc,show i=0 by omega]))
    rw [show nameB w=false by rw [← Bool.not_eq_true];exact BAD] at hk
    exact hk
   conv=>whnf
   refine br_ (fun q5=>?_) fun q5=>?_
   ·conv=>whnf
    refine br_ (fun q6=>?_) fun q6=>?_
    ·have BAD:¬ nameB w=true:=fun hh=>by
      rcases hcn.1 ((hb.1 hh).2.2.2 i c hc) with h1 | h1 | h1
      ·exact NL h1
      ·omega
      ·omega
     rw [show nameB w=false by rw [← Bool.not_eq_true];exact BAD] at hk
     exact hk
    conv=>whnf
    refine br_ (fun q7=>?_) fun q7=>?_
    ·have BAD:¬ nameB w=true:=fun hh=>by
      rcases hcn.1 ((hb.1 hh).2.2.2 i c hc) with h1 | h1 | h1
      ·exact NL h1
      ·omega
      ·omega
     rw [show nameB w=false by rw [← Bool.not_eq_true];exact BAD] at hk
     exact hk
    ·have L0:i=0→isLo c=true:=fun e=>by omega
     have LN:isNm c=true:=hcn.2 (.inr (.inl (by omega)))
     conv=>whnf
     refine n_ ?_
     refine ⟨w.length - (i+1),by omega,rfl,i+1,by omega,rfl,rfl,fun _ x hx=>?_,fun j x hj hx=>?_⟩
     ·by_cases e:i=0
      ·subst e;rw [hc] at hx;cases hx;exact L0 rfl
      ·exact h0 (by omega) x hx
     ·by_cases e:j=i
      ·subst e;rw [hc] at hx;cases hx;exact LN
      ·exact hg j x (by omega) hx
   ·have L0:i=0→isLo c=true:=fun e=>by omega
    have LN:isNm c=true:=hcn.2 (.inr (.inr (by omega)))
    conv=>whnf
    refine n_ ?_
    refine ⟨w.length - (i+1),by omega,rfl,i+1,by omega,rfl,rfl,fun _ x hx=>?_,fun j x hj hx=>?_⟩
    ·by_cases e:i=0
     ·subst e;rw [hc] at hx;cases hx;exact L0 rfl
     ·exact h0 (by omega) x hx
    ·by_cases e:j=i
     ·subst e;rw [hc] at hx;cases hx;exact LN
     ·exact hg j x (by omega) hx
 ·conv=>whnf
  have hiw:i=w.length:=by omega
  subst hiw
  have hnb:nameB w=true↔0<w.length∧w.length<17:=by
   rw [hb]
   refine ⟨fun hh=>⟨hh.1,hh.2.1⟩,fun hh=>⟨hh.1,hh.2,h0 hh.1,fun j c hc=>hg j c (List.getElem?_eq_some_iff.1 hc).1 hc⟩⟩
  refine br_ (fun q8=>?_) fun q8=>?_
  ·conv=>whnf
   exact kq hk (bI (by rw [Bool.eq_iff_iff,hnb];have:(bs w).size=w.length:=rfl;simp;omega))
  ·conv=>whnf
   exact kq hk (bI (by rw [Bool.eq_iff_iff,hnb];have:(bs w).size=w.length:=rfl;simp;omega))
theorem numsI_some:∀ (l:List Str) (o:List Nat),numsI l=some o→o.length=l.length∧∀ k ∈ o,k<2 ^ 63
 | [],o,h=>by cases h;exact ⟨rfl,fun k hk=>by cases hk⟩
 | w :: r,o,h=>by
  unfold numsI at h
  cases hn:numA w with
  | none=>rw [hn] at h;cases h
  | some k =>
   rw [hn] at h
   simp only at h
   split at h
   ·cases h
   ·cases hr:numsI r with
    | none=>rw [hr] at h;cases h
    | some l =>
     rw [hr] at h
     cases h
     obtain ⟨h1,h2⟩:=numsI_some r l hr
     have:=(numA_rng hn).2
     refine ⟨by simp [h1],fun x hx=>?_⟩
     rcases List.mem_cons.1 hx with rfl | hx
     ·omega
     ·exact h2 x hx
theorem numsI_app:∀ (l m:List Str),numsI (l++m)=(numsI l).bind fun a=>(numsI m).map fun b=>a++b
 | [],m=>by unfold numsI;cases hm:numsI m <;> simp [numsI,hm]
 | w :: r,m=>by
  show (match numA w with
   | none=>none
   | some k=>if k<0 then none else (numsI (r++m)).map fun l=>k.toNat :: l)=(match numA w with
   | none=>none
   | some k=>if k<0 then none else (numsI r).map fun l=>k.toNat :: l).bind _
  rw [numsI_app r m]
  cases numA w with
  | none=>rfl
  | some k =>
   simp only
   split
   ·rfl
   ·cases numsI r with
    | none=>rfl
    | some a=>cases numsI m <;> rfl
end
end Go.Proofs.YtdhkjcdneidgaaaGreatDoor
namespace Go.Proofs.YtdhkjcdneidgaaaGreatDoor
open Go Go.Mid Go.RowKit Go.Bits
theorem im_fits_rng {f:Nat} {m:Int} (h:2≤f∧f≤8) (hf:Go.Bits.fits f m=true) : -9223372036854775808≤m∧m≤9223372036854775807:=by
 have hcs:f=2∨f=3∨f=4∨f=5∨f=6∨f=7∨f=8:=by omega
 rcases hcs with rfl | rfl | rfl | rfl | rfl | rfl | rfl <;> (have hf:=of_decide_eq_true hf;omega)
theorem im_parse_chk {s:Str} {x:Ins} (h:parseA s=.ok x):x.chk=0:=by
 unfold parseA at h
 split at h
 ·cases h
 split at h
 ·cases h
 split at h
 ·cases h
 split at h
 ·cases h
 ·unfold lineP at h
  split at h
  ·cases h
  ·split at h
   ·cases h
   ·split at h
    ·cases h
    ·rename_i y _
     split at h
     ·rename_i hc
      obtain rfl:y=x:=by injection h
      exact hc
     ·cases h
theorem im_chk_rng {x:Ins} (h:x.chk=0) : -9223372036854775808≤x.m∧x.m≤9223372036854775807:=by
 obtain ⟨_,_,_,_,_,_,_,hfit,hbad⟩:=chk_ok h
 have hf15:=fmtN_lt x.op
 have rng:∀ f:Nat,f<15→(2≤f∧f≤8)∨(fieldsL.getD f []).getD 3 false=false:=by decide
 rcases rng _ hf15 with hr | hr
 ·rw [fits_eq] at hfit
  exact im_fits_rng hr hfit
 ·have:=(bad_fld hbad (flds_len _ hf15)).2.2.2.1 hr
  rw [this];decide
theorem im_field_err {x:Ins} {c:UInt8} {w:Str} {e:Int} (h:fieldP x c w=.error e):e≠0:=by
 unfold fieldP at h
 repeat' split at h
 all_goals first | (cases h;done) | (cases h;decide)
theorem im_fields_err:∀ (fs:Str) (r:List Str) (x:Ins) {e:Int},fieldsP x fs r=.error e→e≠0
 | [],r,x,e,h=>by cases r <;> cases h
 | c :: fs,[],x,e,h=>by cases h
 | c :: fs,w :: r,x,e,h=>by
  rw [fieldsP_cons] at h
  split at h
  ·exact im_fields_err fs r _ h
  ·rename_i e' he
   obtain rfl:e'=e:=by injection h
   exact im_field_err he
theorem im_parse_err {s:Str} {e:Int} (h:parseA s=.error e):e≠0:=by
 unfold parseA at h
 split at h
 ·cases h;decide
 split at h
 ·cases h;decide
 split at h
 ·cases h;decide
 split at h
 ·cases h;decide
 ·unfold lineP at h
  split at h
  ·cases h;decide
  ·split at h
   ·cases h;decide
   ·split at h
    ·rename_i e' he
     obtain rfl:e'=e:=by injection h
     exact im_fields_err _ _ _ he
    ·split at h
     ·cases h
     ·rename_i hc
      cases h;exact hc
end Go.Proofs.YtdhkjcdneidgaaaGreatDoor
