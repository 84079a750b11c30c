/-
  Control registers, as the document tells them: words of a file.
-/
import Derived.Test.YtdhlpighdlnohaaGreatRcCu
import Derived.Test.YtdhlpighdlnohaaGreatHtB
set_option linter.unusedSimpArgs false
set_option linter.unusedVariables false
set_option maxHeartbeats 8000000
set_option maxRecDepth 10000
set_option linter.unusedSimpArgs false
set_option linter.unusedVariables false
namespace Go.Proofs.YtdhlpighdlnohaaGreat
open Go Go.Mid Go.RowKit Go.Bits
attribute [local irreducible] mid
def rowRV (n:Int):Value:=match csrAll.find? (fun r=>decide ((r.1.1:Int)=n)) with
 | some r=>.agg (rwC r).toArray
 | none=>.agg #[.int .i64 0,.string (bs []),.int .u64 0]
section
variable {h:Hp} {K:Value→Hp→Prop}
abbrev rcRow:TypeId := 243
theorem aggRcR:isAggT Tryz.prog rcRow=some true:=by kernel_rfl
theorem sizRcR:sizeT Tryz.prog rcRow=some 3:=by kernel_rfl
theorem aggRcS:isAggT Tryz.prog 9 = some false:=by kernel_rfl
theorem rcrows_x (hk:∀ b h',h b=none→h.le h'→h' b=some (rowO rcRow (csrAll.flatMap rwC++[]))→K (.slice (some ⟨b,0,none⟩) 34 34) h'):X Tryz.prog 133 #[] h K:=by
 refine fnv (args:=_) mixed [] [] [] Tryz.func133 rfl (by kernel_rfl) (cw_ ?_)
 refine new_intro (o:=_) (fun b h1 n_b le_b at_b ot_b=>?_)
 exact hk b h1 n_b le_b (at_b.trans (by kernel_rfl))
theorem rcrow_at {b:Nat} {j:Nat} {r:(Nat×Nat)×Str} (hb:h b=some (rowO rcRow (csrAll.flatMap rwC++[]))) (hj:csrAll[j]? = some r):loadH Tryz.prog rcRow h ((⟨b,0,none⟩:Addr).add (((j:Int)).toNat*3))=some (.agg (rwC r).toArray):=by
 rw [Int.toNat_natCast]
 exact loadH_agg aggRcR sizRcR (fun _=>rfl) hb hj
theorem rcrow_c {b:Nat} {j k:Nat} {r:(Nat×Nat)×Str} {t:TypeId} {v:Value} (ht:isAggT Tryz.prog t=some false) (hb:h b=some (rowO rcRow (csrAll.flatMap rwC++[]))) (hj:csrAll[j]? = some r) (hk:k<3) (hv:(rwC r)[k]? = some v):loadH Tryz.prog t h (((⟨b,0,none⟩:Addr).add (((j:Int)).toNat*3)).add k)=some v:=by
 rw [Int.toNat_natCast,loadH_cell ht]
 exact loadH_cellOf aggRcR sizRcR (loadH_agg (f:=rwC) aggRcR sizRcR (fun _=>rfl) hb hj) (by simpa using hv)
theorem find_no {n:Int} {j:Nat} (hj:j=34) (hno:∀ i y,i<j→csrAll[i]? = some y→decide ((y.1.1:Int)=n)=false):csrAll.find? (fun r=>decide ((r.1.1:Int)=n))=none:=by
 subst hj
 exact find_never fun i y hy=>hno i y (by have:=(List.getElem?_eq_some_iff.1 hy).1;rw [csrAll_len] at this;exact this) hy
theorem rcof_x (n:Int) (hk:K (rowRV n) h):X Tryz.prog 245 #[.int .i64 n] h K:=by
 refine X.forget ?_
 refine fnv (args:=_) mixed [(2,2)] [] [] Tryz.func245 rfl (by kernel_rfl) (cw_ ?_)
 refine rcrows_x fun b h1 n_b le_b at_b=>(cw_ ?_)
 refine loop_at [4] [2] (fun r vs cs h'=>cs=[some [.int .i64 0,.string (bs []),.int .u64 0]]∧h1=h'∧∃ j:Nat,j≤34∧r=34 - j∧vs=[.v (.int .i64 j)]∧∀ i y,i<j→csrAll[i]? = some y→decide ((y.1.1:Int)=n)=false) 34 ⟨rfl,rfl,0,by omega,by omega,rfl,fun i y hi=>by omega⟩ ?_
 rintro r vs cs mm bx _ ⟨rfl,rfl,j,hj,rfl,rfl,hno⟩
 conv=>whnf
 refine br_ (fun q1=>?_) fun q1=>?_
 ·obtain ⟨r,hr⟩:∃ r,csrAll[j]? = some r:=⟨_,List.getElem?_eq_getElem (by rw [csrAll_len];omega)⟩
  have hl:=rcrow_at at_b hr
  have hl0:=rcrow_c (k:=0) aggIn at_b hr (by decide) rfl
  conv=>whnf
  refine n_ ?_
  refine ⟨_,hl0,cw_ ?_⟩
  by_cases q2:(r.1.1:Int)=n
  ·rw [show ((r.1.1:Int)==n)=true by simpa using q2]
   have hV:rowRV n=.agg (rwC r).toArray:=by unfold rowRV;rw [find_first hr (decide_eq_true q2) hno]
   rw [hV] at hk
   conv=>whnf
   refine n_ ?_
   refine ⟨_,hl,cw_ ?_⟩
   exact ⟨h,le_b,hk⟩
  ·rw [show ((r.1.1:Int)==n)=false by simpa using q2]
   conv=>whnf
   refine n_ ?_
   exact ⟨34 - (j+1),by omega,rfl,rfl,j+1,by omega,rfl,rfl,fun i y hi hy=>by
    by_cases e:i=j
    ·subst e;rw [hr] at hy;cases hy;exact decide_eq_false q2
    ·exact hno i y (by omega) hy⟩
 ·obtain rfl:j=34:=by omega
  have hV:rowRV n=.agg #[.int .i64 0,.string (bs []),.int .u64 0]:=by
   unfold rowRV
   rw [find_no rfl hno]
  rw [hV] at hk
  conv=>whnf
  exact ⟨h,le_b,hk⟩
theorem rcnum_x (i:Nat) (hi:i<34) (hk:K (.int .i64 (csrNums.getD i 0:Nat)) h):X Tryz.prog 203 #[.string (bs (csrNames.getD i []))] h K:=by
 refine X.forget ?_
 refine fnv (args:=_) mixed [] [] [] Tryz.func203 rfl (by kernel_rfl) (cw_ ?_)
 refine rcrows_x fun b h1 n_b le_b at_b=>(cw_ ?_)
 refine loop_at [4] [] (fun r vs cs h'=>h1=h'∧∃ j:Nat,j≤i∧r=34 - j∧vs=[.v (.int .i64 j)]) 34 ⟨rfl,0,by omega,by omega,rfl⟩ ?_
 rintro r vs cs mm bx _ ⟨rfl,j,hj,rfl,rfl⟩
 conv=>whnf
 refine bt_ ?_
 have hr:=all_get j (by omega)
 have hl1:=rcrow_c (k:=1) aggRcS at_b hr (by decide) rfl
 have hl0:=rcrow_c (k:=0) aggIn at_b hr (by decide) rfl
 conv=>whnf
 refine n_ ?_
 refine ⟨_,hl1,cw_ ?_⟩
 by_cases q2:j=i
 ·subst q2
  refine seq_true (rfl) (cw_ ?_)
  refine n_ ?_
  refine ⟨_,hl0,cw_ ?_⟩
  exact ⟨h,le_b,hk⟩
 ·refine seq_false ((fun e=>q2 (names_inj j (by omega) i hi e))) (cw_ ?_)
  refine n_ ?_
  exact ⟨34 - (j+1),by omega,rfl,j+1,by omega,rfl,rfl⟩
theorem rcatn_x (i:Nat) (hi:i<34) (hk:K (.int .i64 i) h):X Tryz.prog 202 #[.int .i64 (csrNums.getD i 0:Nat)] h K:=by
 refine X.forget ?_
 refine fnv (args:=_) mixed [] [] [] Tryz.func202 rfl (by kernel_rfl) (cw_ ?_)
 refine rcrows_x fun b h1 n_b le_b at_b=>(cw_ ?_)
 refine loop_at [4] [] (fun r vs cs h'=>h1=h'∧∃ j:Nat,j≤i∧r=34 - j∧vs=[.v (.int .i64 j)]) 34 ⟨rfl,0,by omega,by omega,rfl⟩ ?_
 rintro r vs cs mm bx _ ⟨rfl,j,hj,rfl,rfl⟩
 conv=>whnf
 refine bt_ ?_
 have hr:=all_get j (by omega)
 have hl0:=rcrow_c (k:=0) aggIn at_b hr (by decide) rfl
 conv=>whnf
 refine n_ ?_
 refine ⟨_,hl0,cw_ ?_⟩
 by_cases q2:j=i
 ·subst q2
  refine bt_ ?_
  exact ⟨h,le_b,hk⟩
 ·refine bf_ ?_ (by simp;exact fun e=>q2 (nums_inj j (by omega) i hi (by simp;omega)))
  refine n_ ?_
  exact ⟨34 - (j+1),by omega,rfl,j+1,by omega,rfl,rfl⟩
theorem rclegal_x (n:Int) (old v:Nat) (ho:old<2 ^ 64) (hv:v<2 ^ 64) (hk:K (uv (legalN n old v)) h):X Tryz.prog 255 #[.int .i64 n,uv old,uv v] h K:=by
 refine X.forget ?_
 rw [← rlegalN_eq hv] at hk
 have hm:=mask_lt n
 have hf:∀ i,(if bitN (maskN n) i=1 then bitN v i else bitN old i)<2:=fun i=>by split <;> exact bitN_lt _ _
 have hl0:=legal0_lt (n:=n) (old:=old) hv
 have hR:∃ a:Value,∃ s:Value,rowRV n=.agg #[a,s,uv (maskN n)]:=by
  unfold rowRV
  rcases row_cases n with ⟨i,_,_,_,e⟩ | ⟨_,e1,e⟩
  ·rw [e];exact ⟨_,_,rfl⟩
  ·rw [e,(row_none e).2];exact ⟨_,_,rfl⟩
 obtain ⟨ra,rs,hR⟩:=hR
 refine fnv (args:=_) mixed [] [] [] Tryz.func255 rfl (by kernel_rfl) (cw_ ?_)
 refine rcof_x n ?_
 rw [hR]
 conv=>whnf
 refine loop_at [9,8] [] (fun r vs _ h'=>∃ (i:Nat) (sl:Value),i≤64∧r=64 - i∧vs=[.v (.int .i64 i),.v sl]∧Owns h h' 25 1 sl i (upto (fun i=>if bitN (maskN n) i=1 then bitN v i else bitN old i) i)) 64
  ⟨0,.slice none 0 0,by omega,rfl,rfl,Owns.nil (Hp.le_refl _)⟩ ?_
 rintro r vs cs mm bx h1 ⟨i,sl,hi,rfl,rfl,hO⟩
 obtain ⟨sa,sc,rfl⟩:=hO.shape
 conv=>whnf
 refine br_ (fun q1=>?_) fun q1=>?_
 ·conv=>whnf
  refine rbit_x (maskN n) i hm (by omega) ?_
  rw [if_pos (by omega),Int.toNat_natCast]
  conv=>whnf
  by_cases hc:bitN (maskN n) i=1
  ·refine bt_ ?_ (by rw [hc];rfl)
   refine rbit_x v i hv (by omega) ?_
   rw [if_pos (by omega),Int.toNat_natCast]
   conv=>whnf
   refine new_intro (o:=rowO 25 [uv (bitN v i)]) (fun y h2 n_y le_y at_y ot_y=>cw_ ?_)
   refine Owns.app1 (z:=.int .u64 0) (by kernel_rfl) infU64 (by kernel_rfl) (by kernel_rfl) (by kernel_rfl) rfl (bytes:=8) (by decide) rfl rfl rfl (hO.up le_y) at_y rfl rfl (by omega) fun s3 h3 hO3=>(cw_ ?_)
   refine n_ ?_
   refine ⟨64 - (i+1),by omega,i+1,s3,by omega,rfl,rfl,?_⟩
   rw [upto_succ]
   simp only [if_pos hc]
   exact hO3
  ·refine bf_ ?_ (by simp;exact fun e=>hc (by omega))
   refine rbit_x old i ho (by omega) ?_
   rw [if_pos (by omega),Int.toNat_natCast]
   conv=>whnf
   refine new_intro (o:=rowO 25 [uv (bitN old i)]) (fun y h2 n_y le_y at_y ot_y=>cw_ ?_)
   refine Owns.app1 (z:=.int .u64 0) (by kernel_rfl) infU64 (by kernel_rfl) (by kernel_rfl) (by kernel_rfl) rfl (bytes:=8) (by decide) rfl rfl rfl (hO.up le_y) at_y rfl rfl (by omega) fun s3 h3 hO3=>(cw_ ?_)
   refine n_ ?_
   refine ⟨64 - (i+1),by omega,i+1,s3,by omega,rfl,rfl,?_⟩
   rw [upto_succ]
   simp only [if_neg hc]
   exact hO3
 ·obtain rfl:i=64:=by omega
  conv=>whnf
  refine rofU_x hO hf ?_
  rw [rlegal_eq n ho hv]
  conv=>whnf
  by_cases h7:n=768
  ·refine bt_ ?_ (by simp [h7])
   refine rcut_x (legal0 n old v) 11 2 hl0 (by decide) (by decide) (cw_ ?_)
   by_cases h2:legal0 n old v / 2 ^ 11 % 2 ^ 2=2
   ·refine bt_ ?_ (by rw [h2];rfl)
    refine rcut_x old 11 2 ho (by decide) (by decide) (cw_ ?_)
    refine rput_x (legal0 n old v) 11 2 _ hl0 (by omega) (by decide) (by decide) (cw_ ?_)
    refine rcut_x _ 60 4 (put_lt ..) (by decide) (by decide) (cw_ ?_)
    refine bf_ ?_ (by simp [h7])
    rw [if_neg (fun e=>by omega),if_pos ⟨h7,h2⟩] at hk
    exact ⟨h,hO.le,hk⟩
   ·refine bf_ ?_ (by simp;exact fun e=>h2 (by omega))
    refine rcut_x _ 60 4 hl0 (by decide) (by decide) (cw_ ?_)
    refine bf_ ?_ (by simp [h7])
    rw [if_neg (fun e=>by omega),if_neg (fun e=>h2 e.2)] at hk
    exact ⟨h,hO.le,hk⟩
  ·refine bf_ ?_ (by simp [h7])
   refine rcut_x _ 60 4 hl0 (by decide) (by decide) ?_
   simp only [if_neg (fun e:n=768∧legal0 n old v / 2 ^ 11 % 2 ^ 2=2=>h7 e.1)] at hk
   conv=>whnf
   by_cases h3:n=384
   ·refine bt_ ?_ (by simp [h3])
    by_cases h4:legal0 n old v / 2 ^ 60 % 2 ^ 4=0
    ·refine bf_ ?_ (by rw [h4];rfl)
     rw [if_neg (fun e=>e.2.1 h4)] at hk
     exact ⟨h,hO.le,hk⟩
    ·refine bt_ ?_
     by_cases h5:legal0 n old v / 2 ^ 60 % 2 ^ 4=8
     ·refine bf_ ?_ (by rw [h5];rfl)
      rw [if_neg (fun e=>e.2.2 h5)] at hk
      exact ⟨h,hO.le,hk⟩
     ·refine bt_ ?_
      rw [if_pos ⟨h3,h4,h5⟩] at hk
      exact ⟨h,hO.le,hk⟩
   ·refine bf_ ?_ (by simp [h3])
    rw [if_neg (fun e=>h3 e.1)] at hk
    exact ⟨h,hO.le,hk⟩
end
end Go.Proofs.YtdhlpighdlnohaaGreat
namespace Go.Proofs.YtdhlpighdlnohaaGreat
open Go Go.Mid Go.RowKit Go.Bits
attribute [local irreducible] mid
def stName:List Str:=[[115,105,101],[109,105,101],[115,112,105,101],[109,112,105,101],[115,112,112],[109,112,114,118],[115,117,109],[109,120,114],[116,118,109],[116,119],[116,115,114]]
def stBit:List Nat:=[1,3,5,7,8,17,18,19,20,21,22]
theorem stBit_lt:∀ i,i<11→stBit.getD i 0<23:=by decide
theorem put_bw {x w i k:Nat} (hx:x<2 ^ 64) (hi:i<64):putN x i 1 (bitN w k)=withN x i (bitB w k):=by
 rw [put_with hx hi]
 unfold bitB
 rw [bit_b (bitN_lt _ _)]
theorem rview2_eq {w:Nat} (hw:w<2 ^ 64):putN (putN (putN (putN (putN (putN 0 1 1 (bitN w 1)) 5 1 (bitN w 5)) 8 1 (bitN w 8)) 18 1 (bitN w 18)) 19 1 (bitN w 19)) 33 1 (bitN w 33)=viewN w:=by
 rw [← rview_eq hw,put_bw (put_lt ..) (by decide),put_bw (put_lt ..) (by decide),put_bw (put_lt ..) (by decide),put_bw (put_lt ..) (by decide),put_bw (put_lt ..) (by decide),put_bw (by decide) (by decide)]
section
variable {h:Hp} {K:Value→Hp→Prop}
abbrev rfT:TypeId := 100
theorem aggRfF:isAggT Tryz.prog rfT=some true:=by kernel_rfl
theorem sizRfF:sizeT Tryz.prog rfT=some 37:=by kernel_rfl
theorem rf_st {y:Nat} {x:List Value} (hb:h y=some (rowO rfT x)) (hx:x.length=37) (f:Csf):storeH Tryz.prog rfT h ⟨y,0,none⟩ (.agg f.rcs.toArray)=some (y,rowO rfT f.rcs) :=
 storeA0 (z:=.agg f.rcs.toArray) sizRfF hb hx (rcs_len f) (rcs_one f)
theorem rf_ld {y:Nat} {f:Csf} (hb:h y=some (rowO rfT f.rcs)):loadH Tryz.prog rfT h ⟨y,0,none⟩=some (.agg f.rcs.toArray):=loadA0 aggRfF sizRfF hb (rcs_len f)
theorem rsat_x (i:Nat) (hi:i<11) (hk:K (.int .i64 (stBit.getD i 0:Nat)) h):X Tryz.prog 366 #[.string (bs (stName.getD i []))] h K:=by
 rcases (show i=0∨i=1∨i=2∨i=3∨i=4∨i=5∨i=6∨i=7∨i=8∨i=9∨i=10 by omega) with rfl | rfl | rfl | rfl | rfl | rfl | rfl | rfl | rfl | rfl | rfl
 all_goals
  refine fnv (args:=_) mixed [] [] [] Tryz.func366 rfl (by kernel_rfl) (cw_ ?_)
  repeat (first | (refine seq_true (by decide) (cw_ ?_)) | (refine seq_false (by decide) (cw_ ?_)))
  exact hk
theorem rsget_x (i:Nat) (hi:i<11) (w:Nat) (hw:w<2 ^ 64) (hk:K (uv (bitN w (stBit.getD i 0))) h):X Tryz.prog 301 #[uv w,.string (bs (stName.getD i []))] h K:=by
 have hb:=stBit_lt i hi
 refine fnv (args:=_) mixed [] [] [] Tryz.func301 rfl (by kernel_rfl) (cw_ ?_)
 refine rsat_x i hi (cw_ ?_)
 refine rbit_x w (stBit.getD i 0:Nat) hw (by omega) ?_
 rw [if_pos (by omega),Int.toNat_natCast]
 exact hk
theorem rsput_x (i:Nat) (hi:i<11) (w n:Nat) (hw:w<2 ^ 64) (hn:n<2 ^ 64) (hk:K (uv (putN w (stBit.getD i 0) 1 n)) h):X Tryz.prog 330 #[uv w,.string (bs (stName.getD i [])),uv n] h K:=by
 have hb:=stBit_lt i hi
 refine fnv (args:=_) mixed [] [] [] Tryz.func330 rfl (by kernel_rfl) (cw_ ?_)
 refine rsat_x i hi (cw_ ?_)
 refine rput_x w _ 1 n hw hn (by omega) (by decide) ?_
 exact hk
theorem bit64 (w i:Nat):bitN w i<2 ^ 64:=Nat.lt_of_lt_of_le (bitN_lt w i) (by decide)
theorem rsview_x (w:Nat) (hw:w<2 ^ 64) (hk:K (uv (viewN w)) h):X Tryz.prog 246 #[uv w] h K:=by
 refine X.forget ?_
 rw [← rview2_eq hw] at hk
 have hp:∀ a b c d,putN a b c d<2 ^ 64:=fun a b c d=>put_lt ..
 refine fnv (args:=_) mixed [] [301, 330] [] Tryz.func246 rfl (by kernel_rfl) (cw_ ?_)
 refine new_intro (o:=_) (fun b h1 n_b le_b at_b ot_b=>cw_ ?_)
 refine loop_at [5,3] [] (fun r vs _ h'=>h1=h'∧((r=5∧vs=[.v (.int .i64 0),.v (uv 0)])∨(r=4∧vs=[.v (.int .i64 1),.v (uv (putN 0 1 1 (bitN w 1)))])∨(r=3∧vs=[.v (.int .i64 2),.v (uv (putN (putN 0 1 1 (bitN w 1)) 5 1 (bitN w 5)))])∨(r=2∧vs=[.v (.int .i64 3),.v (uv (putN (putN (putN 0 1 1 (bitN w 1)) 5 1 (bitN w 5)) 8 1 (bitN w 8)))])∨(r=1∧vs=[.v (.int .i64 4),.v (uv (putN (putN (putN (putN 0 1 1 (bitN w 1)) 5 1 (bitN w 5)) 8 1 (bitN w 8)) 18 1 (bitN w 18)))])∨(r=0∧vs=[.v (.int .i64 5),.v (uv (putN (putN (putN (putN (putN 0 1 1 (bitN w 1)) 5 1 (bitN w 5)) 8 1 (bitN w 8)) 18 1 (bitN w 18)) 19 1 (bitN w 19)))]))) 5 ⟨rfl,.inl ⟨rfl,rfl⟩⟩ ?_
 rintro r vs cs mm bx _ ⟨rfl,⟨rfl,rfl⟩ | ⟨rfl,rfl⟩ | ⟨rfl,rfl⟩ | ⟨rfl,rfl⟩ | ⟨rfl,rfl⟩ | ⟨rfl,rfl⟩⟩
 ·conv=>whnf
  refine ⟨_,loadC (i:=0) aggRcS at_b rfl,cw_ ?_⟩
  refine ⟨_,loadC (i:=0) aggRcS at_b rfl,cw_ ?_⟩
  refine ⟨_,rsget_x 0 (by decide) w hw ⟨rfl,rfl⟩,cw_ ?_⟩
  refine ⟨_,rsput_x 0 (by decide) _ _ (by decide) (bit64 _ _) ⟨rfl,rfl⟩,cw_ ?_⟩
  exact ⟨4,by decide,rfl,.inr (.inl ⟨rfl,rfl⟩)⟩
 ·conv=>whnf
  refine ⟨_,loadC (i:=1) aggRcS at_b rfl,cw_ ?_⟩
  refine ⟨_,loadC (i:=1) aggRcS at_b rfl,cw_ ?_⟩
  refine ⟨_,rsget_x 2 (by decide) w hw ⟨rfl,rfl⟩,cw_ ?_⟩
  refine ⟨_,rsput_x 2 (by decide) _ _ (hp _ _ _ _) (bit64 _ _) ⟨rfl,rfl⟩,cw_ ?_⟩
  exact ⟨3,by decide,rfl,.inr (.inr (.inl ⟨rfl,rfl⟩))⟩
 ·conv=>whnf
  refine ⟨_,loadC (i:=2) aggRcS at_b rfl,cw_ ?_⟩
  refine ⟨_,loadC (i:=2) aggRcS at_b rfl,cw_ ?_⟩
  refine ⟨_,rsget_x 4 (by decide) w hw ⟨rfl,rfl⟩,cw_ ?_⟩
  refine ⟨_,rsput_x 4 (by decide) _ _ (hp _ _ _ _) (bit64 _ _) ⟨rfl,rfl⟩,cw_ ?_⟩
  exact ⟨2,by decide,rfl,.inr (.inr (.inr (.inl ⟨rfl,rfl⟩)))⟩
 ·conv=>whnf
  refine ⟨_,loadC (i:=3) aggRcS at_b rfl,cw_ ?_⟩
  refine ⟨_,loadC (i:=3) aggRcS at_b rfl,cw_ ?_⟩
  refine ⟨_,rsget_x 6 (by decide) w hw ⟨rfl,rfl⟩,cw_ ?_⟩
  refine ⟨_,rsput_x 6 (by decide) _ _ (hp _ _ _ _) (bit64 _ _) ⟨rfl,rfl⟩,cw_ ?_⟩
  exact ⟨1,by decide,rfl,.inr (.inr (.inr (.inr (.inl ⟨rfl,rfl⟩))))⟩
 ·conv=>whnf
  refine ⟨_,loadC (i:=4) aggRcS at_b rfl,cw_ ?_⟩
  refine ⟨_,loadC (i:=4) aggRcS at_b rfl,cw_ ?_⟩
  refine ⟨_,rsget_x 7 (by decide) w hw ⟨rfl,rfl⟩,cw_ ?_⟩
  refine ⟨_,rsput_x 7 (by decide) _ _ (hp _ _ _ _) (bit64 _ _) ⟨rfl,rfl⟩,cw_ ?_⟩
  exact ⟨0,by decide,rfl,.inr (.inr (.inr (.inr (.inr ⟨rfl,rfl⟩))))⟩
 ·conv=>whnf
  refine rbit_x w 33 hw (by decide) (cw_ ?_)
  refine rput_x _ 33 1 _ (hp _ _ _ _) (bit64 _ _) (by decide) (by decide) ?_
  exact ⟨h,le_b,hk⟩
theorem rslay_x (w v:Nat) (hw:w<2 ^ 64) (hv:v<2 ^ 64) (hk:K (uv (layS w v)) h):X Tryz.prog 253 #[uv w,uv v] h K:=by
 refine fnv (args:=_) mixed [] [] [] Tryz.func253 rfl (by kernel_rfl) (cw_ ?_)
 refine rclegal_x 256 w v hw hv ?_
 exact hk
theorem rcand_x (a b:Nat) (ha:a<2 ^ 64) (hb:b<2 ^ 64) (hk:K (uv (a &&& b)) h):X Tryz.prog 244 #[uv a,uv b] h K:=by
 refine X.forget ?_
 rw [← band_eq b ha] at hk
 have hf:∀ i,bitN a i*bitN b i<2:=fun i=>by
  rcases bit_two a i with e | e <;> rcases bit_two b i with e2 | e2 <;> rw [e,e2] <;> decide
 refine fnv (args:=_) mixed [] [] [] Tryz.func244 rfl (by kernel_rfl) (cw_ ?_)
 refine loop_at [6,5] [] (fun r vs _ h'=>∃ (i:Nat) (sl:Value),i≤64∧r=64 - i∧vs=[.v (.int .i64 i),.v sl]∧Owns h h' 25 1 sl i (upto (fun i=>bitN a i*bitN b i) i)) 64
  ⟨0,.slice none 0 0,by omega,rfl,rfl,Owns.nil (Hp.le_refl _)⟩ ?_
 rintro r vs cs mm bx h1 ⟨i,sl,hi,rfl,rfl,hO⟩
 obtain ⟨sa,sc,rfl⟩:=hO.shape
 conv=>whnf
 refine br_ (fun q1=>?_) fun q1=>?_
 ·conv=>whnf
  refine rbit_x a i ha (by omega) ?_
  rw [if_pos (by omega),Int.toNat_natCast]
  conv=>whnf
  refine rbit_x b i hb (by omega) ?_
  rw [if_pos (by omega),Int.toNat_natCast]
  conv=>whnf
  have hx:=hf i
  refine ov_by (w64 (show bitN a i*bitN b i<2 ^ 64 by omega)) (cw_ ?_)
  refine new_intro (o:=rowO 25 [uv (bitN a i*bitN b i)]) (fun y h2 n_y le_y at_y ot_y=>cw_ ?_)
  refine Owns.app1 (z:=.int .u64 0) (by kernel_rfl) infU64 (by kernel_rfl) (by kernel_rfl) (by kernel_rfl) rfl (bytes:=8) (by decide) rfl rfl rfl (hO.up le_y) at_y rfl rfl (by omega) fun s3 h3 hO3=>(cw_ ?_)
  refine n_ ?_
  refine ⟨64 - (i+1),by omega,i+1,s3,by omega,rfl,rfl,?_⟩
  rw [upto_succ]
  exact hO3
 ·obtain rfl:i=64:=by omega
  conv=>whnf
  refine rofU_x hO hf (cw_ ?_)
  exact ⟨h,hO.le,hk⟩
theorem or64w {a b:Nat} (ha:a<2 ^ 64) (hb:b<2 ^ 64):IntKind.u64.wrap (IntKind.u64.wrap ((a:Int)+b) - ((a &&& b:Nat):Int))=((a ||| b:Nat):Int):=by
 have e:=or_add a b
 have l:a ||| b<2 ^ 64:=Nat.or_lt_two_pow ha hb
 have l2:a &&& b<2 ^ 64:=rcand_lt ha
 rw [toU64,toU64]
 omega
theorem rcor_x (a b:Nat) (ha:a<2 ^ 64) (hb:b<2 ^ 64) (hk:K (uv (a ||| b)) h):X Tryz.prog 243 #[uv a,uv b] h K:=by
 refine fnv (args:=_) mixed [] [] [] Tryz.func243 rfl (by kernel_rfl) (cw_ ?_)
 refine ov_wrap (cw_ ?_)
 refine rcand_x a b ha hb (cw_ ?_)
 refine ov_by (or64w ha hb) (cw_ ?_)
 exact hk
theorem num_is (i:Nat) (hi:i<34):csrNums[i]? = some (csrNums.getD i 0):=by
 rw [List.getD_eq_getElem?_getD,List.getElem?_eq_getElem (by rw [nums_len];exact hi)];rfl
theorem rc_mul (i:Nat):i*Tryz.prog.types[25].size=i:=(congrArg (i*·) (show Tryz.prog.types[25].size=1 by kernel_rfl)).trans (Nat.mul_one i)
theorem rcword_x (f:Csf) (i:Nat) (hi:i<34) (hk:K (uv (f.at (csrNums.getD i 0:Nat))) h):X Tryz.prog 132 #[.agg f.rcs.toArray,.string (bs (csrNames.getD i []))] h K:=by
 refine X.forget ?_
 refine fnv (args:=_) mixed [] [] [] Tryz.func132 rfl (by kernel_rfl) (cw_ ?_)
 refine new_intro (o:=rowO rfT f.rcs) (fun z h1 n_z le_z at_z ot_z=>cw_ ?_)
 refine rcnum_x i hi (cw_ ?_)
 refine rcatn_x i hi (cw_ ?_)
 refine n_ ?_
 refine ⟨_,loadCA (k:=1+i) (by simp [addr_add];exact rc_mul i) aggU6 at_z (rcs_w f (num_is i hi)),cw_ ?_⟩
 exact ⟨h,le_z,hk⟩
theorem rcwith_x (f:Csf) (hl:f.w.length=22) (i:Nat) (hi:i<34) {q:Nat} (ho:idxN (csrNums.getD i 0:Nat)=some q) (v:Nat) (hk:K (.agg (f.put (csrNums.getD i 0:Nat) v).rcs.toArray) h):X Tryz.prog 115 #[.agg f.rcs.toArray,.string (bs (csrNames.getD i [])),uv v] h K:=by
 refine X.forget ?_
 refine fnv (args:=_) mixed [] [] [] Tryz.func115 rfl (by kernel_rfl) (cw_ ?_)
 refine new_intro (o:=rowO rfT f.rcs) (fun z h1 n_z le_z at_z ot_z=>cw_ ?_)
 refine new_intro (o:=_) (fun y h2 n_y le_y at_y ot_y=>cw_ ?_)
 refine rcnum_x i hi (cw_ ?_)
 refine rcatn_x i hi (cw_ ?_)
 refine n_ ?_
 have hz2:=le_y _ _ at_z
 refine wr_intro (by exact storeCA (k:=1+i) (by simp [addr_add];exact rc_mul i) sizU6 hz2 (by rw [rcs_len];omega) (rcs_put hl (num_is i hi) ho v) rfl rfl) (fun h3 at_h3 ot_h3=>cw_ ?_)
 refine ⟨_,rf_ld at_h3,cw_ ?_⟩
 have hyz:y≠z:=fun e=>by rw [e] at n_y;rw [at_z] at n_y;cases n_y
 have hy3:=(ot_h3 y hyz).trans at_y
 refine wr_intro (by exact rf_st hy3 rfl _) (fun h4 at_h4 ot_h4=>cw_ ?_)
 refine ⟨_,rf_ld at_h4,cw_ ?_⟩
 exact ⟨h,fun d o e=>by
  have d1:d≠z:=fun e2=>by rw [e2,n_z] at e;cases e
  have d2:d≠y:=fun e2=>by rw [e2] at e;rw [le_z _ _ e] at n_y;cases n_y
  rw [ot_h4 d d2,ot_h3 d d1]
  exact le_y _ _ (le_z _ _ e),hk⟩
end
end Go.Proofs.YtdhlpighdlnohaaGreat
