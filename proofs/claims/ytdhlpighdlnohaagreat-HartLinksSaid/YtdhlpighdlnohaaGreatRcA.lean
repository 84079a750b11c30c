/-
  Control registers, as the document tells them: the rows.
-/
import Derived.Test.YtdhlpighdlnohaaGreatLib0
import Derived.Test.YtdhlpighdlnohaaGreatBitP
import Derived.Test.YtdhlpighdlnohaaGreatRcQ
set_option linter.unusedSimpArgs false
set_option linter.unusedVariables false
set_option maxHeartbeats 8000000
set_option maxRecDepth 10000
set_option linter.unusedSimpArgs false
set_option linter.unusedVariables false
namespace Go.Proofs.YtdhlpighdlnohaaGreat
open Go Go.Mid Go.RowKit Go.Bits
attribute [local irreducible] mid
abbrev uv (n:Nat):Value:=.int .u64 n
section
variable {h:Hp} {K:Value→Hp→Prop}
theorem aggU64:isAggT Tryz.prog 25 = some false:=by kernel_rfl
theorem infU64:Tryz.prog.info? 25 = some Tryz.prog.types[25]:=by kernel_rfl
theorem rbit_x (w:Nat) (i:Int) (hw:w<2 ^ 64) (hi:i≤63) (hk:K (uv (if 0≤i then bitN w i.toNat else 0)) h):X Tryz.prog 222 #[uv w,.int .i64 i] h K:=by
 by_cases h0:0≤i
 ·rw [if_pos h0] at hk
  refine fnv (args:=_) mixed [] [] [] Tryz.func222 rfl (by kernel_rfl) (cw_ ?_)
  refine bf_ ?_
  refine bf_ ?_
  refine loop_at [5,0] [] (fun r vs _ h'=>h=h'∧∃ k:Nat,k≤i.toNat∧r=i.toNat - k∧vs=[.v (.int .i64 k),.v (uv (w / 2 ^ k))]) i.toNat ⟨rfl,0,by omega,by omega,by rw [show w / 2 ^ 0=w by simp];rfl⟩ ?_
  rintro r vs cs mm bx _ ⟨rfl,k,hk1,rfl,rfl⟩
  conv=>whnf
  have hwk2:w / 2 ^ k≤w:=Nat.div_le_self _ _
  have hwk4:w / 2 ^ (k+1)≤w:=Nat.div_le_self _ _
  refine br_ (fun h1=>?_) fun h1=>?_
  ·conv=>whnf
   have e1:((w / 2 ^ k:Nat):Int).tdiv 2=((w / 2 ^ (k+1):Nat):Int):=by rw [Int.tdiv_eq_ediv_of_nonneg (Int.natCast_nonneg _),Nat.pow_succ,← Nat.div_div_eq_div_mul];rfl
   rw [e1]
   generalize hq:w / 2 ^ (k+1)=q at *
   have hq2:q<18446744073709551616:=by omega
   refine ov_u64 (by omega) (cw_ ?_)
   refine n_ ?_
   exact ⟨i.toNat - (k+1),by omega,rfl,k+1,by omega,rfl,by rw [hq];rfl⟩
  ·conv=>whnf
   obtain rfl:k=i.toNat:=by omega
   exact kq hk (iI (by rw [Int.tmod_eq_emod_of_nonneg (Int.natCast_nonneg _)];rfl))
 ·rw [if_neg h0] at hk
  refine fnv (args:=_) mixed [] [] [] Tryz.func222 rfl (by kernel_rfl) (cw_ ?_)
  refine bt_ ?_
  exact hk
theorem rof_x {k:Hp} {s:Value} {l:List Nat} (hO:Owns k h 25 1 s l.length (l.map uv)) (hl:l.length≤64) (h1:∀ x ∈ l,x<2) (hk:K (uv (ofL l)) h):X Tryz.prog 242 #[s] h K:=by
 rcases Nat.eq_zero_or_pos l.length with h0 | h0
 ·obtain rfl:l=[]:=List.eq_nil_of_length_eq_zero h0
  obtain ⟨sa,sc,rfl⟩:=hO.shape
  refine fnv (args:=_) mixed [] [] [] Tryz.func242 rfl (by kernel_rfl) (cw_ ?_)
  refine ov_i64 (by simp) (cw_ ?_)
  refine loop_step (cw_ ?_)
  exact hk
 ·obtain ⟨b,cap,rest,rfl,hc,hb,_⟩:=hO.row h0
  refine fnv (args:=_) mixed [] [] [] Tryz.func242 rfl (by kernel_rfl) (cw_ ?_)
  refine n_ ?_
  refine loop_at [4,3] [] (fun r vs _ h'=>h=h'∧r≤l.length∧vs=[.v (.int .i64 ((r:Int) - 1)),.v (uv (ofL (l.drop r)))]) l.length ⟨rfl,Nat.le_refl _,by rw [List.drop_length];rfl⟩ ?_
  rintro r vs cs mm bx _ ⟨rfl,hr,rfl⟩
  conv=>whnf
  refine br_ (fun q1=>?_) fun q1=>?_
  ·obtain ⟨j,rfl⟩:∃ j,r=j+1:=⟨r - 1,by omega⟩
   have hj:j<l.length:=by omega
   obtain ⟨x,hx⟩:∃ x,l[j]? = some x:=⟨_,List.getElem?_eq_getElem hj⟩
   have hx2:=h1 x (List.mem_of_getElem? hx)
   have hcell:(l.map uv++rest)[j]? = some (uv x):=by
    rw [List.getElem?_append_left (by simpa using hj),List.getElem?_map,hx];rfl
   have hd:l.drop j=x :: l.drop (j+1):=by
    rw [List.drop_eq_getElem_cons hj]
    congr 1
    exact (List.getElem?_eq_some_iff.1 hx).2
   have hlt:=ofL_lt (l.drop (j+1)) (fun y hy=>h1 y (List.mem_of_mem_drop hy))
   have hle:2 ^ (l.drop (j+1)).length≤2 ^ 63:=Nat.pow_le_pow_right (by decide) (by rw [List.length_drop];omega)
   have hlt2:ofL (l.drop (j+1))<9223372036854775808:=Nat.lt_of_lt_of_le hlt hle
   conv=>whnf
   refine bt_ ?_
   refine ov_u64 (by omega) (cw_ ?_)
   refine n_ ?_
   refine ⟨_,loadI aggU64 hb (j:=j) (by omega) hcell,cw_ ?_⟩
   refine ov_u64 (by omega) (cw_ ?_)
   refine n_ ?_
   refine ⟨j,by omega,rfl,by omega,?_⟩
   rw [hd]
   show [MV.v _,MV.v _]=_
   rw [show ((j+1:Nat):Int) - 1 - 1=(j:Int) - 1 by omega]
   rfl
  ·obtain rfl:r=0:=by omega
   conv=>whnf
   exact hk
theorem rin_x (a s b:Nat) (ha:a≤64) (hs:s≤64) (hb:b≤64) (hk:K (.tuple #[.int .i64 (if a≤b∧b<a+s then b - a else 0:Nat),.bool (decide (a≤b∧b<a+s))]) h):X Tryz.prog 316 #[.int .i64 a,.int .i64 s,.int .i64 b] h K:=by
 by_cases hc:a≤b∧b<a+s
 ·rw [if_pos hc,decide_eq_true hc] at hk
  refine fnv (args:=_) mixed [] [] [] Tryz.func316 rfl (by kernel_rfl) (cw_ ?_)
  refine bf_ ?_
  refine bf_ ?_
  refine n_ ?_
  refine n_ ?_
  refine n_ ?_
  refine n_ ?_
  refine bf_ ?_
  refine bf_ ?_
  refine n_ ?_
  exact kq hk (by rw [show ((b:Int) - a)=((b - a:Nat):Int) by omega];rfl)
 ·rw [if_neg hc,decide_eq_false hc] at hk
  refine fnv (args:=_) mixed [] [] [] Tryz.func316 rfl (by kernel_rfl) (cw_ ?_)
  refine br_ (fun q1=>?_) fun q1=>?_
  ·conv=>whnf
   exact hk
  ·conv=>whnf
   refine br_ (fun q2=>?_) fun q2=>?_
   ·conv=>whnf
    exact hk
   ·conv=>whnf
    refine n_ ?_
    refine n_ ?_
    refine n_ ?_
    refine n_ ?_
    refine bt_ ?_
    exact hk
def upto (f:Nat→Nat) (i:Nat):List Value:=((List.range i).map f).map uv
theorem upto_succ (f:Nat→Nat) (i:Nat):upto f (i+1)=upto f i++[uv (f i)]:=by
 unfold upto;rw [List.range_succ,List.map_append,List.map_append];rfl
theorem rofU_x {k h:Hp} {s:Value} {f:Nat→Nat} (hO:Owns k h 25 1 s 64 (upto f 64)) (hf:∀ i,f i<2) (hk:K (uv (bitsOf 64 f)) h):X Tryz.prog 242 #[s] h K:=by
 have hl:((List.range 64).map f).length=64:=by simp
 refine rof_x (l:=(List.range 64).map f) (by rw [hl];exact hO) (by rw [hl];exact Nat.le_refl _) (fun x hx=>?_) hk
 obtain ⟨i,_,rfl⟩:=List.mem_map.1 hx
 exact hf i
theorem rput_x (w a s n:Nat) (hw:w<2 ^ 64) (hn:n<2 ^ 64) (ha:a≤63) (hs:s≤64) (hk:K (uv (putN w a s n)) h):X Tryz.prog 254 #[uv w,.int .i64 a,.int .i64 s,uv n] h K:=by
 refine X.forget ?_
 have hf:∀ i,(if a≤i∧i<a+s then bitN n (i - a) else bitN w i)<2:=fun i=>by split <;> exact bitN_lt _ _
 refine fnv (args:=_) mixed [] [] [] Tryz.func254 rfl (by kernel_rfl) (cw_ ?_)
 refine loop_at [10,9] [] (fun r vs _ h'=>∃ (i:Nat) (sl:Value),i≤64∧r=64 - i∧vs=[.v (.int .i64 i),.v sl]∧Owns h h' 25 1 sl i (upto (fun i=>if a≤i∧i<a+s then bitN n (i - a) else bitN w i) i)) 64
  ⟨0,.slice none 0 0,by omega,rfl,rfl,Owns.nil (Hp.le_refl _)⟩ ?_
 rintro r vs cs mm bx h1 ⟨i,sl,hi,rfl,rfl,hO⟩
 obtain ⟨sa,sc,rfl⟩:=hO.shape
 conv=>whnf
 refine br_ (fun q1=>?_) fun q1=>?_
 ·conv=>whnf
  refine rin_x a s i (by omega) hs (by omega) ?_
  by_cases hc:a≤i∧i<a+s
  ·rw [if_pos hc,decide_eq_true hc]
   conv=>whnf
   refine rbit_x n (i - a:Nat) hn (by omega) ?_
   rw [if_pos (by omega)]
   conv=>whnf
   refine new_intro (o:=rowO 25 [uv (bitN n (i - a))]) (fun y h2 n_y le_y at_y ot_y=>cw_ ?_)
   refine Owns.app1 (z:=.int .u64 0) (by kernel_rfl) infU64 (by kernel_rfl) (by kernel_rfl) (by kernel_rfl) rfl (bytes:=8) (by decide) rfl rfl rfl (hO.up le_y) at_y rfl rfl (by omega) fun s3 h3 hO3=>(cw_ ?_)
   refine n_ ?_
   refine ⟨64 - (i+1),by omega,i+1,s3,by omega,rfl,rfl,?_⟩
   rw [upto_succ]
   simp only [if_pos hc]
   exact hO3
  ·rw [if_neg hc,decide_eq_false hc]
   conv=>whnf
   refine rbit_x w i hw (by omega) ?_
   rw [if_pos (by omega)]
   conv=>whnf
   refine new_intro (o:=rowO 25 [uv (bitN w i)]) (fun y h2 n_y le_y at_y ot_y=>cw_ ?_)
   refine Owns.app1 (z:=.int .u64 0) (by kernel_rfl) infU64 (by kernel_rfl) (by kernel_rfl) (by kernel_rfl) rfl (bytes:=8) (by decide) rfl rfl rfl (hO.up le_y) at_y rfl rfl (by omega) fun s3 h3 hO3=>(cw_ ?_)
   refine n_ ?_
   refine ⟨64 - (i+1),by omega,i+1,s3,by omega,rfl,rfl,?_⟩
   rw [upto_succ]
   simp only [if_neg hc]
   exact hO3
 ·obtain rfl:i=64:=by omega
  conv=>whnf
  refine rofU_x hO hf (cw_ ?_)
  exact ⟨h,hO.le,hk⟩
end
end Go.Proofs.YtdhlpighdlnohaaGreat
namespace Go.Proofs.YtdhlpighdlnohaaGreat
open Go Go.Mid Go.RowKit Go.Bits
attribute [local irreducible] mid
section
variable {h:Hp} {K:Value→Hp→Prop}
theorem rcut_x (w a s:Nat) (hw:w<2 ^ 64) (ha:a≤63) (hs:s≤64) (hk:K (uv (w / 2 ^ a % 2 ^ s)) h):X Tryz.prog 221 #[uv w,.int .i64 a,.int .i64 s] h K:=by
 rw [← cut_eq hw] at hk
 refine X.forget ?_
 have hf:∀ k,(if k<s∧a+k<64 then bitN w (a+k) else 0)<2:=fun i=>by split <;> first | exact bitN_lt _ _ | decide
 refine fnv (args:=_) mixed [] [] [] Tryz.func221 rfl (by kernel_rfl) (cw_ ?_)
 refine loop_at [8,7] [] (fun r vs _ h'=>∃ (k:Nat) (sl:Value),k≤64∧r=64 - k∧vs=[.v (.int .i64 k),.v sl]∧Owns h h' 25 1 sl k (upto (fun k=>if k<s∧a+k<64 then bitN w (a+k) else 0) k)) 64
  ⟨0,.slice none 0 0,by omega,rfl,rfl,Owns.nil (Hp.le_refl _)⟩ ?_
 rintro r vs cs mm bx h1 ⟨k,sl,hi,rfl,rfl,hO⟩
 obtain ⟨sa,sc,rfl⟩:=hO.shape
 conv=>whnf
 refine br_ (fun q1=>?_) fun q1=>?_
 ·conv=>whnf
  refine br_ (fun q2=>?_) fun q2=>?_
  ·conv=>whnf
   refine loop_at [10,9] [] (fun r vs _ h'=>h1=h'∧∃ i:Nat,i≤64∧r=64 - i∧vs=[.v (.int .i64 i),.v (uv (if a+k<i then bitN w (a+k) else 0))]) 64 ⟨rfl,0,by omega,rfl,by rw [if_neg (by omega)];rfl⟩ ?_
   rintro r vs cs mm2 bx2 _ ⟨rfl,i,hi2,rfl,rfl⟩
   conv=>whnf
   refine br_ (fun q3=>?_) fun q3=>?_
   ·conv=>whnf
    refine rin_x a s i (by omega) hs (by omega) ?_
    by_cases hc:a≤i∧i<a+s
    ·rw [if_pos hc,decide_eq_true hc]
     conv=>whnf
     by_cases he:i - a=k
     ·have hik:i=a+k:=by omega
      refine bt_ ?_
      refine rbit_x w i hw (by omega) ?_
      rw [if_pos (by omega),Int.toNat_natCast]
      conv=>whnf
      refine n_ ?_
      exact ⟨64 - (i+1),by omega,rfl,i+1,by omega,rfl,by rw [show (if a+k<i+1 then bitN w (a+k) else 0)=bitN w i by rw [if_pos (by omega),← hik]];rfl⟩
     ·refine bf_ ?_
      refine n_ ?_
      refine ⟨64 - (i+1),by omega,rfl,i+1,by omega,rfl,?_⟩
      rw [show (if a+k<i+1 then bitN w (a+k) else 0)=(if a+k<i then bitN w (a+k) else 0) by
       by_cases h9:a+k<i
       ·rw [if_pos h9,if_pos (by omega)]
       ·rw [if_neg h9,if_neg (by omega)]]
      rfl
    ·rw [if_neg hc,decide_eq_false hc]
     conv=>whnf
     refine n_ ?_
     refine ⟨64 - (i+1),by omega,rfl,i+1,by omega,rfl,?_⟩
     rw [show (if a+k<i+1 then bitN w (a+k) else 0)=(if a+k<i then bitN w (a+k) else 0) by
      by_cases h9:a+k<i
      ·rw [if_pos h9,if_pos (by omega)]
      ·rw [if_neg h9,if_neg (by omega)]]
     rfl
   ·obtain rfl:i=64:=by omega
    conv=>whnf
    refine new_intro (o:=rowO 25 [uv (if a+k<64 then bitN w (a+k) else 0)]) (fun y h2 n_y le_y at_y ot_y=>cw_ ?_)
    refine Owns.app1 (z:=.int .u64 0) (by kernel_rfl) infU64 (by kernel_rfl) (by kernel_rfl) (by kernel_rfl) rfl (bytes:=8) (by decide) rfl rfl rfl (hO.up le_y) at_y rfl rfl (by omega) fun s3 h3 hO3=>(cw_ ?_)
    refine n_ ?_
    refine ⟨64 - (k+1),by omega,k+1,s3,by omega,rfl,rfl,?_⟩
    rw [upto_succ]
    rw [show (if k<s∧a+k<64 then bitN w (a+k) else 0)=(if a+k<64 then bitN w (a+k) else 0) by
     by_cases h9:a+k<64
     ·rw [if_pos h9,if_pos ⟨by omega,h9⟩]
     ·rw [if_neg h9,if_neg (fun h=>h9 h.2)]]
    exact hO3
  ·conv=>whnf
   refine new_intro (o:=rowO 25 [uv 0]) (fun y h2 n_y le_y at_y ot_y=>cw_ ?_)
   refine Owns.app1 (z:=.int .u64 0) (by kernel_rfl) infU64 (by kernel_rfl) (by kernel_rfl) (by kernel_rfl) rfl (bytes:=8) (by decide) rfl rfl rfl (hO.up le_y) at_y rfl rfl (by omega) fun s3 h3 hO3=>(cw_ ?_)
   refine n_ ?_
   refine ⟨64 - (k+1),by omega,k+1,s3,by omega,rfl,rfl,?_⟩
   rw [upto_succ]
   rw [if_neg (fun h=>by omega)]
   exact hO3
 ·obtain rfl:k=64:=by omega
  conv=>whnf
  refine rofU_x hO hf (cw_ ?_)
  exact ⟨h,hO.le,hk⟩
end
end Go.Proofs.YtdhlpighdlnohaaGreat
namespace Go.Proofs.YtdhlpighdlnohaaGreat
open Go Go.Mid Go.RowKit Go.Bits
attribute [local irreducible] mid
def rowRV (n:Int):Value:=match csrAll.find? (fun r=>decide ((r.1.1:Int)=n)) with
 | some r=>.agg (rwC r).toArray
 | none=>.agg #[.int .i64 0,.string (bs []),.int .u64 0]
section
variable {h:Hp} {K:Value→Hp→Prop}
abbrev rcRow:TypeId := 243
theorem aggRcR:isAggT Tryz.prog rcRow=some true:=by kernel_rfl
theorem sizRcR:sizeT Tryz.prog rcRow=some 3:=by kernel_rfl
theorem aggRcS:isAggT Tryz.prog 9 = some false:=by kernel_rfl
theorem rcrows_x (hk:∀ b h',h b=none→h.le h'→h' b=some (rowO rcRow (csrAll.flatMap rwC++[]))→K (.slice (some ⟨b,0,none⟩) 34 34) h'):X Tryz.prog 133 #[] h K:=by
 refine fnv (args:=_) mixed [] [] [] Tryz.func133 rfl (by kernel_rfl) (cw_ ?_)
 refine new_intro (o:=_) (fun b h1 n_b le_b at_b ot_b=>?_)
 exact hk b h1 n_b le_b (at_b.trans (by kernel_rfl))
theorem rcrow_at {b:Nat} {j:Nat} {r:(Nat×Nat)×Str} (hb:h b=some (rowO rcRow (csrAll.flatMap rwC++[]))) (hj:csrAll[j]? = some r):loadH Tryz.prog rcRow h ((⟨b,0,none⟩:Addr).add (((j:Int)).toNat*3))=some (.agg (rwC r).toArray):=by
 rw [Int.toNat_natCast]
 exact loadH_agg aggRcR sizRcR (fun _=>rfl) hb hj
theorem rcrow_c {b:Nat} {j k:Nat} {r:(Nat×Nat)×Str} {t:TypeId} {v:Value} (ht:isAggT Tryz.prog t=some false) (hb:h b=some (rowO rcRow (csrAll.flatMap rwC++[]))) (hj:csrAll[j]? = some r) (hk:k<3) (hv:(rwC r)[k]? = some v):loadH Tryz.prog t h (((⟨b,0,none⟩:Addr).add (((j:Int)).toNat*3)).add k)=some v:=by
 rw [Int.toNat_natCast,loadH_cell ht]
 exact loadH_cellOf aggRcR sizRcR (loadH_agg (f:=rwC) aggRcR sizRcR (fun _=>rfl) hb hj) (by simpa using hv)
theorem find_no {n:Int} {j:Nat} (hj:j=34) (hno:∀ i y,i<j→csrAll[i]? = some y→decide ((y.1.1:Int)=n)=false):csrAll.find? (fun r=>decide ((r.1.1:Int)=n))=none:=by
 subst hj
 exact find_never fun i y hy=>hno i y (by have:=(List.getElem?_eq_some_iff.1 hy).1;rw [csrAll_len] at this;exact this) hy
theorem rcof_x (n:Int) (hk:K (rowRV n) h):X Tryz.prog 245 #[.int .i64 n] h K:=by
 refine X.forget ?_
 refine fnv (args:=_) mixed [(2,2)] [] [] Tryz.func245 rfl (by kernel_rfl) (cw_ ?_)
 refine rcrows_x fun b h1 n_b le_b at_b=>(cw_ ?_)
 refine loop_at [4] [2] (fun r vs cs h'=>cs=[some [.int .i64 0,.string (bs []),.int .u64 0]]∧h1=h'∧∃ j:Nat,j≤34∧r=34 - j∧vs=[.v (.int .i64 j)]∧∀ i y,i<j→csrAll[i]? = some y→decide ((y.1.1:Int)=n)=false) 34 ⟨rfl,rfl,0,by omega,by omega,rfl,fun i y hi=>by omega⟩ ?_
 rintro r vs cs mm bx _ ⟨rfl,rfl,j,hj,rfl,rfl,hno⟩
 conv=>whnf
 refine br_ (fun q1=>?_) fun q1=>?_
 ·obtain ⟨r,hr⟩:∃ r,csrAll[j]? = some r:=⟨_,List.getElem?_eq_getElem (by rw [csrAll_len];omega)⟩
  have hl:=rcrow_at at_b hr
  have hl0:=rcrow_c (k:=0) aggIn at_b hr (by decide) rfl
  conv=>whnf
  refine n_ ?_
  refine ⟨_,hl0,cw_ ?_⟩
  by_cases q2:(r.1.1:Int)=n
  ·rw [show ((r.1.1:Int)==n)=true by simpa using q2]
   have hV:rowRV n=.agg (rwC r).toArray:=by unfold rowRV;rw [find_first hr (decide_eq_true q2) hno]
   rw [hV] at hk
   conv=>whnf
   refine n_ ?_
   refine ⟨_,hl,cw_ ?_⟩
   exact ⟨h,le_b,hk⟩
  ·rw [show ((r.1.1:Int)==n)=false by simpa using q2]
   conv=>whnf
   refine n_ ?_
   exact ⟨34 - (j+1),by omega,rfl,rfl,j+1,by omega,rfl,rfl,fun i y hi hy=>by
    by_cases e:i=j
    ·subst e;rw [hr] at hy;cases hy;exact decide_eq_false q2
    ·exact hno i y (by omega) hy⟩
 ·obtain rfl:j=34:=by omega
  have hV:rowRV n=.agg #[.int .i64 0,.string (bs []),.int .u64 0]:=by
   unfold rowRV
   rw [find_no rfl hno]
  rw [hV] at hk
  conv=>whnf
  exact ⟨h,le_b,hk⟩
theorem rcnum_x (i:Nat) (hi:i<34) (hk:K (.int .i64 (csrNums.getD i 0:Nat)) h):X Tryz.prog 203 #[.string (bs (csrNames.getD i []))] h K:=by
 refine X.forget ?_
 refine fnv (args:=_) mixed [] [] [] Tryz.func203 rfl (by kernel_rfl) (cw_ ?_)
 refine rcrows_x fun b h1 n_b le_b at_b=>(cw_ ?_)
 refine loop_at [4] [] (fun r vs cs h'=>h1=h'∧∃ j:Nat,j≤i∧r=34 - j∧vs=[.v (.int .i64 j)]) 34 ⟨rfl,0,by omega,by omega,rfl⟩ ?_
 rintro r vs cs mm bx _ ⟨rfl,j,hj,rfl,rfl⟩
 conv=>whnf
 refine bt_ ?_
 have hr:=all_get j (by omega)
 have hl1:=rcrow_c (k:=1) aggRcS at_b hr (by decide) rfl
 have hl0:=rcrow_c (k:=0) aggIn at_b hr (by decide) rfl
 conv=>whnf
 refine n_ ?_
 refine ⟨_,hl1,cw_ ?_⟩
 by_cases q2:j=i
 ·subst q2
  refine seq_true (rfl) (cw_ ?_)
  refine n_ ?_
  refine ⟨_,hl0,cw_ ?_⟩
  exact ⟨h,le_b,hk⟩
 ·refine seq_false ((fun e=>q2 (names_inj j (by omega) i hi e))) (cw_ ?_)
  refine n_ ?_
  exact ⟨34 - (j+1),by omega,rfl,j+1,by omega,rfl,rfl⟩
theorem rcatn_x (i:Nat) (hi:i<34) (hk:K (.int .i64 i) h):X Tryz.prog 202 #[.int .i64 (csrNums.getD i 0:Nat)] h K:=by
 refine X.forget ?_
 refine fnv (args:=_) mixed [] [] [] Tryz.func202 rfl (by kernel_rfl) (cw_ ?_)
 refine rcrows_x fun b h1 n_b le_b at_b=>(cw_ ?_)
 refine loop_at [4] [] (fun r vs cs h'=>h1=h'∧∃ j:Nat,j≤i∧r=34 - j∧vs=[.v (.int .i64 j)]) 34 ⟨rfl,0,by omega,by omega,rfl⟩ ?_
 rintro r vs cs mm bx _ ⟨rfl,j,hj,rfl,rfl⟩
 conv=>whnf
 refine bt_ ?_
 have hr:=all_get j (by omega)
 have hl0:=rcrow_c (k:=0) aggIn at_b hr (by decide) rfl
 conv=>whnf
 refine n_ ?_
 refine ⟨_,hl0,cw_ ?_⟩
 by_cases q2:j=i
 ·subst q2
  refine bt_ ?_
  exact ⟨h,le_b,hk⟩
 ·refine bf_ ?_ (by simp;exact fun e=>q2 (nums_inj j (by omega) i hi (by simp;omega)))
  refine n_ ?_
  exact ⟨34 - (j+1),by omega,rfl,j+1,by omega,rfl,rfl⟩
theorem rclegal_x (n:Int) (old v:Nat) (ho:old<2 ^ 64) (hv:v<2 ^ 64) (hk:K (uv (legalN n old v)) h):X Tryz.prog 255 #[.int .i64 n,uv old,uv v] h K:=by
 refine X.forget ?_
 rw [← rlegalN_eq hv] at hk
 have hm:=mask_lt n
 have hf:∀ i,(if bitN (maskN n) i=1 then bitN v i else bitN old i)<2:=fun i=>by split <;> exact bitN_lt _ _
 have hl0:=legal0_lt (n:=n) (old:=old) hv
 have hR:∃ a:Value,∃ s:Value,rowRV n=.agg #[a,s,uv (maskN n)]:=by
  unfold rowRV
  rcases row_cases n with ⟨i,_,_,_,e⟩ | ⟨_,e1,e⟩
  ·rw [e];exact ⟨_,_,rfl⟩
  ·rw [e,(row_none e).2];exact ⟨_,_,rfl⟩
 obtain ⟨ra,rs,hR⟩:=hR
 refine fnv (args:=_) mixed [] [] [] Tryz.func255 rfl (by kernel_rfl) (cw_ ?_)
 refine rcof_x n ?_
 rw [hR]
 conv=>whnf
 refine loop_at [9,8] [] (fun r vs _ h'=>∃ (i:Nat) (sl:Value),i≤64∧r=64 - i∧vs=[.v (.int .i64 i),.v sl]∧Owns h h' 25 1 sl i (upto (fun i=>if bitN (maskN n) i=1 then bitN v i else bitN old i) i)) 64
  ⟨0,.slice none 0 0,by omega,rfl,rfl,Owns.nil (Hp.le_refl _)⟩ ?_
 rintro r vs cs mm bx h1 ⟨i,sl,hi,rfl,rfl,hO⟩
 obtain ⟨sa,sc,rfl⟩:=hO.shape
 conv=>whnf
 refine br_ (fun q1=>?_) fun q1=>?_
 ·conv=>whnf
  refine rbit_x (maskN n) i hm (by omega) ?_
  rw [if_pos (by omega),Int.toNat_natCast]
  conv=>whnf
  by_cases hc:bitN (maskN n) i=1
  ·refine bt_ ?_ (by rw [hc];rfl)
   refine rbit_x v i hv (by omega) ?_
   rw [if_pos (by omega),Int.toNat_natCast]
   conv=>whnf
   refine new_intro (o:=rowO 25 [uv (bitN v i)]) (fun y h2 n_y le_y at_y ot_y=>cw_ ?_)
   refine Owns.app1 (z:=.int .u64 0) (by kernel_rfl) infU64 (by kernel_rfl) (by kernel_rfl) (by kernel_rfl) rfl (bytes:=8) (by decide) rfl rfl rfl (hO.up le_y) at_y rfl rfl (by omega) fun s3 h3 hO3=>(cw_ ?_)
   refine n_ ?_
   refine ⟨64 - (i+1),by omega,i+1,s3,by omega,rfl,rfl,?_⟩
   rw [upto_succ]
   simp only [if_pos hc]
   exact hO3
  ·refine bf_ ?_ (by simp;exact fun e=>hc (by omega))
   refine rbit_x old i ho (by omega) ?_
   rw [if_pos (by omega),Int.toNat_natCast]
   conv=>whnf
   refine new_intro (o:=rowO 25 [uv (bitN old i)]) (fun y h2 n_y le_y at_y ot_y=>cw_ ?_)
   refine Owns.app1 (z:=.int .u64 0) (by kernel_rfl) infU64 (by kernel_rfl) (by kernel_rfl) (by kernel_rfl) rfl (bytes:=8) (by decide) rfl rfl rfl (hO.up le_y) at_y rfl rfl (by omega) fun s3 h3 hO3=>(cw_ ?_)
   refine n_ ?_
   refine ⟨64 - (i+1),by omega,i+1,s3,by omega,rfl,rfl,?_⟩
   rw [upto_succ]
   simp only [if_neg hc]
   exact hO3
 ·obtain rfl:i=64:=by omega
  conv=>whnf
  refine rofU_x hO hf ?_
  rw [rlegal_eq n ho hv]
  conv=>whnf
  by_cases h7:n=768
  ·refine bt_ ?_ (by simp [h7])
   refine rcut_x (legal0 n old v) 11 2 hl0 (by decide) (by decide) (cw_ ?_)
   by_cases h2:legal0 n old v / 2 ^ 11 % 2 ^ 2=2
   ·refine bt_ ?_ (by rw [h2];rfl)
    refine rcut_x old 11 2 ho (by decide) (by decide) (cw_ ?_)
    refine rput_x (legal0 n old v) 11 2 _ hl0 (by omega) (by decide) (by decide) (cw_ ?_)
    refine rcut_x _ 60 4 (put_lt ..) (by decide) (by decide) (cw_ ?_)
    refine bf_ ?_ (by simp [h7])
    rw [if_neg (fun e=>by omega),if_pos ⟨h7,h2⟩] at hk
    exact ⟨h,hO.le,hk⟩
   ·refine bf_ ?_ (by simp;exact fun e=>h2 (by omega))
    refine rcut_x _ 60 4 hl0 (by decide) (by decide) (cw_ ?_)
    refine bf_ ?_ (by simp [h7])
    rw [if_neg (fun e=>by omega),if_neg (fun e=>h2 e.2)] at hk
    exact ⟨h,hO.le,hk⟩
  ·refine bf_ ?_ (by simp [h7])
   refine rcut_x _ 60 4 hl0 (by decide) (by decide) ?_
   simp only [if_neg (fun e:n=768∧legal0 n old v / 2 ^ 11 % 2 ^ 2=2=>h7 e.1)] at hk
   conv=>whnf
   by_cases h3:n=384
   ·refine bt_ ?_ (by simp [h3])
    by_cases h4:legal0 n old v / 2 ^ 60 % 2 ^ 4=0
    ·refine bf_ ?_ (by rw [h4];rfl)
     rw [if_neg (fun e=>e.2.1 h4)] at hk
     exact ⟨h,hO.le,hk⟩
    ·refine bt_ ?_
     by_cases h5:legal0 n old v / 2 ^ 60 % 2 ^ 4=8
     ·refine bf_ ?_ (by rw [h5];rfl)
      rw [if_neg (fun e=>e.2.2 h5)] at hk
      exact ⟨h,hO.le,hk⟩
     ·refine bt_ ?_
      rw [if_pos ⟨h3,h4,h5⟩] at hk
      exact ⟨h,hO.le,hk⟩
   ·refine bf_ ?_ (by simp [h3])
    rw [if_neg (fun e=>h3 e.1)] at hk
    exact ⟨h,hO.le,hk⟩
end
end Go.Proofs.YtdhlpighdlnohaaGreat
