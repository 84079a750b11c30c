/-
  Registers of devices: where there is one.
-/
import Derived.Test.YtdhlpighdlnohaaGreatWaB
import Derived.Test.YtdhlpighdlnohaaGreatWoAc
set_option linter.unusedSimpArgs false
set_option linter.unusedVariables false
set_option maxHeartbeats 8000000
set_option maxRecDepth 10000
set_option linter.unusedSimpArgs false
set_option linter.unusedVariables false
namespace Go.Proofs.YtdhlpighdlnohaaGreat
open Go Go.Mid Go.RowKit Go.Bits
attribute [local irreducible] mid
def clF (n off size:Int):Bool:=decide ((size=4∧off % 4=0∧off / 4<n)∨((size=4∨size=8)∧off % size=0∧(off - off % 8=49144∨(16384≤off - off % 8∧off - off % 8<16384+8*n))))
def plF (n off size:Int):Bool:=decide (size=4∧off % 4=0∧((4≤off∧off<128)∨off=4096∨(8192≤off∧off<8192+256*n∧off % 128=0)∨(2097152≤off∧off<2097152+8192*n∧(off % 4096=0∨off % 4096=4))))
def uaF (off size:Int):Bool:=decide (off<8∧size=1)
def fitsN (n:Int) (a:Nat) (size:Int):Bool:=(decide (33554432≤(a:Int)) && clF n ((a:Int) - 33554432) size) || ((decide (201326592≤(a:Int)) && plF n ((a:Int) - 201326592) size) || (decide (268435456≤(a:Int)) && uaF ((a:Int) - 268435456) size))
section
variable {h:Hp} {K:Value→Hp→Prop}
theorem u64in {x:Int} (h:0≤x∧x<18446744073709551616):IntKind.u64.wrap x=x:=by rw [toU64];omega
theorem tm {x m:Int} (hx:0≤x):x.tmod m=x % m:=Int.tmod_eq_emod_of_nonneg hx
theorem td {x m:Int} (hx:0≤x):x.tdiv m=x / m:=Int.tdiv_eq_ediv_of_nonneg hx
theorem ckfind_x {c:Nat} (n:Nat) (h1:1≤n) (h2:n≤8) (hc:h c=some (rowO 452 (Ck.new n).cs)) (off size:Int) (ho:0≤off∧off<18446744073709551616) (hk:∀ (a:Int) (b:Option Addr) (d:Int) (q:Bool),q=clF n off size→K (.tuple #[.agg #[.int .i64 a,.pointer b,.int .u64 d],.bool q]) h):X Tryz.prog 405 #[.pointer (some ⟨c,0,none⟩),.int .u64 off,.int .i64 size] h K:=by
 have hk1:clF n off size=true→∀ (a:Int) (b:Option Addr) (d:Int),K (.tuple #[.agg #[.int .i64 a,.pointer b,.int .u64 d],.bool true]) h:=fun e a b d=>hk a b d true e.symm
 have hk0:clF n off size=false→∀ (a:Int) (b:Option Addr) (d:Int),K (.tuple #[.agg #[.int .i64 a,.pointer b,.int .u64 d],.bool false]) h:=fun e a b d=>hk a b d false e.symm
 unfold clF at hk1 hk0
 simp only [decide_eq_true_eq,decide_eq_false_iff_not] at hk1 hk0
 clear hk
 obtain ⟨m4,e4⟩:∃ m,off.tmod 4=m:=⟨_,rfl⟩
 obtain ⟨d4,f4⟩:∃ m,off.tdiv 4=m:=⟨_,rfl⟩
 obtain ⟨m8,e8⟩:∃ m,off.tmod 8=m:=⟨_,rfl⟩
 rw [tm ho.1] at e4 e8
 rw [td ho.1] at f4
 obtain ⟨al,hal⟩:∃ x,off - m8=x:=⟨_,rfl⟩
 have hal1:0≤al∧al<18446744073709551616:=by omega
 have m8b:0≤m8∧m8<8:=by omega
 rw [e8] at hk1 hk0
 rw [hal] at hk1 hk0
 have hal2:=hal
 clear hal
 by_cases s4:size=4
 ·subst s4
  rw [e4,f4] at hk1 hk0
  refine fnv (args:=_) mixed [(6,6)] [] [] Tryz.func405 rfl (by kernel_rfl) (cw_ ?_)
  refine ⟨_,loadC0 aggI4 hc rfl,cw_ ?_⟩
  refine ov_by (w64 (show n<2 ^ 64 by omega)) (cw_ ?_)
  rw [tm ho.1,e4]
  by_cases q4:m4=0
  ·subst q4
   conv=>whnf
   rw [td ho.1,f4]
   refine ov_by (u64in (by omega)) (cw_ ?_)
   by_cases l4:d4<n
   ·have hk1:=hk1 (by omega)
    rw [decide_eq_true l4]
    conv=>whnf
    rw [td ho.1,f4]
    refine ov_by (u64in (by omega)) (cw_ ?_)
    refine ov_is (show d4=d4 from rfl) (by omega) (cw_ ?_)
    exact hk1 _ _ _
   ·rw [decide_eq_false l4]
    conv=>whnf
    refine ov_by (u64in (by decide)) (cw_ ?_)
    rw [tm ho.1,e4]
    conv=>whnf
    rw [tm ho.1,e8]
    conv=>whnf
    refine ov_by (u64in (show 0≤m8*8∧m8*8<18446744073709551616 by omega)) (cw_ ?_)
    rw [tm ho.1,e8]
    conv=>whnf
    refine ov_by (show IntKind.u64.wrap (off - m8)=al by rw [hal2];exact u64in hal1) ?_
    conv=>whnf
    rw [show decide ((n:Int)>0)=true by simp;omega]
    conv=>whnf
    by_cases qa:al=49144
    ·have hk3:=hk1 (by omega)
     clear hk1 hk0
     subst qa
     conv=>whnf
     exact hk3 _ _ _
    rw [show (al==49144)=false by simpa using qa]
    conv=>whnf
    by_cases qb:al ≥ 16384
    ·rw [decide_eq_true qb]
     conv=>whnf
     refine ov_by (u64in (show 0≤8*(n:Int)∧8*(n:Int)<18446744073709551616 by omega)) (cw_ ?_)
     refine ov_by (u64in (show 0≤16384+8*(n:Int)∧16384+8*(n:Int)<18446744073709551616 by omega)) (cw_ ?_)
     by_cases qc:al<16384+8*(n:Int)
     ·have hk1:=hk1 (by omega)
      rw [decide_eq_true qc]
      conv=>whnf
      refine ov_by (u64in (show 0≤al - 16384∧al - 16384<18446744073709551616 by omega)) (cw_ ?_)
      obtain ⟨ix,hix⟩:∃ x:Nat,(al - 16384).tdiv 8=x:=⟨((al - 16384) / 8).toNat,by rw [td (by omega)];omega⟩
      have hix2:=hix
      rw [td (by omega)] at hix2
      rw [hix]
      refine ov_by (w64 (show ix<2 ^ 64 by omega)) (cw_ ?_)
      refine need_intro ⟨by omega,by show (ix:Int)<((8:Nat):Int);omega⟩ ?_
      conv=>whnf
      exact hk1 _ _ _
     ·have hk0:=hk0 (by omega)
      rw [decide_eq_false qc]
      conv=>whnf
      exact hk0 _ _ _
    ·have hk0:=hk0 (by omega)
     rw [decide_eq_false qb]
     conv=>whnf
     exact hk0 _ _ _
  ·have hk0:=hk0 (by omega)
   rw [show (m4==0)=false by simpa using q4]
   conv=>whnf
   refine ov_by (u64in (by decide)) (cw_ ?_)
   rw [tm ho.1,e4]
   rw [show (m4 != 0)=true by simpa using q4]
   conv=>whnf
   exact hk0 _ _ _
 by_cases s8:size=8
 ·subst s8
  rw [e8] at hk1 hk0
  refine fnv (args:=_) mixed [(6,6)] [] [] Tryz.func405 rfl (by kernel_rfl) (cw_ ?_)
  refine ⟨_,loadC0 aggI4 hc rfl,cw_ ?_⟩
  refine ov_by (w64 (show n<2 ^ 64 by omega)) (cw_ ?_)
  refine ov_by (u64in (by decide)) (cw_ ?_)
  rw [tm ho.1,e8]
  by_cases q8:m8=0
  ·rw [show (m8 != 0)=false by simpa using q8]
   conv=>whnf
   rw [tm ho.1,e8]
   conv=>whnf
   refine ov_by (u64in (show 0≤m8*8∧m8*8<18446744073709551616 by omega)) (cw_ ?_)
   rw [tm ho.1,e8]
   conv=>whnf
   refine ov_by (show IntKind.u64.wrap (off - m8)=al by rw [hal2];exact u64in hal1) ?_
   conv=>whnf
   rw [show decide ((n:Int)>0)=true by simp;omega]
   conv=>whnf
   by_cases qa:al=49144
   ·have hk3:=hk1 (by omega)
    clear hk1 hk0
    subst qa
    conv=>whnf
    exact hk3 _ _ _
   rw [show (al==49144)=false by simpa using qa]
   conv=>whnf
   by_cases qb:al ≥ 16384
   ·rw [decide_eq_true qb]
    conv=>whnf
    refine ov_by (u64in (show 0≤8*(n:Int)∧8*(n:Int)<18446744073709551616 by omega)) (cw_ ?_)
    refine ov_by (u64in (show 0≤16384+8*(n:Int)∧16384+8*(n:Int)<18446744073709551616 by omega)) (cw_ ?_)
    by_cases qc:al<16384+8*(n:Int)
    ·have hk1:=hk1 (by omega)
     rw [decide_eq_true qc]
     conv=>whnf
     refine ov_by (u64in (show 0≤al - 16384∧al - 16384<18446744073709551616 by omega)) (cw_ ?_)
     obtain ⟨ix,hix⟩:∃ x:Nat,(al - 16384).tdiv 8=x:=⟨((al - 16384) / 8).toNat,by rw [td (by omega)];omega⟩
     have hix2:=hix
     rw [td (by omega)] at hix2
     rw [hix]
     refine ov_by (w64 (show ix<2 ^ 64 by omega)) (cw_ ?_)
     refine need_intro ⟨by omega,by show (ix:Int)<((8:Nat):Int);omega⟩ ?_
     conv=>whnf
     exact hk1 _ _ _
    ·have hk0:=hk0 (by omega)
     rw [decide_eq_false qc]
     conv=>whnf
     exact hk0 _ _ _
   ·have hk0:=hk0 (by omega)
    rw [decide_eq_false qb]
    conv=>whnf
    exact hk0 _ _ _
  ·have hk0:=hk0 (by omega)
   rw [show (m8 != 0)=true by simpa using q8]
   conv=>whnf
   exact hk0 _ _ _
 ·have hk0:=hk0 (by omega)
  refine fnv (args:=_) mixed [(6,6)] [] [] Tryz.func405 rfl (by kernel_rfl) (cw_ ?_)
  refine ⟨_,loadC0 aggI4 hc rfl,cw_ ?_⟩
  refine ov_by (w64 (show n<2 ^ 64 by omega)) (cw_ ?_)
  rw [show (size==4)=false by simpa using s4]
  conv=>whnf
  rw [show (size != 4)=true by simpa using s4]
  conv=>whnf
  rw [show (size != 8)=true by simpa using s8]
  conv=>whnf
  exact hk0 _ _ _
theorem plfind_x {c:Nat} (n:Nat) (h1:1≤n) (h2:n≤8) (hc:h c=some (rowO 462 (Pl.new n).cs)) (off size:Int) (ho:0≤off∧off<18446744073709551616) (hk:∀ w i:Int,(w≠0↔plF n off size=true)→K (.tuple #[.int .i64 w,.int .i64 i]) h):X Tryz.prog 407 #[.pointer (some ⟨c,0,none⟩),.int .u64 off,.int .i64 size] h K:=by
 have hk1:plF n off size=true→∀ w i:Int,w≠0→K (.tuple #[.int .i64 w,.int .i64 i]) h:=fun e w i hw=>hk w i ⟨fun _=>e,fun _=>hw⟩
 have hk0:plF n off size=false→∀ i:Int,K (.tuple #[.int .i64 0,.int .i64 i]) h:=fun e i=>hk 0 i ⟨fun hh=>absurd rfl hh,fun hh=>by rw [e] at hh;cases hh⟩
 unfold plF at hk1 hk0
 simp only [decide_eq_true_eq,decide_eq_false_iff_not] at hk1 hk0
 clear hk
 obtain ⟨m4,e4⟩:∃ m,off.tmod 4=m:=⟨_,rfl⟩
 obtain ⟨mA,eA⟩:∃ m,off.tmod 128=m:=⟨_,rfl⟩
 obtain ⟨mB,eB⟩:∃ m,off.tmod 4096=m:=⟨_,rfl⟩
 have e4':=e4
 have eA':=eA
 have eB':=eB
 rw [tm ho.1] at e4' eA' eB'
 rw [e4',eA',eB'] at hk1 hk0
 clear e4' eA' eB'
 obtain ⟨c2,hc2⟩:∃ x:Int,2*(n:Int)=x:=⟨_,rfl⟩
 have c2b:2≤c2∧c2≤16:=by omega
 have q64:0≤off.tdiv 4∧off.tdiv 4<9223372036854775808:=by rw [td ho.1];omega
 refine fnv (args:=_) mixed [] [] [] Tryz.func407 rfl (by kernel_rfl) (cw_ ?_)
 refine ⟨_,loadC0 aggI4 hc rfl,cw_ ?_⟩
 refine ov_is hc2 (by omega) (cw_ ?_)
 refine ov_by (u64in (show 0≤c2∧c2<18446744073709551616 by omega)) (cw_ ?_)
 by_cases s4:size=4
 rotate_left
 ·have hk0:=hk0 (by omega)
  rw [show (size != 4)=true by simpa using s4]
  conv=>whnf
  exact hk0 _
 subst s4
 conv=>whnf
 rw [e4]
 by_cases q4:m4=0
 rotate_left
 ·have hk0:=hk0 (by omega)
  rw [show (m4 != 0)=true by simpa using q4]
  conv=>whnf
  exact hk0 _
 rw [show (m4 != 0)=false by simpa using q4]
 conv=>whnf
 rw [show (c2==0)=false by simp;omega]
 conv=>whnf
 by_cases g0:off ≥ 4
 ·rw [decide_eq_true g0]
  conv=>whnf
  by_cases g1:off<128
  ·have hk1:=hk1 (by omega)
   rw [decide_eq_true g1]
   conv=>whnf
   refine ov_by (u64in (show 0≤off.tdiv 4∧off.tdiv 4<18446744073709551616 by omega)) (cw_ ?_)
   refine ov_is (show off.tdiv 4=off.tdiv 4 from rfl) (by omega) (cw_ ?_)
   exact hk1 1 _ (by decide)
  ·rw [decide_eq_false g1]
   conv=>whnf
   by_cases g4:off=4096
   ·have hk1:=hk1 (by omega)
    rw [show (off==4096)=true by simpa using g4]
    conv=>whnf
    exact hk1 2 _ (by decide)
   rw [show (off==4096)=false by simpa using g4]
   conv=>whnf
   by_cases g8:off ≥ 8192
   rotate_left
   ·have hk0:=hk0 (by omega)
    rw [decide_eq_false g8]
    conv=>whnf
    rw [decide_eq_false (show ¬ off ≥ 2097152 by omega)]
    conv=>whnf
    rw [decide_eq_false (show ¬ off ≥ 2097152 by omega)]
    conv=>whnf
    exact hk0 _
   rw [decide_eq_true g8]
   conv=>whnf
   refine ov_by (u64in (show 0≤128*c2∧128*c2<18446744073709551616 by omega)) (cw_ ?_)
   refine ov_by (u64in (show 0≤8192+128*c2∧8192+128*c2<18446744073709551616 by omega)) (cw_ ?_)
   by_cases ga:off<8192+128*c2
   ·have hn2:¬ off ≥ 2097152:=by omega
    rw [decide_eq_true ga]
    conv=>whnf
    rw [eA]
    by_cases gA:mA=0
    ·have hk1:=hk1 (by omega)
     rw [show (mA==0)=true by simpa using gA]
     conv=>whnf
     have hx:0≤(off - 8192).tdiv 128∧(off - 8192).tdiv 128<9223372036854775808:=by rw [td (by omega)];omega
     refine ov_by (u64in (show 0≤off - 8192∧off - 8192<18446744073709551616 by omega)) (cw_ ?_)
     refine ov_by (u64in (show 0≤(off - 8192).tdiv 128∧(off - 8192).tdiv 128<18446744073709551616 by omega)) (cw_ ?_)
     refine ov_is (show (off - 8192).tdiv 128=(off - 8192).tdiv 128 from rfl) (by omega) (cw_ ?_)
     exact hk1 3 _ (by decide)
    ·have hk0:=hk0 (by omega)
     rw [show (mA==0)=false by simpa using gA]
     conv=>whnf
     rw [decide_eq_false hn2]
     conv=>whnf
     rw [decide_eq_false hn2]
     conv=>whnf
     exact hk0 _
   rw [decide_eq_false ga]
   conv=>whnf
   by_cases gt:off ≥ 2097152
   rotate_left
   ·have hk0:=hk0 (by omega)
    rw [decide_eq_false gt]
    conv=>whnf
    rw [decide_eq_false gt]
    conv=>whnf
    exact hk0 _
   rw [decide_eq_true gt]
   conv=>whnf
   refine ov_by (u64in (show 0≤4096*c2∧4096*c2<18446744073709551616 by omega)) (cw_ ?_)
   refine ov_by (u64in (show 0≤2097152+4096*c2∧2097152+4096*c2<18446744073709551616 by omega)) (cw_ ?_)
   by_cases gl:off<2097152+4096*c2
   rotate_left
   ·have hk0:=hk0 (by omega)
    rw [decide_eq_false gl]
    conv=>whnf
    rw [decide_eq_true gt]
    conv=>whnf
    refine ov_by (u64in (show 0≤4096*c2∧4096*c2<18446744073709551616 by omega)) (cw_ ?_)
    refine ov_by (u64in (show 0≤2097152+4096*c2∧2097152+4096*c2<18446744073709551616 by omega)) (cw_ ?_)
    rw [decide_eq_false gl]
    conv=>whnf
    exact hk0 _
   rw [decide_eq_true gl]
   conv=>whnf
   rw [eB]
   by_cases gB:mB=0
   ·have hk1:=hk1 (by omega)
    rw [show (mB==0)=true by simpa using gB]
    conv=>whnf
    have hx:0≤(off - 2097152).tdiv 4096∧(off - 2097152).tdiv 4096<9223372036854775808:=by rw [td (by omega)];omega
    refine ov_by (u64in (show 0≤off - 2097152∧off - 2097152<18446744073709551616 by omega)) (cw_ ?_)
    refine ov_by (u64in (show 0≤(off - 2097152).tdiv 4096∧(off - 2097152).tdiv 4096<18446744073709551616 by omega)) (cw_ ?_)
    refine ov_is (show (off - 2097152).tdiv 4096=(off - 2097152).tdiv 4096 from rfl) (by omega) (cw_ ?_)
    exact hk1 4 _ (by decide)
   rw [show (mB==0)=false by simpa using gB]
   conv=>whnf
   rw [decide_eq_true gt]
   conv=>whnf
   refine ov_by (u64in (show 0≤4096*c2∧4096*c2<18446744073709551616 by omega)) (cw_ ?_)
   refine ov_by (u64in (show 0≤2097152+4096*c2∧2097152+4096*c2<18446744073709551616 by omega)) (cw_ ?_)
   rw [decide_eq_true gl]
   conv=>whnf
   rw [eB]
   by_cases gC:mB=4
   ·have hk1:=hk1 (by omega)
    rw [show (mB==4)=true by simpa using gC]
    conv=>whnf
    have hx:0≤(off - 2097152).tdiv 4096∧(off - 2097152).tdiv 4096<9223372036854775808:=by rw [td (by omega)];omega
    refine ov_by (u64in (show 0≤off - 2097152∧off - 2097152<18446744073709551616 by omega)) (cw_ ?_)
    refine ov_by (u64in (show 0≤(off - 2097152).tdiv 4096∧(off - 2097152).tdiv 4096<18446744073709551616 by omega)) (cw_ ?_)
    refine ov_is (show (off - 2097152).tdiv 4096=(off - 2097152).tdiv 4096 from rfl) (by omega) (cw_ ?_)
    exact hk1 5 _ (by decide)
   ·have hk0:=hk0 (by omega)
    rw [show (mB==4)=false by simpa using gC]
    conv=>whnf
    exact hk0 _
 ·rw [decide_eq_false g0]
  conv=>whnf
  by_cases g4:off=4096
  ·have hk1:=hk1 (by omega)
   rw [show (off==4096)=true by simpa using g4]
   conv=>whnf
   exact hk1 2 _ (by decide)
  rw [show (off==4096)=false by simpa using g4]
  conv=>whnf
  by_cases g8:off ≥ 8192
  rotate_left
  ·have hk0:=hk0 (by omega)
   rw [decide_eq_false g8]
   conv=>whnf
   rw [decide_eq_false (show ¬ off ≥ 2097152 by omega)]
   conv=>whnf
   rw [decide_eq_false (show ¬ off ≥ 2097152 by omega)]
   conv=>whnf
   exact hk0 _
  rw [decide_eq_true g8]
  conv=>whnf
  refine ov_by (u64in (show 0≤128*c2∧128*c2<18446744073709551616 by omega)) (cw_ ?_)
  refine ov_by (u64in (show 0≤8192+128*c2∧8192+128*c2<18446744073709551616 by omega)) (cw_ ?_)
  by_cases ga:off<8192+128*c2
  ·have hn2:¬ off ≥ 2097152:=by omega
   rw [decide_eq_true ga]
   conv=>whnf
   rw [eA]
   by_cases gA:mA=0
   ·have hk1:=hk1 (by omega)
    rw [show (mA==0)=true by simpa using gA]
    conv=>whnf
    have hx:0≤(off - 8192).tdiv 128∧(off - 8192).tdiv 128<9223372036854775808:=by rw [td (by omega)];omega
    refine ov_by (u64in (show 0≤off - 8192∧off - 8192<18446744073709551616 by omega)) (cw_ ?_)
    refine ov_by (u64in (show 0≤(off - 8192).tdiv 128∧(off - 8192).tdiv 128<18446744073709551616 by omega)) (cw_ ?_)
    refine ov_is (show (off - 8192).tdiv 128=(off - 8192).tdiv 128 from rfl) (by omega) (cw_ ?_)
    exact hk1 3 _ (by decide)
   ·have hk0:=hk0 (by omega)
    rw [show (mA==0)=false by simpa using gA]
    conv=>whnf
    rw [decide_eq_false hn2]
    conv=>whnf
    rw [decide_eq_false hn2]
    conv=>whnf
    exact hk0 _
  rw [decide_eq_false ga]
  conv=>whnf
  by_cases gt:off ≥ 2097152
  rotate_left
  ·have hk0:=hk0 (by omega)
   rw [decide_eq_false gt]
   conv=>whnf
   rw [decide_eq_false gt]
   conv=>whnf
   exact hk0 _
  rw [decide_eq_true gt]
  conv=>whnf
  refine ov_by (u64in (show 0≤4096*c2∧4096*c2<18446744073709551616 by omega)) (cw_ ?_)
  refine ov_by (u64in (show 0≤2097152+4096*c2∧2097152+4096*c2<18446744073709551616 by omega)) (cw_ ?_)
  by_cases gl:off<2097152+4096*c2
  rotate_left
  ·have hk0:=hk0 (by omega)
   rw [decide_eq_false gl]
   conv=>whnf
   rw [decide_eq_true gt]
   conv=>whnf
   refine ov_by (u64in (show 0≤4096*c2∧4096*c2<18446744073709551616 by omega)) (cw_ ?_)
   refine ov_by (u64in (show 0≤2097152+4096*c2∧2097152+4096*c2<18446744073709551616 by omega)) (cw_ ?_)
   rw [decide_eq_false gl]
   conv=>whnf
   exact hk0 _
  rw [decide_eq_true gl]
  conv=>whnf
  rw [eB]
  by_cases gB:mB=0
  ·have hk1:=hk1 (by omega)
   rw [show (mB==0)=true by simpa using gB]
   conv=>whnf
   have hx:0≤(off - 2097152).tdiv 4096∧(off - 2097152).tdiv 4096<9223372036854775808:=by rw [td (by omega)];omega
   refine ov_by (u64in (show 0≤off - 2097152∧off - 2097152<18446744073709551616 by omega)) (cw_ ?_)
   refine ov_by (u64in (show 0≤(off - 2097152).tdiv 4096∧(off - 2097152).tdiv 4096<18446744073709551616 by omega)) (cw_ ?_)
   refine ov_is (show (off - 2097152).tdiv 4096=(off - 2097152).tdiv 4096 from rfl) (by omega) (cw_ ?_)
   exact hk1 4 _ (by decide)
  rw [show (mB==0)=false by simpa using gB]
  conv=>whnf
  rw [decide_eq_true gt]
  conv=>whnf
  refine ov_by (u64in (show 0≤4096*c2∧4096*c2<18446744073709551616 by omega)) (cw_ ?_)
  refine ov_by (u64in (show 0≤2097152+4096*c2∧2097152+4096*c2<18446744073709551616 by omega)) (cw_ ?_)
  rw [decide_eq_true gl]
  conv=>whnf
  rw [eB]
  by_cases gC:mB=4
  ·have hk1:=hk1 (by omega)
   rw [show (mB==4)=true by simpa using gC]
   conv=>whnf
   have hx:0≤(off - 2097152).tdiv 4096∧(off - 2097152).tdiv 4096<9223372036854775808:=by rw [td (by omega)];omega
   refine ov_by (u64in (show 0≤off - 2097152∧off - 2097152<18446744073709551616 by omega)) (cw_ ?_)
   refine ov_by (u64in (show 0≤(off - 2097152).tdiv 4096∧(off - 2097152).tdiv 4096<18446744073709551616 by omega)) (cw_ ?_)
   refine ov_is (show (off - 2097152).tdiv 4096=(off - 2097152).tdiv 4096 from rfl) (by omega) (cw_ ?_)
   exact hk1 5 _ (by decide)
  ·have hk0:=hk0 (by omega)
   rw [show (mB==4)=false by simpa using gC]
   conv=>whnf
   exact hk0 _
theorem clfits_x (n:Nat) (h1:1≤n) (h2:n≤8) (off size:Int) (ho:0≤off∧off<18446744073709551616) {v:Bool} (e:clF n off size=v) (hk:K (.bool v) h):X Tryz.prog 386 #[.int .i64 n,.int .u64 off,.int .i64 size] h K:=by
 refine X.forget ?_
 refine fnv (args:=_) mixed [(8,8)] [] [] Tryz.func386 rfl (by kernel_rfl) (cw_ ?_)
 refine clintNew_x n h1 h2 (cw_ ?_)
 refine new_intro (o:=_) (fun c g1 n_c le_c at_c ot_c=>cw_ ?_)
 refine wr_intro (by exact storeA0 (z:=.agg (Ck.new n).cs.toArray) sizCkc at_c rfl (ckC_len n n h2) (ckC_one n n h2)) (fun g2 at_g2 ot_g2=>cw_ ?_)
 refine ckfind_x n h1 h2 at_g2 off size ho fun a b d q eq=>(cw_ ?_)
 rw [eq,e]
 exact ⟨h,Hp.le_st n_c le_c ot_g2,hk⟩
theorem plfits_x (n:Nat) (h1:1≤n) (h2:n≤8) (off size:Int) (ho:0≤off∧off<18446744073709551616) {v:Bool} (e:plF n off size=v) (hk:K (.bool v) h):X Tryz.prog 387 #[.int .i64 n,.int .u64 off,.int .i64 size] h K:=by
 refine X.forget ?_
 refine fnv (args:=_) mixed [] [] [] Tryz.func387 rfl (by kernel_rfl) (cw_ ?_)
 refine plicNew_x n (by omega) (by omega) (cw_ ?_)
 refine new_intro (o:=_) (fun c g1 n_c le_c at_c ot_c=>cw_ ?_)
 refine wr_intro (by exact storeA0 (z:=.agg (Pl.new n).cs.toArray) sizPlc at_c rfl (plNew_len n) (plNew_one n)) (fun g2 at_g2 ot_g2=>cw_ ?_)
 refine plfind_x n h1 h2 at_g2 off size ho fun w i hw=>(cw_ ?_)
 rw [show (w != 0)=v by rw [← e,Bool.eq_iff_iff,← hw];simp]
 exact ⟨h,Hp.le_st n_c le_c ot_g2,hk⟩
theorem uafits_x (off size:Int) (ho:0≤off∧off<18446744073709551616) {v:Bool} (e:uaF off size=v) (hk:K (.bool v) h):X Tryz.prog 388 #[.int .u64 off,.int .i64 size] h K:=by
 unfold uaF at e
 refine fnv (args:=_) mixed [] [] [] Tryz.func388 rfl (by kernel_rfl) (cw_ ?_)
 by_cases q:off<8
 ·rw [decide_eq_true q]
  conv=>whnf
  exact kq hk (bI (by rw [← e,Bool.eq_iff_iff];simp [q]))
 ·rw [decide_eq_false q]
  conv=>whnf
  exact kq hk (bI (by rw [← e];simp [q]))
theorem bfind_x (m:Nat) (h1:1≤m) (h2:m≤8) (x size:Int) (hx:0≤x∧x<18446744073709551616) {v1 v2 v3:Bool} (e1:clF m (x - 33554432) size=v1) (e2:plF m (x - 201326592) size=v2) (e3:uaF (x - 268435456) size=v3) (hk:∀ d o s:Int,(d=0→o=0∧s=0)→((decide (33554432≤x) && v1) || ((decide (201326592≤x) && v2) || (decide (268435456≤x) && v3)))=decide (d≠0)→K (.agg #[.int .i64 d,.int .u64 o,.int .i64 s]) h):X Tryz.prog 364 #[.int .i64 m,.int .u64 x,.int .i64 size] h K:=by
 have hk1:((decide (33554432≤x) && v1) || ((decide (201326592≤x) && v2) || (decide (268435456≤x) && v3)))=true→∀ d o s:Int,d≠0→K (.agg #[.int .i64 d,.int .u64 o,.int .i64 s]) h:=fun e d o s hd=>hk d o s (fun h=>absurd h hd) (by rw [e,decide_eq_true hd])
 have hk0:((decide (33554432≤x) && v1) || ((decide (201326592≤x) && v2) || (decide (268435456≤x) && v3)))=false→K (.agg #[.int .i64 0,.int .u64 0,.int .i64 0]) h:=fun e=>hk 0 0 0 (fun _=>⟨rfl,rfl⟩) (by rw [e];rfl)
 clear hk
 by_cases g1:x ≥ 33554432
 rotate_left
 ·rw [decide_eq_false (show ¬ 33554432≤x from g1),decide_eq_false (show ¬ 201326592≤x by omega),decide_eq_false (show ¬ 268435456≤x by omega)] at hk0
  refine fnv (args:=_) mixed [(6,6)] [] [] Tryz.func364 rfl (by kernel_rfl) (cw_ ?_)
  rw [decide_eq_false g1]
  conv=>whnf
  rw [decide_eq_false (show ¬ x ≥ 201326592 by omega)]
  conv=>whnf
  rw [decide_eq_false (show ¬ x ≥ 268435456 by omega)]
  conv=>whnf
  exact hk0 rfl
 rw [decide_eq_true (show 33554432≤x from g1),Bool.true_and] at hk1 hk0
 cases v1 with
 | true =>
  refine fnv (args:=_) mixed [(6,6)] [] [] Tryz.func364 rfl (by kernel_rfl) (cw_ ?_)
  rw [decide_eq_true g1]
  conv=>whnf
  refine ov_by (u64in (show 0≤x - 33554432∧x - 33554432<18446744073709551616 by omega)) (cw_ ?_)
  refine clfits_x m h1 h2 _ size (by omega) e1 (cw_ ?_)
  refine ov_by (u64in (show 0≤x - 33554432∧x - 33554432<18446744073709551616 by omega)) (cw_ ?_)
  exact hk1 rfl 1 _ _ (by decide)
 | false =>
  rw [Bool.false_or] at hk1 hk0
  by_cases g2:x ≥ 201326592
  rotate_left
  ·rw [decide_eq_false (show ¬ 201326592≤x from g2),decide_eq_false (show ¬ 268435456≤x by omega)] at hk0
   refine fnv (args:=_) mixed [(6,6)] [] [] Tryz.func364 rfl (by kernel_rfl) (cw_ ?_)
   rw [decide_eq_true g1]
   conv=>whnf
   refine ov_by (u64in (show 0≤x - 33554432∧x - 33554432<18446744073709551616 by omega)) (cw_ ?_)
   refine clfits_x m h1 h2 _ size (by omega) e1 (cw_ ?_)
   rw [decide_eq_false g2]
   conv=>whnf
   rw [decide_eq_false (show ¬ x ≥ 268435456 by omega)]
   conv=>whnf
   exact hk0 rfl
  rw [decide_eq_true (show 201326592≤x from g2),Bool.true_and] at hk1 hk0
  cases v2 with
  | true =>
   refine fnv (args:=_) mixed [(6,6)] [] [] Tryz.func364 rfl (by kernel_rfl) (cw_ ?_)
   rw [decide_eq_true g1]
   conv=>whnf
   refine ov_by (u64in (show 0≤x - 33554432∧x - 33554432<18446744073709551616 by omega)) (cw_ ?_)
   refine clfits_x m h1 h2 _ size (by omega) e1 (cw_ ?_)
   rw [decide_eq_true g2]
   conv=>whnf
   refine ov_by (u64in (show 0≤x - 201326592∧x - 201326592<18446744073709551616 by omega)) (cw_ ?_)
   refine plfits_x m h1 h2 _ size (by omega) e2 (cw_ ?_)
   refine ov_by (u64in (show 0≤x - 201326592∧x - 201326592<18446744073709551616 by omega)) (cw_ ?_)
   exact hk1 rfl 2 _ _ (by decide)
  | false =>
   rw [Bool.false_or] at hk1 hk0
   refine fnv (args:=_) mixed [(6,6)] [] [] Tryz.func364 rfl (by kernel_rfl) (cw_ ?_)
   rw [decide_eq_true g1]
   conv=>whnf
   refine ov_by (u64in (show 0≤x - 33554432∧x - 33554432<18446744073709551616 by omega)) (cw_ ?_)
   refine clfits_x m h1 h2 _ size (by omega) e1 (cw_ ?_)
   rw [decide_eq_true g2]
   conv=>whnf
   refine ov_by (u64in (show 0≤x - 201326592∧x - 201326592<18446744073709551616 by omega)) (cw_ ?_)
   refine plfits_x m h1 h2 _ size (by omega) e2 (cw_ ?_)
   by_cases g3:x ≥ 268435456
   ·rw [decide_eq_true g3]
    rw [decide_eq_true (show 268435456≤x from g3),Bool.true_and] at hk1 hk0
    conv=>whnf
    rw [decide_eq_true (show (m:Int) ≥ 1 by omega)]
    conv=>whnf
    rw [decide_eq_true (show (m:Int)≤8 by omega)]
    conv=>whnf
    refine ov_by (u64in (show 0≤x - 268435456∧x - 268435456<18446744073709551616 by omega)) (cw_ ?_)
    refine uafits_x _ size (by omega) e3 ?_
    cases v3 with
    | true =>
     conv=>whnf
     refine ov_by (u64in (show 0≤x - 268435456∧x - 268435456<18446744073709551616 by omega)) (cw_ ?_)
     exact hk1 rfl 3 _ _ (by decide)
    | false =>
     conv=>whnf
     exact hk0 rfl
   ·rw [decide_eq_false g3]
    rw [decide_eq_false (show ¬ 268435456≤x from g3)] at hk0
    conv=>whnf
    exact hk0 rfl
theorem bfits_x (n:Int) (a:Nat) (size:Int) (hn:1≤n∧n≤8) (ha:a<2 ^ 64) (hk:K (.bool (fitsN n a size)) h):X Tryz.prog 297 #[.int .i64 n,ux a,.int .i64 size] h K:=by
 obtain ⟨m,rfl⟩:∃ m:Nat,n=m:=⟨n.toNat,by omega⟩
 obtain ⟨x,hx⟩:∃ x:Int,(a:Int)=x:=⟨_,rfl⟩
 have hx1:0≤x∧x<18446744073709551616:=by omega
 unfold fitsN at hk
 rw [hx] at hk
 obtain ⟨v1,e1⟩:∃ v,clF m (x - 33554432) size=v:=⟨_,rfl⟩
 obtain ⟨v2,e2⟩:∃ v,plF m (x - 201326592) size=v:=⟨_,rfl⟩
 obtain ⟨v3,e3⟩:∃ v,uaF (x - 268435456) size=v:=⟨_,rfl⟩
 rw [e1,e2,e3] at hk
 show X Tryz.prog _ #[.int .i64 m,.int .u64 (a:Int),.int .i64 size] h K
 rw [hx]
 refine fnv (args:=_) mixed [] [] [] Tryz.func297 rfl (by kernel_rfl) (cw_ ?_)
 refine bfind_x m (by omega) (by omega) x size hx1 e1 e2 e3 fun d o s hd0 hd=>(cw_ ?_)
 refine must_via (b:=(d==0 && (o==0 && (s==0 && true)))) (by kernel_rfl) (by kernel_rfl) (cw_ ?_)
 rw [hd] at hk
 exact kq hk (bI (by
  by_cases q:d=0
  ·obtain ⟨r1,r2⟩:=hd0 q
   subst q r1 r2
   rfl
  ·rw [decide_eq_true q,show (d==0)=false by simpa using q]
   rfl))
theorem cutN_x (va:Nat) (size:Int) (hv:va<2 ^ 64) (hk:K (.int .i64 (splN va size:Nat)) h):X Tryz.prog 190 #[ux va,.int .i64 size] h K:=by
 unfold splN at hk
 obtain ⟨m,hm⟩:∃ m,va % 4096=m:=⟨_,rfl⟩
 rw [hm] at hk
 have hm1:m<4096:=by omega
 refine fnv (args:=_) mixed [] [] [] Tryz.func190 rfl (by kernel_rfl) (cw_ ?_)
 by_cases q1:size<1
 ·rw [if_pos (.inl q1)] at hk
  rw [decide_eq_true q1]
  conv=>whnf
  exact hk
 rw [decide_eq_false q1]
 conv=>whnf
 refine br_ (fun q2=>?_) fun q2=>?_
 ·rw [if_pos (.inr (.inl q2))] at hk
  conv=>whnf
  exact hk
 conv=>whnf
 have e:IntKind.i64.wrap ((va:Int).tmod 4096)=((m:Nat):Int):=by rw [tm (by omega),IntKind.wrap_i64];omega
 refine ov_by e (cw_ ?_)
 refine ov_is (show (4096:Int) - (m:Int)=((4096 - m:Nat):Int) by omega) (by omega) (cw_ ?_)
 refine br_ (fun q3=>?_) fun q3=>?_
 ·rw [if_pos (.inr (.inr (by omega)))] at hk
  conv=>whnf
  exact hk
 ·rw [if_neg (by omega)] at hk
  conv=>whnf
  exact hk
end
end Go.Proofs.YtdhlpighdlnohaaGreat
