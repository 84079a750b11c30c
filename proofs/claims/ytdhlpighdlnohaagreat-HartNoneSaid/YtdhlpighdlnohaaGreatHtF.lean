/-
  A hart: behind a walk; the word is fetched.
-/
import Derived.Test.YtdhlpighdlnohaaGreatHtB
import Derived.Test.YtdhlpighdlnohaaGreatCaA
set_option linter.unusedSimpArgs false
set_option linter.unusedVariables false
set_option maxHeartbeats 8000000
set_option maxRecDepth 10000
set_option linter.unusedSimpArgs false
set_option linter.unusedVariables false
namespace Go.Proofs.YtdhlpighdlnohaaGreat
open Go Go.Mid Go.RowKit Go.Bits
attribute [local irreducible] mid
theorem vec_lt {t:Nat} (c:Cau) (ht:t<2 ^ 64):vecN t c<2 ^ 64:=by
 unfold vecN
 split
 ·exact Nat.mod_lt _ (by decide)
 ·omega
theorem trapF_ok2 {f:Csf} (ok:f.ok) (c:Cau) (priv:Int) {pc tval:Nat} (hp:pc<2 ^ 64) (ht:tval<2 ^ 64):(trapF f c priv pc tval).ok:=by
 unfold trapF
 have h:(if trapTo f c priv=1 then ((f.set 321 pc).set 322 c.word).set 323 tval else ((f.set 833 pc).set 834 c.word).set 835 tval).ok:=by
  split
  ·exact ((ok.set _ hp).set _ (cword_lt c)).set _ ht
  ·exact ((ok.set _ hp).set _ (cword_lt c)).set _ ht
 exact h.set _ (enter_lt (h.at_lt _))
theorem trapPc_lt {f:Csf} (ok:f.ok) (c:Cau) (priv:Int) {pc tval:Nat} (hp:pc<2 ^ 64) (ht:tval<2 ^ 64):trapPc f c priv pc tval<2 ^ 64:=by
 unfold trapPc
 exact vec_lt c ((trapF_ok2 ok c priv hp ht).at_lt _)
theorem Hd.inv.fin {H:Hd} (i:H.inv) (ret:Bool):(H.fin ret).inv:={ i with
 ok:=⟨i.ok.r,i.ok.rw,turn_ok i.ok.f ret,i.ok.pc⟩
 w:=wk0_ok
 wa:=.inl rfl
 word:=by show (0:Nat)<4294967296;decide
 lines:=by show (0:Nat)<2 ^ 64;decide
 e:=ef0_ok
 addr:=by show (0:Nat)<2 ^ 64;decide
 next:=by show (0:Nat)<2 ^ 64;decide
 cut:=by show (0:Int)≤0∧(0:Int)≤0;decide
 size:=by show (0:Int)≤0∧(0:Int)≤8;decide
 mask:=by show (0:Nat)<2 ^ 64;decide
 nx:=by show (0:Int)≤0∧(0:Int)≤7;decide }
theorem Hd.inv.retire {H:Hd} (i:H.inv) {pc:Nat} (hp:pc<2 ^ 64):(H.retire pc).inv:=Hd.inv.fin (H:={ H with pc:=pc }) { i with ok:=⟨i.ok.r,i.ok.rw,i.ok.f,hp⟩ } true
theorem Hd.inv.trap {H:Hd} (i:H.inv) (c:Cau) {v:Nat} (hv:v<2 ^ 64):(H.trap c v).inv:=Hd.inv.fin (H:={ H with priv:=trapTo H.f c H.priv,pc:=trapPc H.f c H.priv H.pc v,f:=trapF H.f c H.priv H.pc v,live:=false }) { i with ok:=⟨i.ok.r,i.ok.rw,trapF_ok2 i.ok.f c _ i.ok.pc hv,trapPc_lt i.ok.f c _ i.ok.pc hv⟩ } false
section
variable {k h:Hp} {K:Value→Hp→Prop} {b:Nat} {H:Hd}
abbrev turT:TypeId := 136
theorem sizTu:sizeT Tryz.prog turT=some 63:=by kernel_rfl
theorem tn0_len:Tn.zero.cs.length=63:=rfl
theorem tn0_one:Tn.zero.cs.all Value.oneCell'=true:=rfl
def tn0V:Value:=.agg Tn.zero.cs.toArray
theorem tn0V_cells:tn0V.cells.toList=Tn.zero.cs:=rfl
theorem st_tn {A:List Value} {c:Nat} {s:Value} {a:Addr} (p:Pa h b 62 harT A (H.z c s) []) (ha:a=⟨b,62+7,none⟩:=by first | rfl | (simp [addr_add];done)):storeH Tryz.prog turT h a tn0V=some (b,rowO harT (A++(({ H with t:=.zero }:Hd).z c s++[]))) :=
 p.stA 7 sizTu (by show 7+63≤71;decide) (z:=tn0V) (cs':=({ H with t:=.zero }:Hd).z c s) (by
  rw [tn0V_cells]
  exact (setL_in (A:=[ux H.pc,.int .i64 H.priv,.pointer (some ⟨c,0,none⟩),.bool H.live,.bool H.parked,.int .i64 H.turns,.int .i64 H.retired]) (cs:=H.t.cs) (B:=[s]) (y:=Tn.zero.cs) (i:=0) (by rw [tn0_len];show 0+63≤63;decide)).trans (by rw [setL_all (by rw [tn0_len];rfl)];rfl)) (by rw [tn0V_cells];exact tn0_len) (by rw [tn0V_cells];exact tn0_one) ha
attribute [irreducible] tn0V
theorem hend_x (n:HaN k h b H) (ret:Bool) (hk:∀ h',HaN k h' b (H.fin ret)→K (.tuple #[]) h'):X Tryz.prog 106 #[.pointer (some ⟨b,0,none⟩),.bool ret] h K:=by
 obtain ⟨c,s,r,ht,up⟩:=n.row
 have i:=n.inv
 have o:=i.ok
 have oF:({ H with f:=H.f.turn ret }:Hd).ok:=⟨o.r,o.rw,turn_ok o.f ret,o.pc⟩
 cases ret with
 | false =>
  refine fnv (args:=_) mixed [] [] [] Tryz.func106 rfl (by kernel_rfl) (cw_ ?_)
  refine fturn_x (r.file o.r) o.f false fun h1 p1 o1=>?_
  have r1:HaR h1 b { H with f:=H.f.turn false } c s:=HaR.ofFile p1
  conv=>whnf
  refine ⟨_,(r1.z oF.len).ld 5 aggI4 rfl,cw_ ?_⟩
  refine ov_by rfl (cw_ ?_)
  refine wr_intro (by exact (r1.z oF.len).st 5 sizI4 (by show 5<71;decide) rfl rfl) (fun h2 at_h2 ot_h2=>cw_ ?_)
  have r2:HaR h2 b { H with f:=H.f.turn false,turns:=IntKind.i64.wrap (H.turns+1) } c s:=HaR.ofZ (H:={ H with f:=H.f.turn false }) rfl ⟨at_h2,oF.len⟩
  refine big_by (v:=tn0V) (by kernel_rfl) (cw_ ?_)
  refine wr_intro (by exact st_tn (r2.z oF.len)) (fun h4 at_h4 ot_h4=>cw_ ?_)
  have r4:HaR h4 b (H.fin false) c s:=HaR.ofZ (H:={ H with f:=H.f.turn false }) (H':=H.fin false) rfl ⟨at_h4,oF.len⟩
  exact hk h4 (up h4 _ r4 (fun d x hd e=>by rw [ot_h4 d hd,ot_h2 d hd,o1 d hd];exact e) (i.fin false) rfl rfl rfl)
 | true =>
  refine fnv (args:=_) mixed [] [] [] Tryz.func106 rfl (by kernel_rfl) (cw_ ?_)
  refine fturn_x (r.file o.r) o.f true fun h1 p1 o1=>?_
  have r1:HaR h1 b { H with f:=H.f.turn true } c s:=HaR.ofFile p1
  conv=>whnf
  refine ⟨_,(r1.z oF.len).ld 5 aggI4 rfl,cw_ ?_⟩
  refine ov_by rfl (cw_ ?_)
  refine wr_intro (by exact (r1.z oF.len).st 5 sizI4 (by show 5<71;decide) rfl rfl) (fun h2 at_h2 ot_h2=>cw_ ?_)
  have r2:HaR h2 b { H with f:=H.f.turn true,turns:=IntKind.i64.wrap (H.turns+1) } c s:=HaR.ofZ (H:={ H with f:=H.f.turn true }) rfl ⟨at_h2,oF.len⟩
  refine ⟨_,(r2.z oF.len).ld 6 aggI4 rfl,cw_ ?_⟩
  refine ov_by rfl (cw_ ?_)
  refine wr_intro (by exact (r2.z oF.len).st 6 sizI4 (by show 6<71;decide) rfl rfl) (fun h3 at_h3 ot_h3=>cw_ ?_)
  have r3:HaR h3 b { H with f:=H.f.turn true,turns:=IntKind.i64.wrap (H.turns+1),retired:=IntKind.i64.wrap (H.retired+1) } c s:=HaR.ofZ (H:={ H with f:=H.f.turn true }) rfl ⟨at_h3,oF.len⟩
  refine big_by (v:=tn0V) (by kernel_rfl) (cw_ ?_)
  refine wr_intro (by exact st_tn (r3.z oF.len)) (fun h4 at_h4 ot_h4=>cw_ ?_)
  have r4:HaR h4 b (H.fin true) c s:=HaR.ofZ (H:={ H with f:=H.f.turn true }) (H':=H.fin true) rfl ⟨at_h4,oF.len⟩
  exact hk h4 (up h4 _ r4 (fun d x hd e=>by rw [ot_h4 d hd,ot_h3 d hd,ot_h2 d hd,o1 d hd];exact e) (i.fin true) rfl rfl rfl)
theorem hretire_x (n:HaN k h b H) (pc:Nat) (hp:pc<2 ^ 64) (hk:∀ h',HaN k h' b (H.retire pc)→K (.tuple #[]) h'):X Tryz.prog 57 #[.pointer (some ⟨b,0,none⟩),ux pc] h K:=by
 obtain ⟨c,s,r,ht,up⟩:=n.row
 have i:=n.inv
 have o:=i.ok
 refine fnv (args:=_) mixed [] [] [] Tryz.func57 rfl (by kernel_rfl) (cw_ ?_)
 refine wr_intro (by exact (r.z o.len).st 0 sizU (by show 0<71;decide) rfl rfl) (fun h1 at_h1 ot_h1=>cw_ ?_)
 have r1:HaR h1 b { H with pc:=pc } c s:=HaR.ofZ (H:=H) rfl ⟨at_h1,o.len⟩
 have n1:HaN k h1 b { H with pc:=pc }:=up h1 _ r1 (fun d x hd e=>by rw [ot_h1 d hd];exact e) { i with ok:=⟨o.r,o.rw,o.f,hp⟩ } rfl rfl rfl
 refine hend_x n1 true fun h2 n2=>(cw_ ?_)
 exact hk h2 n2
theorem sizPv:sizeT Tryz.prog 68 = some 1:=by kernel_rfl
theorem htrap_x (n:HaN k h b H) (q:Cau) (v:Nat) (hv:v<2 ^ 64) (hk:∀ h',HaN k h' b (H.trap q v)→K (.tuple #[]) h'):X Tryz.prog 92 #[.pointer (some ⟨b,0,none⟩),.agg q.cs.toArray,ux v] h K:=by
 obtain ⟨c,s,r,ht,up⟩:=n.row
 have i:=n.inv
 have o:=i.ok
 have of:=trapF_ok2 o.f q H.priv o.pc hv
 have hpc:=trapPc_lt o.f q H.priv o.pc hv
 have oF:({ H with f:=trapF H.f q H.priv H.pc v }:Hd).ok:=⟨o.r,o.rw,of,o.pc⟩
 refine fnv (args:=_) mixed [(4,4)] [] [] Tryz.func92 rfl (by kernel_rfl) (cw_ ?_)
 refine ⟨_,(r.z o.len).ld 1 aggPv rfl,cw_ ?_⟩
 refine ⟨_,(r.z o.len).ld 0 aggU rfl,cw_ ?_⟩
 refine tenter_x (r.file o.r) o.f q H.priv H.pc v o.pc hv fun h1 p1 _ o1=>?_
 have r1:HaR h1 b { H with f:=trapF H.f q H.priv H.pc v } c s:=HaR.ofFile p1
 refine ⟨trivial,cw_ ?_⟩
 refine wr_intro (by exact (r1.z oF.len).st 1 sizPv (by show 1<71;decide) rfl rfl) (fun h2 at_h2 ot_h2=>cw_ ?_)
 have r2:HaR h2 b { H with f:=trapF H.f q H.priv H.pc v,priv:=trapTo H.f q H.priv } c s:=HaR.ofZ (H:={ H with f:=trapF H.f q H.priv H.pc v }) rfl ⟨at_h2,oF.len⟩
 refine ⟨trivial,cw_ ?_⟩
 refine wr_intro (by exact (r2.z oF.len).st 0 sizU (by show 0<71;decide) rfl rfl) (fun h3 at_h3 ot_h3=>cw_ ?_)
 have r3:HaR h3 b { H with f:=trapF H.f q H.priv H.pc v,priv:=trapTo H.f q H.priv,pc:=trapPc H.f q H.priv H.pc v } c s:=HaR.ofZ (H:={ H with f:=trapF H.f q H.priv H.pc v }) rfl ⟨at_h3,oF.len⟩
 refine ⟨trivial,cw_ ?_⟩
 refine wr_intro (by exact (r3.z oF.len).st 3 sizB6 (by show 3<71;decide) rfl rfl) (fun h4 at_h4 ot_h4=>cw_ ?_)
 have r4:HaR h4 b { H with f:=trapF H.f q H.priv H.pc v,priv:=trapTo H.f q H.priv,pc:=trapPc H.f q H.priv H.pc v,live:=false } c s:=HaR.ofZ (H:={ H with f:=trapF H.f q H.priv H.pc v }) rfl ⟨at_h4,oF.len⟩
 have n4:HaN k h4 b { H with f:=trapF H.f q H.priv H.pc v,priv:=trapTo H.f q H.priv,pc:=trapPc H.f q H.priv H.pc v,live:=false }:=up h4 _ r4 (fun d x hd e=>by rw [ot_h4 d hd,ot_h3 d hd,ot_h2 d hd,o1 d hd];exact e) { i with ok:=⟨o.r,o.rw,of,hpc⟩ } rfl rfl rfl
 refine hend_x n4 false fun h5 n5=>(cw_ ?_)
 exact hk h5 n5
theorem aggU32:isAggT Tryz.prog 126 = some false:=by kernel_rfl
theorem hillegal_x (n:HaN k h b H) (hk:∀ h',HaN k h' b H.illegal→K (.tuple #[]) h'):X Tryz.prog 100 #[.pointer (some ⟨b,0,none⟩)] h K:=by
 obtain ⟨c,s,r,ht,up⟩:=n.row
 have i:=n.inv
 have o:=i.ok
 have hw:=i.word
 refine fnv (args:=_) mixed [] [] [] Tryz.func100 rfl (by kernel_rfl) (cw_ ?_)
 refine ⟨_,(r.z o.len).ld 23 aggU32 rfl,cw_ ?_⟩
 refine ov_by (w64 (show H.t.word<2 ^ 64 by omega)) (cw_ ?_)
 refine htrap_x n ⟨false,2⟩ H.t.word (by omega) fun h1 n1=>(cw_ ?_)
 exact hk h1 n1
theorem hcsr_x (n:HaN k h b H) (j:Int) (hj:j≠256∧j≠260∧j≠324∧j≠836∧j≠769∧j≠3072∧j≠3074∧j≠3860) (hk:K (ux (H.f.at j)) h):X Tryz.prog 165 #[.pointer (some ⟨b,0,none⟩),.int .i64 j] h K:=by
 obtain ⟨c,s,r,ht,up⟩:=n.row
 have o:=n.inv.ok
 refine fnv (args:=_) mixed [] [] [] Tryz.func165 rfl (by kernel_rfl) (cw_ ?_)
 refine fgetO_x (r.file o.r) o.f j hj (cw_ ?_)
 exact hk
theorem hstate_x (n:HaN k h b H) (hk:K (ux (H.f.at 768)) h):X Tryz.prog 184 #[.pointer (some ⟨b,0,none⟩)] h K:=by
 refine fnv (args:=_) mixed [] [] [] Tryz.func184 rfl (by kernel_rfl) (cw_ ?_)
 refine hcsr_x n 768 (by decide) (cw_ ?_)
 exact hk
theorem HaR.top {h:Hp} {b c:Nat} {H:Hd} {s:Value} (r:HaR h b H c s):Pa h b 0 harT [] ([.int .i64 H.id]++H.c.cs) (wcs H.r++(H.f.cs++H.z c s)):=⟨by rw [r];simp only [Hd.cs,Hd.a,List.append_assoc,List.nil_append],rfl⟩
theorem hmemory_x (n:HaN k h b H) (a:Nat) (m:Int) (ha:a<2 ^ 64) (hm:0≤m∧m≤8) (hk:K (.bool (memB H.c.lines a m)) h):X Tryz.prog 167 #[.pointer (some ⟨b,0,none⟩),ux a,.int .i64 m] h K:=by
 obtain ⟨c,s,r,ht,up⟩:=n.row
 have hc:=n.inv.cr
 obtain ⟨l,hl⟩:∃ l,H.c.lines=l:=⟨_,rfl⟩
 have hl2:1≤l∧l≤4096:=by unfold wrightB at hc;rw [hl] at hc;simp only [Bool.and_eq_true,decide_eq_true_eq] at hc;omega
 have l3:([Value.int .i64 H.id]++H.c.cs)[3]? = some (.int .i64 l):=by rw [← hl];rfl
 obtain ⟨x,hx⟩:∃ x:Int,(a:Int)=x:=⟨_,rfl⟩
 have hx2:0≤x∧x<18446744073709551616:=by omega
 have hk2:∀ q,q=decide (2147483648≤x∧x - 2147483648<64*l∧m≤64*l - (x - 2147483648))→K (.bool q) h:=fun q e=>by
  have:memB H.c.lines a m=q:=by rw [e,hl,← hx];unfold memB;rw [Bool.eq_iff_iff];simp only [decide_eq_true_eq];omega
  rw [← this];exact hk
 clear hk
 show X Tryz.prog _ #[.pointer (some ⟨b,0,none⟩),.int .u64 (a:Int),.int .i64 m] h K
 rw [hx]
 refine fnv (args:=_) mixed [] [] [] Tryz.func167 rfl (by kernel_rfl) (cw_ ?_)
 refine ⟨_,r.top.ld 3 aggI4 l3,cw_ ?_⟩
 refine ov_by (show IntKind.u64.wrap l=l by rw [toU64];omega) ?_
 conv=>whnf
 refine ov_by (show IntKind.u64.wrap (l*64)=64*l by rw [toU64];omega) ?_
 conv=>whnf
 refine ov_by (show IntKind.u64.wrap (x - 2147483648)=(if 2147483648≤x then x - 2147483648 else x+18446744071562067968) by rw [toU64];split <;> omega) ?_
 by_cases q1:2147483648≤x
 ·rw [if_pos q1]
  conv=>whnf
  rw [decide_eq_true q1]
  conv=>whnf
  by_cases q2:x - 2147483648<64*l
  ·rw [decide_eq_true q2]
   conv=>whnf
   refine ov_by (show IntKind.u64.wrap m=m by rw [toU64];omega) ?_
   conv=>whnf
   refine ov_by (show IntKind.u64.wrap (64*l - (x - 2147483648))=64*l - (x - 2147483648) by rw [toU64];omega) ?_
   conv=>whnf
   exact hk2 _ (by rw [Bool.eq_iff_iff];simp only [decide_eq_true_eq];omega)
  ·rw [decide_eq_false q2]
   conv=>whnf
   exact hk2 _ (by symm;rw [decide_eq_false_iff_not];omega)
 ·rw [if_neg q1]
  conv=>whnf
  rw [decide_eq_false q1]
  conv=>whnf
  exact hk2 _ (by symm;rw [decide_eq_false_iff_not];omega)
end
end Go.Proofs.YtdhlpighdlnohaaGreat
namespace Go.Proofs.YtdhlpighdlnohaaGreat
open Go Go.Mid Go.RowKit Go.Bits
attribute [local irreducible] mid
theorem root_lt (w:Nat):rootN w<2 ^ 64:=Nat.lt_of_lt_of_le (Nat.mod_lt _ (by decide)) (by decide)
section
variable {k h:Hp} {K:Value→Hp→Prop} {b:Nat} {H:Hd}
theorem vroot_x (w:Nat) (hw:w<2 ^ 64) (hk:K (ux (rootN w)) h):X Tryz.prog 336 #[ux w] h K:=by
 refine fnv (args:=_) mixed [] [] [] Tryz.func336 rfl (by kernel_rfl) (cw_ ?_)
 refine blow_x w 44 hw (by decide) (cw_ ?_)
 exact hk
theorem vasid_x (w:Nat) (hw:w<2 ^ 64) (hk:K (.int .i64 (asidN w)) h):X Tryz.prog 164 #[ux w] h K:=by
 unfold asidN at hk
 obtain ⟨q,hq⟩:∃ q,w / 2 ^ 44=q:=⟨_,rfl⟩
 rw [hq] at hk
 refine fnv (args:=_) mixed [] [] [] Tryz.func164 rfl (by kernel_rfl) (cw_ ?_)
 refine val_by ((shr64 w 44 (by decide)).trans (congrArg (fun n:Nat=>(n:Int)) hq)) (cw_ ?_)
 refine ov_by (show IntKind.u16.wrap (q:Int)=((q % 65536:Nat):Int) by simp [IntKind.wrap,IntKind.bits,IntKind.signed]) (cw_ ?_)
 refine n_ ?_
 exact hk
theorem vmode_x (w:Nat) (hw:w<2 ^ 64) (hk:K (.int .i64 (w / 2 ^ 60:Nat)) h):X Tryz.prog 335 #[ux w] h K:=by
 obtain ⟨q,hq⟩:∃ q,w / 2 ^ 60=q:=⟨_,rfl⟩
 rw [hq] at hk
 refine fnv (args:=_) mixed [] [] [] Tryz.func335 rfl (by kernel_rfl) (cw_ ?_)
 refine val_by ((shr64 w 60 (by decide)).trans (congrArg (fun n:Nat=>(n:Int)) hq)) (cw_ ?_)
 refine ov_is (show (q:Int)=q from rfl) (by omega) (cw_ ?_)
 exact hk
theorem vtrans_x (w:Nat) (p:Int) (hw:w<2 ^ 64) (hk:K (.bool (transB w p)) h):X Tryz.prog 268 #[ux w,.int .i64 p] h K:=by
 unfold transB at hk
 obtain ⟨q,hq⟩:∃ q,w / 2 ^ 60=q:=⟨_,rfl⟩
 rw [hq] at hk
 refine fnv (args:=_) mixed [] [] [] Tryz.func268 rfl (by kernel_rfl) (cw_ ?_)
 refine vmode_x w hw ?_
 rw [hq]
 conv=>whnf
 by_cases q1:q=8
 ·subst q1
  rw [decide_eq_true rfl,Bool.true_and] at hk
  conv=>whnf
  by_cases q2:p=0
  ·subst q2
   conv=>whnf
   exact hk
  ·rw [show (p==0)=false by simpa using q2]
   conv=>whnf
   exact kq hk (bI (by rw [Bool.eq_iff_iff];simp [q2]))
 ·rw [show ((q:Int)==8)=false by simp;omega]
  conv=>whnf
  exact kq hk (bI (by simp [q1]))
theorem bput0_x (w v s:Nat) (hs:s=12∨s=21∨s=30) (hw:w<2 ^ 64) (hv:v<2 ^ 64) (hk:K (ux (w / 2 ^ s*2 ^ s+v % 2 ^ s)) h):X Tryz.prog 339 #[ux w,.int .i64 0,.int .i64 s,ux v] h K:=by
 have hsm:v % 2 ^ s<2 ^ s:=Nat.mod_lt _ (Nat.pow_pos (by decide))
 rw [← or_low hsm] at hk
 have e1:IntKind.u64.wrap ((BitVec.ofInt IntKind.u64.bits (w:Int) &&& ~~~BitVec.ofInt IntKind.u64.bits (((2 ^ s - 1)*2 ^ 0:Nat):Int)).toNat:Int)=((w / 2 ^ s*2 ^ s:Nat):Int):=by
  have:=Tb.andNot_low s (by omega) (w:Int) (by omega)
  rcases hs with rfl | rfl | rfl <;> simpa using this
 have e2:(v*2 ^ 0 % 18446744073709551616) &&& ((2 ^ s - 1)*2 ^ 0)=v % 2 ^ s:=by
  rw [show (2 ^ s - 1)*2 ^ 0=2 ^ s - 1 by simp,Nat.and_two_pow_sub_one_eq_mod,show v*2 ^ 0 % 18446744073709551616=v by omega]
 obtain ⟨m,hm⟩:∃ m,(2 ^ s - 1)*2 ^ 0=m:=⟨_,rfl⟩
 obtain ⟨x,hx⟩:∃ x,w / 2 ^ s*2 ^ s=x:=⟨_,rfl⟩
 obtain ⟨y,hy⟩:∃ y,v*2 ^ 0 % 18446744073709551616=y:=⟨_,rfl⟩
 obtain ⟨z,hz⟩:∃ z,v % 2 ^ s=z:=⟨_,rfl⟩
 have hm1:m<2 ^ 64:=by rw [← hm];rcases hs with rfl | rfl | rfl <;> decide
 have hy1:y<2 ^ 64:=by omega
 have hx1:x<2 ^ 64:=by rw [← hx];exact Nat.lt_of_le_of_lt (Nat.div_mul_le_self _ _) hw
 have hz1:z<2 ^ 64:=by omega
 rw [hm,hx] at e1
 rw [hm,hy,hz] at e2
 rw [hx,hz] at hk
 refine fnv (args:=_) mixed [] [] [] Tryz.func339 rfl (by kernel_rfl) (cw_ ?_)
 refine bones_x 0 s (by decide) (by omega) ?_
 rw [hm]
 conv=>whnf
 refine val_by (e1) (cw_ ?_)
 refine bup_x v 0 (by decide) ?_
 rw [hy]
 conv=>whnf
 refine val_by ((and64 hy1 hm1).trans (congrArg (fun n:Nat=>(n:Int)) e2)) (cw_ ?_)
 refine val_by (or64 hx1 hz1) (cw_ ?_)
 exact hk
theorem ppn_lt (p:Nat):ppnN p<2 ^ 44:=Nat.mod_lt _ (by decide)
theorem pframe_x (p:Nat) (l:Int) (va:Nat) (hp:p<2 ^ 64) (hv:va<2 ^ 64) (hk:K (ux (frameN p l va)) h):X Tryz.prog 275 #[ux p,.int .i64 l,ux va] h K:=by
 unfold frameN at hk
 have hpp:=ppn_lt p
 by_cases q:0≤l∧l≤2
 ·rw [if_pos q] at hk
  have hc:l=0∨l=1∨l=2:=by omega
  obtain ⟨z,hz⟩:∃ z,ppnN p=z:=⟨_,rfl⟩
  rw [hz] at hk hpp
  rcases hc with rfl | rfl | rfl
  all_goals
   refine fnv (args:=_) mixed [] [] [] Tryz.func275 rfl (by kernel_rfl) (cw_ ?_)
   refine pgppn_x p hp ?_
   rw [hz]
   conv=>whnf
   refine ov_by ((shl64 z 12 (by decide)).trans (congrArg (fun n:Nat=>(n:Int)) (show z*2 ^ 12 % 18446744073709551616=z*2 ^ 12 by omega))) (cw_ ?_)
   refine n_ ?_
   refine n_ ?_
   first
    | refine bput0_x (z*2 ^ 12) va 12 (by decide) (by omega) hv ?_
    | refine bput0_x (z*2 ^ 12) va 21 (by decide) (by omega) hv ?_
    | refine bput0_x (z*2 ^ 12) va 30 (by decide) (by omega) hv ?_
   conv=>whnf
   exact hk
 ·rw [if_neg q] at hk
  refine fnv (args:=_) mixed [] [] [] Tryz.func275 rfl (by kernel_rfl) (cw_ ?_)
  by_cases q1:l<0
  ·rw [decide_eq_true q1]
   conv=>whnf
   exact hk
  ·rw [decide_eq_false q1]
   conv=>whnf
   refine bt_ ?_
   exact hk
end
end Go.Proofs.YtdhlpighdlnohaaGreat
namespace Go.Proofs.YtdhlpighdlnohaaGreat
open Go Go.Mid Go.RowKit Go.Bits
abbrev rfXHtE0:Go.Mid.RF:=[(2,2),(8,2),(18,2),(3,3),(10,3),(20,3),(22,3),(24,3),(26,3)]
attribute [local irreducible] mid
theorem first_mem {L:List Tb.En} {e:Tb.En}:∀ {ks:List Tb.Ky},Tb.firstE L ks=some e→e ∈ L
 | [],h=>by cases h
 | q :: ks,h=>by
  unfold Tb.firstE at h
  split at h
  ·rename_i x hx
   cases h
   exact List.mem_of_find?_eq_some hx
  ·exact first_mem h
theorem begin_ok (q:Qu) (hr:q.root<2 ^ 64) (hv:q.va<2 ^ 64):(Wk.begin q).ok:=by
 have hZ:({ Wk.zero with made:=true,q:=q }:Wk).ok:=⟨hr,hv,by show (0:Nat)≤2;decide,by show (0:Nat)<2 ^ 64;decide,by show (0:Nat)<2 ^ 64;decide⟩
 unfold Wk.begin
 split
 ·exact hZ.look q.root 2 (by decide)
 ·exact ⟨hr,hv,by show (0:Nat)≤2;decide,by show (0:Nat)<2 ^ 64;decide,by show (0:Nat)<2 ^ 64;decide⟩
theorem begin_q (q:Qu):(Wk.begin q).q=q:=by
 unfold Wk.begin
 split <;> rfl
def trV:Option Nat→Value
 | some p=>.tuple #[ux p,.bool true]
 | none=>.tuple #[ux 0,.bool false]
section
variable {k h:Hp} {K:Value→Hp→Prop} {b:Nat} {H:Hd}
theorem hquest_x (n:HaN k h b H) (va:Nat) (a p:Int) (hk:K (.agg (H.quest va a p).cs.toArray) h):X Tryz.prog 269 #[.pointer (some ⟨b,0,none⟩),ux va,.int .i64 a,.int .i64 p] h K:=by
 obtain ⟨c,s,r,ht,up⟩:=n.row
 have o:=n.inv.ok
 have hw:=o.f.at_lt
 refine fnv (args:=_) mixed [(8,8)] [165, 336, 186] [] Tryz.func269 rfl (by kernel_rfl) (cw_ ?_)
 refine hstate_x n (cw_ ?_)
 refine ⟨_,r.top.ld 3 aggI4 rfl,cw_ ?_⟩
 refine ⟨_,hcsr_x n 384 (by decide) ⟨rfl,rfl⟩,cw_ ?_⟩
 refine ⟨_,vroot_x _ (hw 384) ⟨rfl,rfl⟩,cw_ ?_⟩
 refine ⟨_,shasSum_x _ (hw 768) ⟨rfl,rfl⟩,cw_ ?_⟩
 refine ⟨_,shasMxr_x _ (hw 768) ⟨rfl,rfl⟩,cw_ ?_⟩
 exact hk
theorem husable_x (e:En) (q:Qu) (he:e.pte<2 ^ 64) (hk:K (.bool (usableB e q)) h):X Tryz.prog 271 #[.agg e.cs.toArray,.agg q.cs.toArray] h K:=by
 unfold usableB at hk
 obtain ⟨m,hm⟩:∃ m,decide (markN e.pte q.access≠e.pte)=m:=⟨_,rfl⟩
 have hm2:decide (markN e.pte q.access=e.pte)=!m:=by rw [← hm,decide_not,Bool.not_not]
 rw [hm2] at hk
 refine fnv (args:=_) mixed rfXHtE0 [] [] Tryz.func271 rfl (by kernel_rfl) (cw_ ?_)
 refine pmark_x e.pte q.access he ?_
 rw [hm]
 conv=>whnf
 cases m with
 | true=>exact hk
 | false =>
  conv=>whnf
  refine plets_x e.pte q.access q.priv q.sum q.mxr he (cw_ ?_)
  exact hk
theorem huse_x (n:HaN k h b H) (e:En) (va:Nat) (hl:H.told.length≤2 ^ 20) (he:e.pte<2 ^ 64) (hv:va<2 ^ 64) (hk:∀ h',HaN k h' b (H.use e va)→K (ux (frameN e.pte e.level va)) h'):X Tryz.prog 166 #[.pointer (some ⟨b,0,none⟩),.agg e.cs.toArray,ux va] h K:=by
 obtain ⟨e1,e2,e3,e4⟩:=e
 refine fnv (args:=_) mixed [(4,4),(12,4),(14,4)] [] [] Tryz.func166 rfl (by kernel_rfl) (cw_ ?_)
 refine big_by (v:=.agg (Ak.cs { Ak.zero with kind:=16,addr:=va,ent:=⟨e1,e2,e3,e4⟩ }).toArray) (by kernel_rfl) (cw_ ?_)
 refine hnote_x n _ hl fun h1 n1=>(cw_ ?_)
 refine pframe_x e4 e3 va he hv (cw_ ?_)
 exact hk h1 n1
theorem z_set {P cs y B:List Value} (hl:cs.length=y.length):setL (P++(cs++B)) P.length y=P++(y++B):=(setL_in (i:=0) (by omega)).trans (by rw [setL_all hl])
def zP (H:Hd) (c:Nat):List Value:=[ux H.pc,.int .i64 H.priv,.pointer (some ⟨c,0,none⟩),.bool H.live,.bool H.parked,.int .i64 H.turns,.int .i64 H.retired,.int .i64 H.t.at_,ux H.t.lines]
def zW (H:Hd) (s:Value):List Value:=[.int .u32 H.t.word]++(H.t.x.cs++(H.t.e.cs++(H.t.ask.cs++(H.t.shot.cs++[s]))))
theorem z_wk (H:Hd) (c:Nat) (s:Value):H.z c s=zP H c++(H.t.wk.cs++zW H s):=by
 unfold Hd.z Tn.cs zP zW
 simp only [List.append_assoc,List.cons_append,List.nil_append]
theorem set_wk (H:Hd) (c:Nat) (s:Value) (w:Wk):setL (H.z c s) 9 w.cs=({ H with t:={ H.t with wk:=w } }:Hd).z c s:=by
 rw [z_wk H,z_wk { H with t:={ H.t with wk:=w } }]
 exact z_set (P:=zP H c) (cs:=H.t.wk.cs) (y:=w.cs) (B:=zW H s) rfl
theorem ag_cells (l:List Value):(Value.agg l.toArray).cells.toList=l:=rfl
theorem st_wk {A:List Value} {c:Nat} {s:Value} {a:Addr} (w:Wk) (p:Pa h b 62 harT A (H.z c s) []) (ha:a=⟨b,62+9,none⟩:=by first | rfl | (simp [addr_add];done)):storeH Tryz.prog 125 h a (.agg w.cs.toArray)=some (b,rowO harT (A++(({ H with t:={ H.t with wk:=w } }:Hd).z c s++[]))) :=
 p.stA 9 sizWk (by show 9+14≤71;decide) (z:=.agg w.cs.toArray) (cs':=({ H with t:={ H.t with wk:=w } }:Hd).z c s) (by rw [ag_cells];exact set_wk H c s w) (by rw [ag_cells];rfl) (by rw [ag_cells];rfl) ha
theorem sizWhr:sizeT Tryz.prog 121 = some 1:=by kernel_rfl
theorem htranslate_x (n:HaN k h b H) (va:Nat) (a p:Int) (hl:H.told.length≤2 ^ 20) (hv:va<2 ^ 64) (ha:a=0∨a=1∨a=2) (hk:∀ h',HaN k h' b (H.translate tbT va a p).1→K (trV (H.translate tbT va a p).2) h'):X Tryz.prog 157 #[.pointer (some ⟨b,0,none⟩),ux va,.int .i64 a,.int .i64 p] h K:=by
 have i:=n.inv
 have o:=i.ok
 have hw:=o.f.at_lt 384
 unfold Hd.translate at hk
 obtain ⟨tr,htr⟩:∃ t,transB (H.f.at 384) p=t:=⟨_,rfl⟩
 rw [htr] at hk
 cases tr with
 | false =>
  refine fnv (args:=_) mixed [(11,11),(12,12)] [164] [] Tryz.func157 rfl (by kernel_rfl) (cw_ ?_)
  refine hcsr_x n 384 (by decide) (cw_ ?_)
  refine vtrans_x _ p hw ?_
  rw [htr]
  conv=>whnf
  exact hk h n
 | true =>
  obtain ⟨c,s,r,ht,up⟩:=n.row
  obtain ⟨q,hq⟩:∃ q,H.quest va a p=q:=⟨_,rfl⟩
  have hqr:q.root<2 ^ 64:=by rw [← hq];exact root_lt _
  have hqv:q.va<2 ^ 64:=by rw [← hq];exact hv
  have hqa:q.access=0∨q.access=1∨q.access=2:=by rw [← hq];exact ha
  obtain ⟨fo,hfo⟩:∃ f,Tb.findI (H.L.map toE) (asidN (H.f.at 384)) va=f:=⟨_,rfl⟩
  have hfi:tbT.find H.L (asidN (H.f.at 384)) va=fo.map ofE:=by show (Tb.findI _ _ _).map ofE=_;rw [hfo]
  rw [hfi,hq] at hk
  have hb1:H.beginW va a p={ H with t:={ H.t with wk:=Wk.begin q } }:=by unfold Hd.beginW;rw [hq]
  rw [hb1] at hk
  have hinv:({ H with t:={ H.t with wk:=Wk.begin q } }:Hd).inv:={ i with ok:=⟨o.r,o.rw,o.f,o.pc⟩,w:=begin_ok q hqr hqv,wa:=by rw [show ({ H with t:={ H.t with wk:=Wk.begin q } }:Hd).t.wk.q=q from begin_q q];exact hqa }
  cases fo with
  | none =>
   refine fnv (args:=_) mixed [(11,11),(12,12)] [164] [] Tryz.func157 rfl (by kernel_rfl) (cw_ ?_)
   refine hcsr_x n 384 (by decide) (cw_ ?_)
   refine vtrans_x _ p hw ?_
   rw [htr]
   conv=>whnf
   refine hquest_x n va a p ?_
   rw [hq]
   conv=>whnf
   refine ⟨_,(r.z o.len).ld 2 aggTp rfl,cw_ ?_⟩
   refine ⟨_,vasid_x _ hw ⟨rfl,rfl⟩,cw_ ?_⟩
   refine Tb.find_x _ _ (by omega) h _ ht ?_
   rw [hfo]
   refine ⟨trivial,cw_ ?_⟩
   refine wbegin_x q hqr hqv (cw_ ?_)
   refine wr_intro (by exact st_wk (Wk.begin q) (r.z o.len)) (fun h1 at_h1 ot_h1=>cw_ ?_)
   have n1:HaN k h1 b { H with t:={ H.t with wk:=Wk.begin q } }:=up h1 _ (HaR.ofZ (H:=H) rfl ⟨at_h1,o.len⟩) (fun d x hd e=>by rw [ot_h1 d hd];exact e) hinv rfl rfl rfl
   exact hk h1 n1
  | some e0 =>
   have hmem:e0 ∈ H.L.map toE:=first_mem hfo
   have heok:=i.T.ok e0 hmem
   obtain ⟨e,rfl⟩:∃ e,e0=toE e:=⟨ofE e0,(to_of heok).symm⟩
   have he:e.pte<2 ^ 64:=by have:=heok.2.2;show e.pte<2 ^ 64;have h2:((e.pte:Nat):Int)<2 ^ 64:=this;omega
   rw [Option.map_some,of_to] at hk
   obtain ⟨u,hu⟩:∃ u,usableB e q=u:=⟨_,rfl⟩
   simp only [hu] at hk
   cases u with
   | true =>
    refine fnv (args:=_) mixed [(11,11),(12,12)] [164] [] Tryz.func157 rfl (by kernel_rfl) (cw_ ?_)
    refine hcsr_x n 384 (by decide) (cw_ ?_)
    refine vtrans_x _ p hw ?_
    rw [htr]
    conv=>whnf
    refine hquest_x n va a p ?_
    rw [hq]
    conv=>whnf
    refine ⟨_,(r.z o.len).ld 2 aggTp rfl,cw_ ?_⟩
    refine ⟨_,vasid_x _ hw ⟨rfl,rfl⟩,cw_ ?_⟩
    refine Tb.find_x _ _ (by omega) h _ ht ?_
    rw [hfo]
    refine ⟨trivial,cw_ ?_⟩
    refine husable_x e q he ?_
    rw [hu]
    conv=>whnf
    refine huse_x n e va hl he hv fun h1 n1=>(cw_ ?_)
    exact hk h1 n1
   | false =>
    refine fnv (args:=_) mixed [(11,11),(12,12)] [164] [] Tryz.func157 rfl (by kernel_rfl) (cw_ ?_)
    refine hcsr_x n 384 (by decide) (cw_ ?_)
    refine vtrans_x _ p hw ?_
    rw [htr]
    conv=>whnf
    refine hquest_x n va a p ?_
    rw [hq]
    conv=>whnf
    refine ⟨_,(r.z o.len).ld 2 aggTp rfl,cw_ ?_⟩
    refine ⟨_,vasid_x _ hw ⟨rfl,rfl⟩,cw_ ?_⟩
    refine Tb.find_x _ _ (by omega) h _ ht ?_
    rw [hfo]
    refine ⟨trivial,cw_ ?_⟩
    refine husable_x e q he ?_
    rw [hu]
    conv=>whnf
    refine wbegin_x q hqr hqv (cw_ ?_)
    refine wr_intro (by exact st_wk (Wk.begin q) (r.z o.len)) (fun h1 at_h1 ot_h1=>cw_ ?_)
    have n1:HaN k h1 b { H with t:={ H.t with wk:=Wk.begin q } }:=up h1 _ (HaR.ofZ (H:=H) rfl ⟨at_h1,o.len⟩) (fun d x hd e=>by rw [ot_h1 d hd];exact e) hinv rfl rfl rfl
    exact hk h1 n1
end
end Go.Proofs.YtdhlpighdlnohaaGreat
namespace Go.Proofs.YtdhlpighdlnohaaGreat
open Go Go.Mid Go.RowKit Go.Bits
abbrev rfXHtF0:Go.Mid.RF:=[(5,5),(44,5),(6,6),(26,6),(29,6),(35,6),(38,6),(52,6),(59,6)]
attribute [local irreducible] mid
theorem found_ok (w:Wk) (o:w.ok):w.found.pte<2 ^ 64∧w.found.page<2 ^ 64∧0≤w.found.level∧w.found.level≤2:=by
 unfold Wk.found
 split
 ·refine ⟨o.entry,?_,Int.natCast_nonneg _,?_⟩
  ·have:=o.va
   show pageN w.q.va w.level<2 ^ 64
   unfold pageN
   exact Nat.lt_of_le_of_lt (Nat.div_mul_le_self _ _) this
  ·have:=o.lev
   show ((w.level:Nat):Int)≤2
   omega
 ·exact ⟨by show (0:Nat)<2 ^ 64;decide,by show (0:Nat)<2 ^ 64;decide,by show (0:Int)≤0;decide,by show (0:Int)≤2;decide⟩
theorem asid_lt (w:Nat):asidN w≤65535:=by unfold asidN;omega
section
variable {k h:Hp} {K:Value→Hp→Prop} {b:Nat} {H:Hd}
theorem add_map {H:Hd} (i:H.inv) (e:En) (he:(toE e).ok) (hv:0≤(toE e).level∧(toE e).level≤2∧0≤(toE e).asid∧(toE e).asid≤65535):(tbT.add H.c.tlb H.L e).map toE=Tb.addI H.c.tlb (H.L.map toE) (toE e):=toE_ofE _ (Tb.good_add i.T he hv).ok
theorem HaR.wk {c:Nat} {s:Value} (r:HaR h b H c s) (o:H.a.length=62):Pa h b 71 harT (H.a++zP H c) H.t.wk.cs (zW H s):=⟨by rw [r];show some (rowO harT (H.a++H.z c s))=_;rw [z_wk,List.append_assoc],by rw [List.length_append,o];rfl⟩
theorem HaR.ofWk {w:Wk} {c:Nat} {s:Value} (r:Pa h b 71 harT (H.a++zP H c) w.cs (zW H s)):HaR h b { H with t:={ H.t with wk:=w } } c s:=by
 unfold HaR
 rw [r.row]
 show _=some (rowO harT (H.a++({ H with t:={ H.t with wk:=w } }:Hd).z c s))
 rw [z_wk,List.append_assoc]
 rfl
theorem hwalked_x (n:HaN k h b H) (hl:H.told.length+1≤2 ^ 20) (hk:∀ h',HaN k h' b (H.walked tbT).1→K (trV (H.walked tbT).2) h'):X Tryz.prog 97 #[.pointer (some ⟨b,0,none⟩)] h K:=by
 have i:=n.inv
 have o:=i.ok
 have hw:=o.f.at_lt 384
 obtain ⟨c,s,g,r,hg,ht,put⟩:=n.cache
 obtain ⟨e,he⟩:∃ e,H.t.wk.end_=e:=⟨_,rfl⟩
 obtain ⟨q,hq⟩:∃ q,H.t.wk.q=q:=⟨_,rfl⟩
 obtain ⟨f,hf⟩:∃ f,H.t.wk.found=f:=⟨_,rfl⟩
 obtain ⟨f1,f2,f3,f4⟩:=found_ok _ i.w
 have hqv:=i.w.va
 have hqa:=i.wa
 rw [hf] at f1 f2 f3 f4
 unfold Hd.walked Hd.filled at hk
 rw [he,hq,hf] at hk
 rw [hq] at hqv hqa
 by_cases c0:e=0
 ·subst c0
  rw [if_pos rfl] at hk
  refine fnv (args:=_) mixed rfXHtF0 [] [] Tryz.func97 rfl (by kernel_rfl) (cw_ ?_)
  refine wend_x (r.wk o.len) i.w ?_
  rw [he,hf]
  conv=>whnf
  refine wquest_x (r.wk o.len) ?_
  rw [hq]
  conv=>whnf
  exact hk h n
 rw [if_neg c0] at hk
 by_cases c2:e=2
 ·subst c2
  rw [if_pos rfl] at hk
  refine fnv (args:=_) mixed rfXHtF0 [] [] Tryz.func97 rfl (by kernel_rfl) (cw_ ?_)
  refine wend_x (r.wk o.len) i.w ?_
  rw [he,hf]
  conv=>whnf
  refine wquest_x (r.wk o.len) ?_
  rw [hq]
  conv=>whnf
  refine cpage_x q.access hqa ?_
  refine ⟨trivial,cw_ ?_⟩
  refine htrap_x n (accCode q.access 12 13 15) q.va hqv fun h1 n1=>?_
  refine ⟨trivial,cw_ ?_⟩
  exact hk h1 n1
 rw [if_neg c2] at hk
 by_cases c3:e=3
 ·subst c3
  rw [if_pos rfl] at hk
  refine fnv (args:=_) mixed rfXHtF0 [] [] Tryz.func97 rfl (by kernel_rfl) (cw_ ?_)
  refine wend_x (r.wk o.len) i.w ?_
  rw [he,hf]
  conv=>whnf
  refine wquest_x (r.wk o.len) ?_
  rw [hq]
  conv=>whnf
  refine cfault_x q.access hqa ?_
  refine ⟨trivial,cw_ ?_⟩
  refine htrap_x n (accCode q.access 1 5 7) q.va hqv fun h1 n1=>?_
  refine ⟨trivial,cw_ ?_⟩
  exact hk h1 n1
 rw [if_neg c3] at hk
 refine fnv (args:=_) mixed rfXHtF0 [] [] Tryz.func97 rfl (by kernel_rfl) (cw_ ?_)
 refine wend_x (r.wk o.len) i.w ?_
 rw [he,hf]
 conv=>whnf
 refine wquest_x (r.wk o.len) ?_
 rw [hq]
 conv=>whnf
 refine bf_ ?_ (by simp;exact c0)
 refine bf_ ?_ (by simp;exact c2)
 refine bf_ ?_ (by simp;exact c3)
 obtain ⟨a0,pg,lv,pt⟩:=f
 have hvl:0≤(toE ⟨asidN (H.f.at 384),pg,lv,pt⟩).level∧(toE ⟨asidN (H.f.at 384),pg,lv,pt⟩).level≤2∧0≤(toE ⟨asidN (H.f.at 384),pg,lv,pt⟩).asid∧(toE ⟨asidN (H.f.at 384),pg,lv,pt⟩).asid≤65535:=by
  have:=asid_lt (H.f.at 384)
  exact ⟨f3,f4,by show (0:Int)≤((asidN (H.f.at 384):Nat):Int);omega,by show ((asidN (H.f.at 384):Nat):Int)≤65535;omega⟩
 have hok1:(toE ⟨asidN (H.f.at 384),pg,lv,pt⟩).ok :=
  ⟨⟨by show (0:Int)≤((pg:Nat):Int);omega,by show ((pg:Nat):Int)<2 ^ 64;have:pg<2 ^ 64:=f2;omega⟩,by show (0:Int)≤((pt:Nat):Int);omega,by show ((pt:Nat):Int)<2 ^ 64;have:pt<2 ^ 64:=f1;omega⟩
 have hadd:=add_map i ⟨asidN (H.f.at 384),pg,lv,pt⟩ hok1 hvl
 have hgood:Tb.Good H.c.tlb ((tbT.add H.c.tlb H.L ⟨asidN (H.f.at 384),pg,lv,pt⟩).map toE):=by rw [hadd];exact Tb.good_add i.T hok1 hvl
 refine hcsr_x n 384 (by decide) (cw_ ?_)
 refine vasid_x _ hw (cw_ ?_)
 refine ⟨_,(r.z o.len).ld 2 aggTp rfl,cw_ ?_⟩
 refine X.frame hg (Tb.add_x i.T hok1 hvl g (fun v g'=>v=.bool true∧Tb.TlbH g' c H.c.tlb (Tb.addI H.c.tlb (H.L.map toE) (toE ⟨asidN (H.f.at 384),pg,lv,pt⟩))) ht fun g' tg=>⟨rfl,tg⟩) fun v g' h1 hp u=>?_
 obtain ⟨rfl,tg⟩:=hp
 rw [← hadd] at tg
 have n1:=put g' h1 _ u tg hgood
 refine ⟨trivial,cw_ ?_⟩
 refine big_by (v:=.agg (Ak.cs { Ak.zero with kind:=15,addr:=q.va,ent:=⟨asidN (H.f.at 384),pg,lv,pt⟩ }).toArray) (by kernel_rfl) (cw_ ?_)
 refine hnote_x n1 _ (by show H.told.length≤_;omega) fun h2 n2=>(cw_ ?_)
 refine huse_x n2 ⟨asidN (H.f.at 384),pg,lv,pt⟩ q.va (by show (H.told++[_]).length≤_;rw [List.length_append];exact hl) f1 hqv fun h3 n3=>(cw_ ?_)
 exact hk h3 n3
end
end Go.Proofs.YtdhlpighdlnohaaGreat
