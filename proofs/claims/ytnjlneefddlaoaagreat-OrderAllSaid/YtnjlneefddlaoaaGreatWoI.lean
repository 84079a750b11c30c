/-
  Worlds: loads and stores, whole.
-/
import Derived.Test.YtnjlneefddlaoaaGreatWoH
set_option linter.unusedSimpArgs false
set_option linter.unusedVariables false
set_option maxHeartbeats 8000000
set_option maxRecDepth 10000
set_option linter.unusedSimpArgs false
set_option linter.unusedVariables false
namespace Go.Proofs.YtnjlneefddlaoaaGreat
open Go Go.Mid Go.RowKit Go.Bits
attribute [local irreducible] mid
def mayL (W:Wd) (i:Int) (a:Ak):Bool:=decide (0≤i∧i<W.c.harts) && (shapedL a && (partsP W.ram.length a).isSome)
def doL (W:Wd) (i:Int) (a:Ak):Wd:=if mayL W i a=true∧a.kind=3 then { W with ram:=layR W.ram a a.data,r:=killR i (linesA a) 0 W.r } else W
def ansL (W:Wd) (i:Int) (a:Ak):An:=An.ofN (if mayL W i a=true∧a.kind=2 then loadN W.ram a else 0) false
theorem shapedL_sz {a:Ak} (h:shapedL a=true):0≤a.cut∧a.cut<a.size∧a.size≤8:=by
 have:=of_decide_eq_true h
 omega
section
variable {h:Hp} {K:Value→Hp→Prop}
theorem partsV_ok (rb:Nat) (a:Ak) (q:Option (Nat×Option Nat)):∃ b1 n1 c1 b2 n2 c2,partsV rb a q=.tuple #[.slice b1 n1 c1,.slice b2 n2 c2,.bool q.isSome]:=by
 rcases q with _ | ⟨i,_ | j⟩ <;> exact ⟨_,_,_,_,_,_,rfl⟩
theorem may1_x {k:Hp} {w:Nat} {W:Wd} (o:WoN k h w W) (hl:W.ram.length≤2 ^ 30) (i:Int) (a:Ak) (ha:a.ok) (hkd:a.kind=2∨a.kind=3)
  (hk:K (.bool (mayL W i a)) h):X Tryz.prog 39 #[.pointer (some ⟨w,0,none⟩),.int .i64 i,.agg a.cs.toArray] h K:=by
 have o0:=o
 obtain ⟨lek,nw,ok,rb,b,p,cap,rest,ib,ob,hw,hrb,hcap,hbu,hkn,hib,hob⟩:=o0
 have hg:groupN a.kind=1:=by rcases hkd with e | e <;> rw [e] <;> rfl
 unfold mayL at hk
 refine X.forget ?_
 refine fnv (args:=_) mixed [] [] [] Tryz.func39 rfl (by kernel_rfl) (cw_ ?_)
 refine new_intro (o:=rowO 59 a.cs) (fun z h1 n_z le_z at_z ot_z=>cw_ ?_)
 refine ⟨_,loadC (i:=0) aggKi at_z rfl,cw_ ?_⟩
 refine group_x a.kind ?_
 rw [hg]
 conv=>whnf
 refine whart_x (o.up le_z) i ?_
 cases hh:decide (0≤i∧i<W.c.harts) with
 | false =>
  rw [hh] at hk
  conv=>whnf
  exact ⟨h,le_z,hk⟩
 | true =>
  rw [hh] at hk
  conv=>whnf
  refine ⟨_,loadA0 aggAk sizAk at_z rfl,cw_ ?_⟩
  refine shapedL_x a hkd ?_
  cases hs:shapedL a with
  | false =>
   rw [hs] at hk
   conv=>whnf
   exact ⟨h,le_z,hk⟩
  | true =>
   rw [hs] at hk
   conv=>whnf
   refine ⟨_,loadA0 aggAk sizAk at_z rfl,cw_ ?_⟩
   refine parts_x (le_z _ _ hw) hl (by omega) a ha (shapedL_sz hs) ?_
   obtain ⟨b1,n1,c1,b2,n2,c2,hpv⟩:=partsV_ok rb a (partsP W.ram.length a)
   rw [hpv]
   conv=>whnf
   exact ⟨h,le_z,hk⟩
theorem do1_x {k:Hp} {w:Nat} {W:Wd} (o:WoN k h w W) (hl:W.ram.length≤2 ^ 30) (i:Int) (a:Ak) (ha:a.ok) (hkd:a.kind=2∨a.kind=3)
  (hk:∀ h',WoN k h' w (doL W i a)→K (.tuple #[.agg (ansL W i a).cs.toArray,.bool (mayL W i a)]) h'):X Tryz.prog 30 #[.pointer (some ⟨w,0,none⟩),.int .i64 i,.agg a.cs.toArray] h K:=by
 have hg:groupN a.kind=1:=by rcases hkd with e | e <;> rw [e] <;> rfl
 refine fnv (args:=_) mixed [] [] [] Tryz.func30 rfl (by kernel_rfl) (cw_ ?_)
 refine new_intro (o:=rowO 59 a.cs) (fun z h1 n_z le_z at_z ot_z=>cw_ ?_)
 refine new_intro (o:=rowO 62 An.zero.cs) (fun y h2 n_y le_y at_y ot_y=>cw_ ?_)
 have ny:h y=none:=Hp.none_le le_z n_y
 have oy:=(o.new n_z le_z at_z).new n_y le_y at_y
 have z2:=le_y _ _ at_z
 have le0:∀ v:Obj,k.le (((k.set z (rowO 59 a.cs)).set y (rowO 62 An.zero.cs)).set y v):=fun v x q e=>by
  have hx:x≠y:=fun e2=>by subst e2;rw [Hp.none_le o.le ny] at e;cases e
  have hx2:x≠z:=fun e2=>by subst e2;rw [Hp.none_le o.le n_z] at e;cases e
  rw [Hp.set_other _ _ hx,Hp.set_other _ _ hx,Hp.set_other _ _ hx2];exact e
 refine ⟨_,loadA0 aggAk sizAk z2 rfl,cw_ ?_⟩
 refine may1_x oy hl i a ha hkd ?_
 unfold doL ansL at hk
 cases hm:mayL W i a with
 | false =>
  rw [hm] at hk
  rw [if_neg (fun hh=>by cases hh.1),if_neg (fun hh=>by cases hh.1)] at hk
  conv=>whnf
  refine big_by (v:=.agg An.zero.cs.toArray) (by kernel_rfl) (cw_ ?_)
  refine wr_intro (by exact storeA0 (z:=.agg An.zero.cs.toArray) sizAn42 at_y rfl rfl rfl) (fun h4 at_h4 ot_h4=>cw_ ?_)
  refine ⟨_,loadA0 aggAn sizAn at_h4 rfl,cw_ ?_⟩
  exact hk _ ((oy.wr (Hp.set_same _ _ _) at_h4 ot_h4).weak (le0 _))
 | true =>
  rw [hm] at hk
  have hsz:=shapedL_sz (a:=a) (by
   unfold mayL at hm
   simp only [Bool.and_eq_true] at hm
   exact hm.2.1)
  conv=>whnf
  refine ⟨_,loadC (i:=0) aggKi z2 rfl,cw_ ?_⟩
  refine group_x a.kind ?_
  rw [hg]
  conv=>whnf
  refine ⟨_,loadA0 aggAk sizAk z2 rfl,cw_ ?_⟩
  refine memory_x oy hl i a ha hsz hkd fun h3 o3=>?_
  have y3:h3 y=some (rowO 62 An.zero.cs):=o3.le _ _ (Hp.set_same _ _ _)
  generalize hv:(if a.kind=3 then 0 else loadN W.ram a)=v
  refine wr_intro (by exact storeA0 (z:=.agg (An.ofN v false).cs.toArray) sizAn42 y3 rfl rfl rfl) (fun h4 at_h4 ot_h4=>cw_ ?_)
  refine ⟨_,loadA0 aggAn sizAn at_h4 rfl,cw_ ?_⟩
  have o4:=(o3.wr (Hp.set_same _ _ _) at_h4 ot_h4).weak (le0 _)
  have hk:=hk h4
  rw [show (if true=true∧a.kind=2 then loadN W.ram a else 0)=v by
   rw [← hv]
   rcases hkd with e | e <;> simp [e]] at hk
  refine hk ?_
  rw [show (if true=true∧a.kind=3 then ({ W with ram:=layR W.ram a a.data,r:=killR i (linesA a) 0 W.r }:Wd) else W)=if a.kind=3 then { W with ram:=layR W.ram a a.data,r:=killR i (linesA a) 0 W.r } else W by simp]
  exact o4
end
end Go.Proofs.YtnjlneefddlaoaaGreat
