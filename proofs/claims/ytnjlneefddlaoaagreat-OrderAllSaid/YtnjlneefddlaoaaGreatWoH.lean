/-
  Worlds: what loads and stores do.
-/
import Derived.Test.YtnjlneefddlaoaaGreatWoG
set_option linter.unusedSimpArgs false
set_option linter.unusedVariables false
set_option maxHeartbeats 8000000
set_option maxRecDepth 10000
set_option linter.unusedSimpArgs false
set_option linter.unusedVariables false
namespace Go.Proofs.YtnjlneefddlaoaaGreat
open Go Go.Mid Go.RowKit Go.Bits
attribute [local irreducible] mid
def loadN (ram:Str) (a:Ak):Nat:=match partsP ram.length a with
 | none=>0
 | some (i,none)=>leN ((ram.drop i).take (fstN a).toNat)
 | some (i,some j)=>leN ((ram.drop i).take (fstN a).toNat++(ram.drop j).take (a.size - a.cut).toNat)
def An.ofN (n:Nat) (g:Bool):An:=⟨n,g,.zero,.zero,.zero,.zero,.zero,.zero,.zero,.zero⟩
theorem bytes_rd {h:Hp} {rb i f:Nat} {ram:Str} {rest:List Value} (hrb:h rb=some (rowO 5 (ram.map byV++rest))) (hl:i+f≤ram.length):RdY h (.slice (some ⟨rb,i,none⟩) f f) ((ram.drop i).take f):=by
 have hlen:((ram.drop i).take f).length=f:=by rw [List.length_take,List.length_drop];omega
 refine ⟨_,f,by rw [hlen],fun j c hc=>⟨_,rfl,?_⟩⟩
 have hj:j<f:=by have:=(List.getElem?_eq_some_iff.1 hc).1;omega
 rw [List.getElem?_take_of_lt hj,List.getElem?_drop] at hc
 rw [addr_add]
 exact cell_row hrb (by rw [List.getElem?_append_left (by rw [List.length_map];omega),List.getElem?_map,hc];rfl)
theorem parts_rd {h:Hp} {rb:Nat} {ram:Str} {rest:List Value} (hrb:h rb=some (rowO 5 (ram.map byV++rest))) (a:Ak) (hsz:0≤a.cut∧a.cut<a.size∧a.size≤8):∃ (s1 s2:Value) (ok:Bool) (A B:Str),partsV rb a (partsP ram.length a)=.tuple #[s1,s2,.bool ok]∧RdY h s1 A∧RdY h s2 B∧A.length+B.length≤8∧loadN ram a=leN (A++B)∧(∃ b n c,s1=.slice b n c)∧∃ b n c,s2=.slice b n c:=by
 have hf:0≤fstN a∧fstN a≤8:=by unfold fstN;split <;> omega
 have hnil:RdY h (.slice none 0 0) []:=⟨none,0,rfl,fun j c hc=>by simp at hc⟩
 unfold loadN
 cases hp:partsP ram.length a with
 | none=>exact ⟨_,_,_,[],[],rfl,hnil,hnil,by decide,rfl,⟨_,_,_,rfl⟩,⟨_,_,_,rfl⟩⟩
 | some q =>
  obtain ⟨i,j⟩:=q
  unfold partsP at hp
  cases h1:spotP ram.length a.addr (fstN a) with
  | none=>rw [h1] at hp;cases hp
  | some i' =>
   rw [h1] at hp
   simp only at hp
   obtain ⟨g1,g2⟩:=spot_some h1
   split at hp
   ·cases hp
    refine ⟨_,_,_,(ram.drop i).take (fstN a).toNat,[],rfl,bytes_rd hrb (by omega),hnil,?_,by rw [List.append_nil],⟨_,_,_,rfl⟩,⟨_,_,_,rfl⟩⟩
    rw [List.length_take,List.length_nil];omega
   ·rename_i hc
    cases h2:spotP ram.length a.next (a.size - a.cut) with
    | none=>rw [h2] at hp;cases hp
    | some j' =>
     rw [h2] at hp
     cases hp
     obtain ⟨g3,g4⟩:=spot_some h2
     refine ⟨_,_,_,(ram.drop i).take (fstN a).toNat,(ram.drop j').take (a.size - a.cut).toNat,rfl,bytes_rd hrb (by omega),bytes_rd hrb (by omega),?_,rfl,⟨_,_,_,rfl⟩,⟨_,_,_,rfl⟩⟩
     have:fstN a=a.cut:=by unfold fstN;rw [if_pos (by omega)]
     rw [List.length_take,List.length_take];omega
section
variable {h:Hp} {K:Value→Hp→Prop}
theorem RdY.le {h h':Hp} {s:Value} {l:Str} (r:RdY h s l) (hle:h.le h'):RdY h' s l:=by
 obtain ⟨base,cap,e,f⟩:=r.go
 exact ⟨base,cap,e,fun i c hc=>(f i c hc).imp fun a ha=>⟨ha.1,cell_le hle ha.2⟩⟩
theorem WoN.up {k h':Hp} {w:Nat} {W:Wd} (o:WoN k h w W) (hle:h.le h'):WoN k h' w W:=by
 obtain ⟨lek,nw,ok,rb,b,p,cap,rest,ib,ob,hw,hrb,hcap,hbu,hkn,hib,hob⟩:=o
 exact ⟨Hp.le_trans lek hle,nw,ok,rb,b,p,cap,rest,ib,ob,hle _ _ hw,hle _ _ hrb,hcap,hbu.le hle,hkn,hib,hob⟩
theorem WoN.weak {k k2:Hp} {w:Nat} {W:Wd} (o:WoN k h w W) (hle:k2.le k):WoN k2 h w W:=by
 obtain ⟨lek,nw,ok,rb,b,p,cap,rest,ib,ob,hw,hrb,hcap,hbu,hkn,hib,hob⟩:=o
 have nn:∀ {x},k x=none→k2 x=none:=fun e=>Hp.none_le hle e
 exact ⟨Hp.le_trans hle lek,nn nw,ok,rb,b,p,cap,rest,ib,ob,hw,hrb,hcap,hbu,⟨nn hkn.1,nn hkn.2.1,nn hkn.2.2⟩,fun x e=>⟨(hib x e).1,nn (hib x e).2⟩,fun x e=>⟨(hob x e).1,nn (hob x e).2⟩⟩
theorem WoN.new {k h':Hp} {w z:Nat} {W:Wd} {x:Obj} (o:WoN k h w W) (hz:h z=none) (hle:h.le h') (hat:h' z=some x):WoN (k.set z x) h' w W:=by
 obtain ⟨lek,nw,ok,rb,b,p,cap,rest,ib,ob,hw,hrb,hcap,hbu,hkn,hib,hob⟩:=o
 have nn:∀ {y o},k y=none→h y=some o→k.set z x y=none:=fun {y o} e1 e2=>by
  unfold Hp.set
  rw [if_neg (fun e=>by subst e;rw [hz] at e2;cases e2)]
  exact e1
 obtain ⟨si,so,hp,gi,go⟩:=hbu.port.go
 have gn:∀ {s:Value} {l:Str} {q:Option Nat},Gr h 5 1 s l.length (l.map byV) q→∀ y,q=some y→∃ o,h y=some o:=fun g y e=>by
  obtain ⟨_,⟨e2,_⟩ | ⟨bb,_,_,e2,_,_,_,hb⟩⟩:=g
  ·rw [e2] at e;cases e
  ·rw [e2] at e;cases e
   exact ⟨_,hb⟩
 refine ⟨fun y v e=>?_,nn nw hw,ok,rb,b,p,cap,rest,ib,ob,hle _ _ hw,hle _ _ hrb,hcap,hbu.le hle,⟨nn hkn.1 hrb,nn hkn.2.1 hbu.row,nn hkn.2.2 hp⟩,fun y e=>⟨(hib y e).1,?_⟩,fun y e=>⟨(hob y e).1,?_⟩⟩
 ·unfold Hp.set at e
  split at e
  ·rename_i hy;subst hy;cases e;exact hat
  ·exact hle _ _ (lek _ _ e)
 ·obtain ⟨_,hb⟩:=gn gi y e
  exact nn (hib y e).2 hb
 ·obtain ⟨_,hb⟩:=gn go y e
  exact nn (hob y e).2 hb
theorem WoN.wr {k h':Hp} {w y:Nat} {W:Wd} {v v':Obj} (o:WoN k h w W) (hy:k y=some v) (hat:h' y=some v') (hot:∀ c,c≠y→h' c=h c):WoN (k.set y v') h' w W:=by
 obtain ⟨lek,nw,ok,rb,b,p,cap,rest,ib,ob,hw,hrb,hcap,hbu,hkn,hib,hob⟩:=o
 have ne:∀ {x},k x=none→x≠y:=fun {x} e e2=>by subst e2;rw [hy] at e;cases e
 have nn:∀ {x},k x=none→k.set y v' x=none:=fun {x} e=>by rw [Hp.set_other _ _ (ne e)];exact e
 have to:∀ {x q},k x=none→h x=some q→h' x=some q:=fun {x q} e e2=>by rw [hot x (ne e)];exact e2
 obtain ⟨si,so,hp,gi,go⟩:=hbu.port.go
 refine ⟨fun x q e=>?_,nn nw,ok,rb,b,p,cap,rest,ib,ob,to nw hw,to hkn.1 hrb,hcap,⟨to hkn.2.1 hbu.row,⟨si,so,to hkn.2.2 hp,gi.agree fun x e=>hot x (ne (hib x e).2),go.agree fun x e=>hot x (ne (hob x e).2)⟩,hbu.k,hbu.q,hbu.bi,hbu.bo⟩,⟨nn hkn.1,nn hkn.2.1,nn hkn.2.2⟩,fun x e=>⟨(hib x e).1,nn (hib x e).2⟩,fun x e=>⟨(hob x e).1,nn (hob x e).2⟩⟩
 by_cases hx:x=y
 ·subst hx;rw [Hp.set_same] at e;cases e;exact hat
 ·rw [Hp.set_other _ _ hx] at e;rw [hot x hx];exact lek _ _ e
theorem sizAn42:sizeT Tryz.prog 62 = some 42:=by kernel_rfl
theorem memory_x {k:Hp} {w:Nat} {W:Wd} (o:WoN k h w W) (hl:W.ram.length≤2 ^ 30) (i:Int) (a:Ak) (ha:a.ok) (hsz:0≤a.cut∧a.cut<a.size∧a.size≤8) (hkd:a.kind=2∨a.kind=3)
  (hk:∀ h',WoN k h' w (if a.kind=3 then { W with ram:=layR W.ram a a.data,r:=killR i (linesA a) 0 W.r } else W)→K (.agg (An.ofN (if a.kind=3 then 0 else loadN W.ram a) false).cs.toArray) h'):X Tryz.prog 41 #[.pointer (some ⟨w,0,none⟩),.int .i64 i,.agg a.cs.toArray] h K:=by
 have o0:=o
 obtain ⟨lek,nw,ok,rb,b,p,cap,rest,ib,ob,hw,hrb,hcap,hbu,hkn,hib,hob⟩:=o0
 obtain ⟨s1,s2,okb,A,B,hpv,hA,hB,hAB,hld,⟨b1,n1,c1,rfl⟩,⟨b2,n2,c2,rfl⟩⟩:=parts_rd hrb a hsz
 have hdiv:a.addr / 64<18446744073709551616:=Nat.lt_of_le_of_lt (Nat.div_le_self _ _) ha.addr
 refine fnv (args:=_) mixed [] [] [82] Tryz.func41 rfl (by kernel_rfl) (cw_ ?_)
 refine new_intro (o:=rowO 59 a.cs) (fun z h1 n_z le_z at_z ot_z=>cw_ ?_)
 refine new_intro (o:=rowO 62 An.zero.cs) (fun y h2 n_y le_y at_y ot_y=>cw_ ?_)
 have oy:=(o.new n_z le_z at_z).new n_y le_y at_y
 have le2:=Hp.le_trans le_z le_y
 have z2:=le_y _ _ at_z
 have ny:h y=none:=Hp.none_le le_z n_y
 refine ⟨_,loadA0 aggAk sizAk z2 rfl,cw_ ?_⟩
 refine parts_x (le2 _ _ hw) hl (by omega) a ha hsz ?_
 rw [hpv]
 conv=>whnf
 refine number_x _ _ A B (hA.le le2) (hB.le le2) hAB ?_
 rw [← hld]
 conv=>whnf
 refine ⟨_,loadC (i:=1) aggU z2 rfl,cw_ ?_⟩
 rw [show ((a.addr:Int)).tdiv 64=((a.addr / 64:Nat):Int) from rfl]
 refine ov_u64 (by omega) (cw_ ?_)
 refine ⟨_,loadC (i:=0) aggKi z2 rfl,cw_ ?_⟩
 have hlt:=leN_8 (show (A++B).length≤8 by rw [List.length_append];exact hAB)
 rw [← hld] at hlt
 clear hld
 generalize loadN W.ram a=v at hk hlt ⊢
 by_cases e3:a.kind=3
 ·rw [if_pos e3,if_pos e3] at hk
  refine bt_ ?_
  refine ⟨_,loadA0 aggAk sizAk z2 rfl,cw_ ?_⟩
  refine ⟨_,loadC (i:=6) aggU z2 rfl,cw_ ?_⟩
  refine lay_x oy hl i a ha hsz a.data ha.data fun h3 o3=>?_
  have y3:h3 y=some (rowO 62 An.zero.cs):=o3.le _ _ (Hp.set_same _ _ _)
  conv=>whnf
  refine big_by (v:=.agg An.zero.cs.toArray) (by kernel_rfl) (cw_ ?_)
  refine wr_intro (by exact storeA0 (z:=.agg An.zero.cs.toArray) sizAn42 y3 rfl rfl rfl) (fun h4 at_h4 ot_h4=>cw_ ?_)
  refine ⟨_,loadA0 aggAn sizAn at_h4 rfl,cw_ ?_⟩
  exact hk _ ((o3.wr (Hp.set_same _ _ _) at_h4 ot_h4).weak fun x q e=>by
   have hx:x≠y:=fun e2=>by subst e2;rw [Hp.none_le o.le ny] at e;cases e
   have hx2:x≠z:=fun e2=>by subst e2;rw [Hp.none_le o.le n_z] at e;cases e
   rw [Hp.set_other _ _ hx,Hp.set_other _ _ hx,Hp.set_other _ _ hx2];exact e)
 ·rw [if_neg e3,if_neg e3] at hk
  have e2:a.kind=2:=by omega
  refine bf_ ?_
  refine bf_ ?_
  refine bf_ ?_
  refine bf_ ?_
  refine bf_ ?_
  refine big_by (v:=.agg (An.ofN v false).cs.toArray) (by kernel_rfl) (cw_ ?_)
  refine wr_intro (by exact storeA0 (z:=.agg (An.ofN v false).cs.toArray) sizAn42 at_y rfl rfl rfl) (fun h3 at_h3 ot_h3=>cw_ ?_)
  refine ⟨_,loadA0 aggAn sizAn at_h3 rfl,cw_ ?_⟩
  have l3:h.le h3:=Hp.le_st ny le2 ot_h3
  exact hk _ (o.up l3)
end
end Go.Proofs.YtnjlneefddlaoaaGreat
