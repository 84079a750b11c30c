/-
  Worlds: clocks and controllers of interrupts, as data.
-/
import Derived.Test.YtdhlpighdlnohaaGreatHtF
import Derived.Test.YtdhlpighdlnohaaGreatImmP
set_option linter.unusedSimpArgs false
set_option linter.unusedVariables false
set_option maxHeartbeats 8000000
set_option maxRecDepth 10000
set_option linter.unusedSimpArgs false
set_option linter.unusedVariables false
namespace Go.Proofs.YtdhlpighdlnohaaGreat
open Go Go.Mid Go.RowKit Go.Bits
attribute [local irreducible] mid
def zP2 (H:Hd) (c:Nat):List Value:=zP H c++(H.t.wk.cs++[.int .u32 H.t.word])
theorem z_x (H:Hd) (c:Nat) (s:Value):H.z c s=zP2 H c++(H.t.x.cs++(H.t.e.cs++(H.t.ask.cs++(H.t.shot.cs++[s])))):=by
 rw [z_wk];unfold zP2 zW;simp only [List.append_assoc]
theorem z_e (H:Hd) (c:Nat) (s:Value):H.z c s=(zP2 H c++H.t.x.cs)++(H.t.e.cs++(H.t.ask.cs++(H.t.shot.cs++[s]))):=by
 rw [z_x];simp only [List.append_assoc]
theorem z_ask (H:Hd) (c:Nat) (s:Value):H.z c s=(zP2 H c++(H.t.x.cs++H.t.e.cs))++(H.t.ask.cs++(H.t.shot.cs++[s])):=by
 rw [z_x];simp only [List.append_assoc]
theorem z_shot (H:Hd) (c:Nat) (s:Value):H.z c s=(zP2 H c++(H.t.x.cs++(H.t.e.cs++H.t.ask.cs)))++(H.t.shot.cs++[s]):=by
 rw [z_x];simp only [List.append_assoc]
theorem set_x (H:Hd) (c:Nat) (s:Value) (x:Ins):setL (H.z c s) 24 x.cs=({ H with t:={ H.t with x:=x } }:Hd).z c s:=by
 rw [z_x H,z_x { H with t:={ H.t with x:=x } }]
 exact z_set (P:=zP2 H c) (cs:=H.t.x.cs) (y:=x.cs) rfl
theorem set_e (H:Hd) (c:Nat) (s:Value) (x:Ef):setL (H.z c s) 32 x.cs=({ H with t:={ H.t with e:=x } }:Hd).z c s:=by
 rw [z_e H,z_e { H with t:={ H.t with e:=x } }]
 exact z_set (P:=zP2 H c++H.t.x.cs) (cs:=H.t.e.cs) (y:=x.cs) rfl
theorem set_ask (H:Hd) (c:Nat) (s:Value) (x:Ak):setL (H.z c s) 44 x.cs=({ H with t:={ H.t with ask:=x } }:Hd).z c s:=by
 rw [z_ask H,z_ask { H with t:={ H.t with ask:=x } }]
 exact z_set (P:=zP2 H c++(H.t.x.cs++H.t.e.cs)) (cs:=H.t.ask.cs) (y:=x.cs) rfl
theorem set_shot (H:Hd) (c:Nat) (s:Value) (x:Sho):setL (H.z c s) 63 x.cs=({ H with t:={ H.t with shot:=x } }:Hd).z c s:=by
 rw [z_shot H,z_shot { H with t:={ H.t with shot:=x } }]
 exact z_set (P:=zP2 H c++(H.t.x.cs++(H.t.e.cs++H.t.ask.cs))) (cs:=H.t.shot.cs) (y:=x.cs) rfl
theorem frame_lt (p:Nat) (l:Int) (va:Nat):frameN p l va<2 ^ 64:=by
 unfold frameN
 have:=ppn_lt p
 split
 ·rename_i hl
  have hc:l=0∨l=1∨l=2:=by omega
  rcases hc with rfl | rfl | rfl
  ·show ppnN p*2 ^ 12 / 2 ^ 12*2 ^ 12+va % 2 ^ 12<2 ^ 64;omega
  ·show ppnN p*2 ^ 12 / 2 ^ 21*2 ^ 21+va % 2 ^ 21<2 ^ 64;omega
  ·show ppnN p*2 ^ 12 / 2 ^ 30*2 ^ 30+va % 2 ^ 30<2 ^ 64;omega
 ·decide
theorem walked_lt {H:Hd} {p:Nat} (e:(H.walked tbT).2=some p):p<2 ^ 64:=by
 unfold Hd.walked at e
 split at e
 ·cases e
 ·split at e
  ·cases e
  ·split at e
   ·cases e
   ·cases e;exact frame_lt _ _ _
theorem translate_lt {H:Hd} {va:Nat} {a q:Int} {p:Nat} (hv:va<2 ^ 64) (e:(H.translate tbT va a q).2=some p):p<2 ^ 64:=by
 unfold Hd.translate at e
 split at e
 ·cases e;exact hv
 ·split at e
  ·split at e
   ·cases e;exact frame_lt _ _ _
   ·cases e
  ·cases e
theorem translate_told (H:Hd) (va:Nat) (a q:Int):(H.translate tbT va a q).1.told.length≤H.told.length+1:=by
 unfold Hd.translate
 split
 ·exact Nat.le_succ _
 ·split
  ·split
   ·show (H.told++[_]).length≤_;rw [List.length_append];exact Nat.le_refl _
   ·exact Nat.le_succ _
  ·exact Nat.le_succ _
theorem translate_none {H:Hd} {va:Nat} {a q:Int} (e:(H.translate tbT va a q).2=none):(H.translate tbT va a q).1=H.beginW va a q:=by
 unfold Hd.translate at *
 split
 ·rename_i h1;rw [if_pos h1] at e;cases e
 ·rename_i h1
  rw [if_neg h1] at e
  split
  ·rename_i x hx
   simp only [hx] at e
   split at e
   ·cases e
   ·rename_i h2;rw [if_neg h2]
  ·rfl
theorem walked_told (H:Hd):(H.walked tbT).1.told.length≤H.told.length+2:=by
 unfold Hd.walked
 split
 ·exact Nat.le_add_right _ _
 ·split
  ·exact Nat.le_add_right _ _
  ·split
   ·exact Nat.le_add_right _ _
   ·show ((H.told++[_])++[_]).length≤_;rw [List.length_append,List.length_append];exact Nat.le_refl _
section
variable {k h:Hp} {K:Value→Hp→Prop} {b:Nat} {H:Hd}
theorem sizIns:sizeT Tryz.prog 128 = some 8:=by kernel_rfl
theorem aggIns:isAggT Tryz.prog 128 = some true:=by kernel_rfl
theorem sizEf:sizeT Tryz.prog 132 = some 12:=by kernel_rfl
theorem sizSho:sizeT Tryz.prog 134 = some 7:=by kernel_rfl
theorem aggSho:isAggT Tryz.prog 134 = some true:=by kernel_rfl
section
variable {A:List Value} {c:Nat} {s:Value} {a:Addr}
theorem st_x (x:Ins) (p:Pa h b 62 harT A (H.z c s) []) (ha:a=⟨b,62+24,none⟩:=by first | rfl | (simp [addr_add];done)):storeH Tryz.prog 128 h a (.agg x.cs.toArray)=some (b,rowO harT (A++(({ H with t:={ H.t with x:=x } }:Hd).z c s++[]))) :=
 p.stA 24 sizIns (by show 24+8≤71;decide) (by rw [ag_cells];exact set_x H c s x) (by rw [ag_cells];rfl) (by rw [ag_cells];rfl) ha
theorem st_e (x:Ef) (p:Pa h b 62 harT A (H.z c s) []) (ha:a=⟨b,62+32,none⟩:=by first | rfl | (simp [addr_add];done)):storeH Tryz.prog 132 h a (.agg x.cs.toArray)=some (b,rowO harT (A++(({ H with t:={ H.t with e:=x } }:Hd).z c s++[]))) :=
 p.stA 32 sizEf (by show 32+12≤71;decide) (by rw [ag_cells];exact set_e H c s x) (by rw [ag_cells];rfl) (by rw [ag_cells];rfl) ha
theorem st_ask (x:Ak) (p:Pa h b 62 harT A (H.z c s) []) (ha:a=⟨b,62+44,none⟩:=by first | rfl | (simp [addr_add];done)):storeH Tryz.prog akT h a (.agg x.cs.toArray)=some (b,rowO harT (A++(({ H with t:={ H.t with ask:=x } }:Hd).z c s++[]))) :=
 p.stA 44 sizAk (by show 44+19≤71;decide) (by rw [ag_cells];exact set_ask H c s x) (by rw [ag_cells];rfl) (by rw [ag_cells];rfl) ha
theorem st_shot (x:Sho) (p:Pa h b 62 harT A (H.z c s) []) (ha:a=⟨b,62+63,none⟩:=by first | rfl | (simp [addr_add];done)):storeH Tryz.prog 134 h a (.agg x.cs.toArray)=some (b,rowO harT (A++(({ H with t:={ H.t with shot:=x } }:Hd).z c s++[]))) :=
 p.stA 63 sizSho (by show 63+7≤71;decide) (by rw [ag_cells];exact set_shot H c s x) (by rw [ag_cells];rfl) (by rw [ag_cells];rfl) ha
end
theorem HaN.turn1 {h1:Hp} {c:Nat} {s:Value} {H':Hd} (up:∀ h' H',HaR h' b H' c s→(∀ d x,d≠b→h d=some x→h' d=some x)→H'.inv→H'.L=H.L→H'.told=H.told→H'.c=H.c→HaN k h' b H') (ha:H'.a=H.a) (hl:H.a.length=62) (at_:h1 b=some (rowO harT (H.a++(H'.z c s++[])))) (ot:∀ d,d≠b→h1 d=h d) (i:H'.inv) (e1:H'.L=H.L) (e2:H'.told=H.told) (e3:H'.c=H.c):HaN k h1 b H' :=
 up h1 H' (HaR.ofZ (H:=H) ha ⟨at_,hl⟩) (fun d x hd e=>by rw [ot d hd];exact e) i e1 e2 e3
theorem hfetchAt_x (n:HaN k h b H) (pa:Nat) (hp:pa<2 ^ 64) (hk:∀ h',HaN k h' b (H.fetchAt pa)→K (.tuple #[]) h'):X Tryz.prog 98 #[.pointer (some ⟨b,0,none⟩),ux pa] h K:=by
 obtain ⟨c,s,r,ht,up⟩:=n.row
 have i:=n.inv
 have o:=i.ok
 unfold Hd.fetchAt at hk
 obtain ⟨m,hm⟩:∃ m,memB H.c.lines pa 4=m:=⟨_,rfl⟩
 rw [hm] at hk
 cases m with
 | false =>
  refine fnv (args:=_) mixed [] [163] [] Tryz.func98 rfl (by kernel_rfl) (cw_ ?_)
  refine hmemory_x n pa 4 hp (by decide) ?_
  rw [hm]
  conv=>whnf
  refine ⟨_,cfault_x 0 (.inl rfl) ⟨rfl,rfl⟩,cw_ ?_⟩
  refine ⟨_,(r.z o.len).ld 0 aggU rfl,cw_ ?_⟩
  refine htrap_x n ⟨false,1⟩ H.pc o.pc fun h1 n1=>?_
  refine ⟨trivial,cw_ ?_⟩
  exact hk h1 n1
 | true =>
  refine fnv (args:=_) mixed [] [163] [] Tryz.func98 rfl (by kernel_rfl) (cw_ ?_)
  refine hmemory_x n pa 4 hp (by decide) ?_
  rw [hm]
  conv=>whnf
  refine wr_intro (by exact (r.z o.len).st 7 sizWhr (by show 7<71;decide) rfl rfl) (fun h1 at_h1 ot_h1=>cw_ ?_)
  have r1:HaR h1 b { H with t:={ H.t with at_:=3 } } c s:=HaR.ofZ (H:=H) rfl ⟨at_h1,o.len⟩
  refine big_by (v:=.agg (Ak.cs { Ak.zero with kind:=1,addr:=pa,size:=4 }).toArray) (by kernel_rfl) (cw_ ?_)
  refine wr_intro (by exact st_ask { Ak.zero with kind:=1,addr:=pa,size:=4 } (r1.z o.len)) (fun h2 at_h2 ot_h2=>cw_ ?_)
  exact hk h2 (HaN.turn1 up rfl o.len at_h2 (fun d hd=>by rw [ot_h2 d hd,ot_h1 d hd]) { i with ok:=⟨o.r,o.rw,o.f,o.pc⟩,addr:=hp,next:=by show (0:Nat)<2 ^ 64;decide,cut:=by show (0:Int)≤0∧(0:Int)≤4;decide,size:=by show (0:Int)≤4∧(4:Int)≤8;decide } rfl rfl rfl)
theorem hfetchWalked_x (n:HaN k h b H) (hl:H.told.length+1≤2 ^ 20) (hk:∀ h',HaN k h' b (H.fetchWalked tbT)→K (.tuple #[]) h'):X Tryz.prog 53 #[.pointer (some ⟨b,0,none⟩)] h K:=by
 unfold Hd.fetchWalked at hk
 obtain ⟨H1,m,hm⟩:∃ H1 m,H.walked tbT=(H1,m):=⟨_,_,rfl⟩
 have hpa:∀ p,m=some p→p<2 ^ 64:=fun p e=>walked_lt (H:=H) (by rw [hm];exact e)
 rw [hm] at hk
 refine fnv (args:=_) mixed [] [] [] Tryz.func53 rfl (by kernel_rfl) (cw_ ?_)
 refine hwalked_x n hl ?_
 rw [hm]
 intro h1 n1
 cases m with
 | none =>
  conv=>whnf
  exact hk h1 n1
 | some p =>
  conv=>whnf
  refine hfetchAt_x n1 p (hpa p rfl) fun h2 n2=>(cw_ ?_)
  exact hk h2 n2
theorem Hd.inv.at {H:Hd} (i:H.inv) (a:Int):({ H with t:={ H.t with at_:=a } }:Hd).inv:={ i with ok:=⟨i.ok.r,i.ok.rw,i.ok.f,i.ok.pc⟩ }
theorem hfetch_x (n:HaN k h b H) (hl:H.told.length+1≤2 ^ 20) (hk:∀ h',HaN k h' b (H.fetch tbT)→K (.tuple #[]) h'):X Tryz.prog 93 #[.pointer (some ⟨b,0,none⟩)] h K:=by
 obtain ⟨c,s,r,ht,up⟩:=n.row
 have i:=n.inv
 have o:=i.ok
 unfold Hd.fetch at hk
 obtain ⟨H1,m,hm⟩:∃ H1 m,H.translate tbT H.pc 0 H.priv=(H1,m):=⟨_,_,rfl⟩
 have hpa:∀ p,m=some p→p<2 ^ 64:=fun p e=>translate_lt (H:=H) o.pc (by rw [hm];exact e)
 have hno:m=none→H1=H.beginW H.pc 0 H.priv:=fun e=>by have:=translate_none (H:=H) (va:=H.pc) (a:=0) (q:=H.priv) (by rw [hm];exact e);rw [hm] at this;exact this
 rw [hm] at hk
 refine fnv (args:=_) mixed [] [] [] Tryz.func93 rfl (by kernel_rfl) (cw_ ?_)
 refine ⟨_,(r.z o.len).ld 0 aggU rfl,cw_ ?_⟩
 refine ⟨_,(r.z o.len).ld 1 aggPv rfl,cw_ ?_⟩
 refine htranslate_x n H.pc 0 H.priv (by omega) o.pc (.inl rfl) ?_
 rw [hm]
 intro h1 n1
 cases m with
 | some p =>
  refine ⟨trivial,cw_ ?_⟩
  refine hfetchAt_x n1 p (hpa p rfl) fun h2 n2=>(cw_ ?_)
  exact hk h2 n2
 | none =>
  refine ⟨trivial,cw_ ?_⟩
  obtain ⟨c1,s1,r1,ht1,up1⟩:=n1.row
  have o1:=n1.inv.ok
  refine wr_intro (by exact (r1.z o1.len).st 7 sizWhr (by show 7<71;decide) rfl rfl) (fun h2 at_h2 ot_h2=>cw_ ?_)
  have n2:HaN k h2 b { H1 with t:={ H1.t with at_:=2 } }:=HaN.turn1 up1 rfl o1.len at_h2 ot_h2 (n1.inv.at 2) rfl rfl rfl
  refine hfetchWalked_x n2 (by rw [hno rfl];exact hl) fun h3 n3=>(cw_ ?_)
  exact hk h3 n3
end
end Go.Proofs.YtdhlpighdlnohaaGreat
namespace Go.Proofs.YtdhlpighdlnohaaGreat
open Go Go.Mid Go.RowKit
attribute [local irreducible] mid
structure Ck where
 harts:Int
 time:Nat
 cmp:List Nat
 soft:List Bool
def cl64 (n:Nat):Value:=.int .u64 n
def cl32 (n:Nat):Value:=.int .u32 n
def cl8 (n:Nat):Value:=.int .u8 n
def clB (b:Bool):Value:=.bool b
def Ck.cs (c:Ck):List Value:=[.int .i64 c.harts,cl64 c.time]++(c.cmp.map cl64++c.soft.map clB)
structure Pl where
 harts:Int
 prio:List Nat
 wires:Nat
 waits:Nat
 served:Nat
 enable:List Nat
 level:List Nat
def Pl.cs (p:Pl):List Value:=[.int .i64 p.harts]++(p.prio.map cl8++([cl32 p.wires,cl32 p.waits,cl32 p.served]++(p.enable.map cl32++p.level.map cl8)))
def Ck.new (n:Nat):Ck:=⟨n,0,List.replicate n (2 ^ 64 - 1)++List.replicate (8 - n) 0,List.replicate 8 false⟩
def Pl.new (n:Int):Pl:=⟨n,List.replicate 32 0,0,0,0,List.replicate 16 0,List.replicate 16 0⟩
structure Ck.ok (k:Ck):Prop where
 cmp:k.cmp.length=8
 soft:k.soft.length=8
structure Pl.ok (q:Pl):Prop where
 prio:q.prio.length=32
 enable:q.enable.length=16
 level:q.level.length=16
theorem Ck.ok.len {k:Ck} (o:k.ok):k.cs.length=18:=by simp [Ck.cs,o.cmp,o.soft]
theorem Pl.ok.len {q:Pl} (o:q.ok):q.cs.length=68:=by simp [Pl.cs,o.prio,o.enable,o.level]
section
variable {h:Hp} {K:Value→Hp→Prop}
theorem aggPlc:isAggT Tryz.prog 462 = some true:=by kernel_rfl
theorem sizPlc:sizeT Tryz.prog 462 = some 68:=by kernel_rfl
theorem plNew_len (n:Int):(Pl.new n).cs.length=68:=by kernel_rfl
theorem plNew_one (n:Int):(Pl.new n).cs.all Value.oneCell'=true:=by kernel_rfl
theorem plicNew_x (n:Int) (h1:1≤n) (h2:n≤8) (hk:K (.agg (Pl.new n).cs.toArray) h):X Tryz.prog 406 #[.int .i64 n] h K:=by
 refine X.forget ?_
 refine fnv (args:=_) mixed [] [] [] Tryz.func406 rfl (by kernel_rfl) (cw_ ?_)
 refine new_intro (o:=_) (fun z h1 n_z le_z at_z ot_z=>cw_ ?_)
 refine bf_ ?_
 refine bf_ ?_
 refine big_by (v:=.agg (Pl.new n).cs.toArray) (by kernel_rfl) (cw_ ?_)
 refine wr_intro (by exact storeA0 (z:=.agg (Pl.new n).cs.toArray) sizPlc at_z rfl (plNew_len n) (plNew_one n)) (fun h2 at_h2 ot_h2=>cw_ ?_)
 refine ⟨_,loadA0 aggPlc sizPlc at_h2 (plNew_len n),cw_ ?_⟩
 exact ⟨h,Hp.le_st n_z le_z ot_h2,hk⟩
theorem aggCkc:isAggT Tryz.prog 452 = some true:=by kernel_rfl
theorem sizCkc:sizeT Tryz.prog 452 = some 18:=by kernel_rfl
theorem sz64W:Tryz.prog.types[25].size=1:=by kernel_rfl
theorem siz64W:sizeT Tryz.prog 25 = some 1:=by kernel_rfl
abbrev ckC (n i:Nat):Ck:=⟨n,0,List.replicate i (2 ^ 64 - 1)++List.replicate (8 - i) 0,List.replicate 8 false⟩
theorem ckC_len (n i:Nat) (h:i≤8):(ckC n i).cs.length=18:=by simp [Ck.cs];omega
theorem ckC_one (n:Nat):∀ i:Nat,i≤8→(ckC n i).cs.all Value.oneCell'=true
 | 0,_ | 1,_ | 2,_ | 3,_ | 4,_ | 5,_ | 6,_ | 7,_ | 8,_=>rfl
 | _+9,h=>absurd h (by omega)
theorem ckC_set (n:Nat):∀ i:Nat,i<8→(ckC n i).cs.set (2+i) (.int .u64 18446744073709551615)=(ckC n (i+1)).cs
 | 0,_ | 1,_ | 2,_ | 3,_ | 4,_ | 5,_ | 6,_ | 7,_=>rfl
 | _+8,h=>absurd h (by omega)
theorem clintNew_x (n:Nat) (h1:1≤n) (h2:n≤8) (hk:K (.agg (Ck.new n).cs.toArray) h):X Tryz.prog 404 #[.int .i64 n] h K:=by
 refine X.forget ?_
 refine fnv (args:=_) mixed [] [] [] Tryz.func404 rfl (by kernel_rfl) (cw_ ?_)
 refine new_intro (o:=_) (fun z h1 n_z le_z at_z ot_z=>cw_ ?_)
 refine bf_ ?_
 refine bf_ ?_
 refine big_by (v:=.agg (Ck.mk n 0 (List.replicate 8 0) (List.replicate 8 false)).cs.toArray) (by kernel_rfl) (cw_ ?_)
 refine new_intro (o:=_) (fun c h2 n_c le_c at_c ot_c=>cw_ ?_)
 refine wr_intro (by exact storeA0 (z:=.agg (Ck.mk n 0 (List.replicate 8 0) (List.replicate 8 false)).cs.toArray) sizCkc at_c rfl rfl rfl) (fun h3 at_h3 ot_h3=>cw_ ?_)
 have e3:h3 c=some (rowO 452 (Ck.mk n 0 (List.replicate 0 (2 ^ 64 - 1)++List.replicate (8 - 0) 0) (List.replicate 8 false)).cs):=at_h3
 have o3:∀ d,d≠c→h3 d=h1 d∨h1 d=none:=fun d hd=>(by
  rw [ot_h3 d hd]
  cases hh:h1 d with
  | none=>exact .inr rfl
  | some o=>exact .inl (le_c _ _ hh))
 have l3:h1.le h3:=Hp.le_st n_c le_c ot_h3
 have oz3:h3 z=h1 z:=by rw [l3 _ _ at_z,at_z]
 refine loop_at [15] [] (fun r vs _ h'=>∃ i:Nat,i≤n∧r=n - i∧vs=[.v (.int .i64 i)]∧h' c=some (rowO 452 (Ck.mk n 0 (List.replicate i (2 ^ 64 - 1)++List.replicate (8 - i) 0) (List.replicate 8 false)).cs)∧∀ d,d≠c→h' d=h3 d) n ⟨0,by omega,by omega,rfl,e3,fun _ _=>rfl⟩ ?_
 rintro r vs cs mm bx h4 ⟨i,hi,rfl,rfl,e4,o4⟩
 conv=>whnf
 refine br_ (fun q1=>?_) fun q1=>?_
 ·conv=>whnf
  refine n_ ?_
  refine wr_intro (by exact storeCA (k:=2+i) (by simp [addr_add,sz64W]) siz64W e4 (by rw [ckC_len _ _ (by omega)];omega) (ckC_set n i (by omega)) rfl rfl) (fun h5 at_h5 ot_h5=>cw_ ?_)
  refine n_ ?_
  exact ⟨n - (i+1),by omega,i+1,by omega,rfl,rfl,at_h5,fun d hd=>(ot_h5 d hd).trans (o4 d hd)⟩
 ·obtain rfl:i=n:=by omega
  have lz:h.le h4:=fun d o hd=>by
   rw [o4 d (Hp.ne n_c (le_z _ _ hd))];exact l3 _ _ (le_z _ _ hd)
  have zc:z≠c:=Hp.ne n_c at_z
  conv=>whnf
  refine ⟨_,loadA0 aggCkc sizCkc e4 (ckC_len i i h2),cw_ ?_⟩
  refine wr_intro (by exact storeA0 (z:=.agg (Ck.new i).cs.toArray) sizCkc ((o4 z zc).trans (oz3.trans at_z)) rfl (ckC_len i i h2) (ckC_one i i h2)) (fun h5 at_h5 ot_h5=>cw_ ?_)
  refine ⟨_,loadA0 aggCkc sizCkc at_h5 (ckC_len i i h2),cw_ ?_⟩
  exact ⟨h,fun d o hd=>by rw [ot_h5 d (Hp.ne n_z hd)];exact lz _ _ hd,hk⟩
end
end Go.Proofs.YtdhlpighdlnohaaGreat
