/-
  Worlds: what they are made of, as data.
-/
import Derived.Test.YtnjlneefddlaoaaGreatEvD
import Derived.Test.YtnjlneefddlaoaaGreatMidM
set_option linter.unusedSimpArgs false
set_option linter.unusedVariables false
set_option maxHeartbeats 8000000
set_option maxRecDepth 10000
set_option linter.unusedSimpArgs false
set_option linter.unusedVariables false
namespace Go.Proofs.YtnjlneefddlaoaaGreat
open Go Go.Mid Go.RowKit
attribute [local irreducible] mid
structure Cn where
 harts:Int
 stripes:Int
 lines:Int
 tlb:Int
def Cn.cs (c:Cn):List Value:=[.int .i64 c.harts,.int .i64 c.stripes,.int .i64 c.lines,.int .i64 c.tlb]
def wrightB (c:Cn):Bool:=decide (1≤c.harts∧c.harts≤8) && decide (1≤c.stripes∧c.stripes≤64) && decide (1≤c.lines∧c.lines≤4096) && decide (1≤c.tlb∧c.tlb≤32)
structure Ck where
 harts:Int
 time:Nat
 cmp:List Nat
 soft:List Bool
def cl64 (n:Nat):Value:=.int .u64 n
def cl32 (n:Nat):Value:=.int .u32 n
def cl8 (n:Nat):Value:=.int .u8 n
def clB (b:Bool):Value:=.bool b
def Ck.cs (c:Ck):List Value:=[.int .i64 c.harts,cl64 c.time]++(c.cmp.map cl64++c.soft.map clB)
structure Pl where
 harts:Int
 prio:List Nat
 wires:Nat
 waits:Nat
 served:Nat
 enable:List Nat
 level:List Nat
def Pl.cs (p:Pl):List Value:=[.int .i64 p.harts]++(p.prio.map cl8++([cl32 p.wires,cl32 p.waits,cl32 p.served]++(p.enable.map cl32++p.level.map cl8)))
structure Ua where
 ier:Nat
 lcr:Nat
 mcr:Nat
 scr:Nat
 dll:Nat
 dlm:Nat
 fifo:Bool
 lost:Bool
 empty:Bool
def Ua.cs (p:Ua) (i o:Value):List Value:=[cl8 p.ier,cl8 p.lcr,cl8 p.mcr,cl8 p.scr,cl8 p.dll,cl8 p.dlm,clB p.fifo,clB p.lost,clB p.empty,i,o]
structure Ml where
 harts:Int
 box:List Rq
def Ml.cs (m:Ml):List Value:=[.int .i64 m.harts]++m.box.flatMap Rq.cs
def Ck.new (n:Nat):Ck:=⟨n,0,List.replicate n (2 ^ 64 - 1)++List.replicate (8 - n) 0,List.replicate 8 false⟩
def Pl.new (n:Int):Pl:=⟨n,List.replicate 32 0,0,0,0,List.replicate 16 0,List.replicate 16 0⟩
def Ua.new:Ua:=⟨0,0,0,0,0,0,false,false,false⟩
def Ml.new (n:Int):Ml:=⟨n,List.replicate 64 Rq.zero⟩
abbrev busT:TypeId := 103
abbrev worT:TypeId := 83
def busC (p:Nat) (n:Int) (c:Ck) (q:Pl):List Value:=[.pointer (some ⟨p,0,none⟩),.int .i64 n]++(c.cs++q.cs)
def rvC (r:List (Bool×Nat)):List Value:=r.flatMap fun x=>[clB x.1,cl64 x.2]
def worC (c:Cn) (ram:Value) (r:List (Bool×Nat)) (b:Nat) (m:Ml):List Value:=c.cs++([ram]++(rvC r++([.pointer (some ⟨b,0,none⟩)]++m.cs)))
structure Ck.ok (k:Ck):Prop where
 cmp:k.cmp.length=8
 soft:k.soft.length=8
structure Pl.ok (q:Pl):Prop where
 prio:q.prio.length=32
 enable:q.enable.length=16
 level:q.level.length=16
theorem Ck.ok.len {k:Ck} (o:k.ok):k.cs.length=18:=by simp [Ck.cs,o.cmp,o.soft]
theorem Pl.ok.len {q:Pl} (o:q.ok):q.cs.length=68:=by simp [Pl.cs,o.prio,o.enable,o.level]
structure PoO (h:Hp) (p:Nat) (u:Ua) (bi bo:Str) (ib ob:Option Nat):Prop where
 go:∃ si so,h p=some (rowO 110 (u.cs si so))∧Gr h 5 1 si bi.length (bi.map byV) ib∧Gr h 5 1 so bo.length (bo.map byV) ob
structure BuO (h:Hp) (b p:Nat) (n:Int) (k:Ck) (q:Pl) (u:Ua) (bi bo:Str) (ib ob:Option Nat):Prop where
 row:h b=some (rowO busT (busC p n k q))
 port:PoO h p u bi bo ib ob
 k:k.ok
 q:q.ok
 bi:bi.length≤2 ^ 30
 bo:bo.length≤2 ^ 30
theorem PoO.le {h h':Hp} {p:Nat} {u:Ua} {bi bo:Str} {ib ob:Option Nat} (o:PoO h p u bi bo ib ob) (hle:h.le h'):PoO h' p u bi bo ib ob:=by
 obtain ⟨si,so,e,g1,g2⟩:=o.go
 exact ⟨si,so,hle _ _ e,g1.le hle,g2.le hle⟩
def Ml.ok (m:Ml):Prop:=m.box.length=64∧∀ q ∈ m.box,q.ok
theorem Ml.ok.len {m:Ml} (o:m.ok):m.cs.length=321:=by
 have:(m.box.flatMap Rq.cs).length=m.box.length*5:=by
  induction m.box with
  | nil=>rfl
  | cons a r ih=>rw [List.flatMap_cons,List.length_append,ih];simp only [List.length_cons,List.length_nil];omega
 simp [Ml.cs,this,o.1]
structure Wd where
 c:Cn
 ram:Str
 r:List (Bool×Nat)
 m:Ml
 k:Ck
 q:Pl
 u:Ua
 bi:Str
 bo:Str
def rv0:List (Bool×Nat):=List.replicate 8 (false,0)
def Wd.new (c:Cn):Wd:=⟨c,List.replicate (64*c.lines.toNat) 0,rv0,Ml.new c.harts,Ck.new c.harts.toNat,Pl.new c.harts,Ua.new,[],[]⟩
structure Wd.ok (W:Wd):Prop where
 c:wrightB W.c=true
 ram:(W.ram.length:Int)=64*W.c.lines
 r:W.r.length=8
 m:W.m.ok
structure WoN (k h:Hp) (w:Nat) (W:Wd):Prop where
 le:k.le h
 nw:k w=none
 ok:W.ok
 go:∃ (rb b p cap:Nat) (rest:List Value) (ib ob:Option Nat),h w=some (rowO worT (worC W.c (.slice (some ⟨rb,0,none⟩) W.ram.length cap) W.r b W.m))∧h rb=some (rowO 5 (W.ram.map byV++rest))∧W.ram.length+rest.length=cap∧BuO h b p W.c.harts W.k W.q W.u W.bi W.bo ib ob∧(k rb=none∧k b=none∧k p=none)∧(∀ x,ib=some x→x≠rb∧k x=none)∧∀ x,ob=some x→x≠rb∧k x=none
section
variable {h:Hp} {K:Value→Hp→Prop}
theorem aggCn:isAggT Tryz.prog 49 = some true:=by kernel_rfl
theorem sizCn:sizeT Tryz.prog 49 = some 4:=by kernel_rfl
theorem wwithin_x (n m:Int) (hk:K (.bool (decide (1≤n∧n≤m))) h):X Tryz.prog 33 #[.int .i64 n,.int .i64 m] h K:=by
 refine fnv (args:=_) mixed [] [] [] Tryz.func33 rfl (by kernel_rfl) (cw_ ?_)
 refine br_ (fun q1=>?_) fun q1=>?_
 ·conv=>whnf
  exact kq hk (bI (by rw [Bool.eq_iff_iff];simp;omega))
 ·conv=>whnf
  exact kq hk (bI (by rw [Bool.eq_iff_iff];simp;omega))
theorem wright_x (c:Cn) (hk:K (.bool (wrightB c)) h):X Tryz.prog 25 #[.agg c.cs.toArray] h K:=by
 obtain ⟨a,b,d,e⟩:=c
 unfold wrightB at hk
 refine fnv (args:=_) mixed [(1,1),(3,1),(7,1),(12,1),(17,1)] [] [] Tryz.func25 rfl (by kernel_rfl) (cw_ ?_)
 refine wwithin_x a 8 (cw_ ?_)
 cases h1:decide (1≤a∧a≤8) with
 | false=>rw [h1] at hk;exact hk
 | true =>
  rw [h1] at hk
  conv=>whnf
  refine wwithin_x b 64 (cw_ ?_)
  cases h2:decide (1≤b∧b≤64) with
  | false=>rw [h2] at hk;exact hk
  | true =>
   rw [h2] at hk
   conv=>whnf
   refine wwithin_x d 4096 (cw_ ?_)
   cases h3:decide (1≤d∧d≤4096) with
   | false=>rw [h3] at hk;exact hk
   | true =>
    rw [h3] at hk
    conv=>whnf
    refine wwithin_x e 32 (cw_ ?_)
    exact hk
theorem uartNew_x (hk:∀ p h',h p=none→h.le h'→h' p=some (rowO 110 (Ua.new.cs (.slice none 0 0) (.slice none 0 0)))→K (.pointer (some ⟨p,0,none⟩)) h'):X Tryz.prog 34 #[] h K:=by
 refine fnv (args:=_) mixed [] [] [] Tryz.func34 rfl (by kernel_rfl) (cw_ ?_)
 refine new_intro (o:=_) (fun p h1 n_p le_p at_p ot_p=>cw_ ?_)
 exact hk p h1 n_p le_p at_p
theorem aggPlc:isAggT Tryz.prog 100 = some true:=by kernel_rfl
theorem sizPlc:sizeT Tryz.prog 100 = some 68:=by kernel_rfl
theorem plNew_len (n:Int):(Pl.new n).cs.length=68:=by kernel_rfl
theorem plNew_one (n:Int):(Pl.new n).cs.all Value.oneCell'=true:=by kernel_rfl
theorem plicNew_x (n:Int) (h1:1≤n) (h2:n≤8) (hk:K (.agg (Pl.new n).cs.toArray) h):X Tryz.prog 36 #[.int .i64 n] h K:=by
 refine X.forget ?_
 refine fnv (args:=_) mixed [] [] [] Tryz.func36 rfl (by kernel_rfl) (cw_ ?_)
 refine new_intro (o:=_) (fun z h1 n_z le_z at_z ot_z=>cw_ ?_)
 refine bf_ ?_
 refine bf_ ?_
 refine big_by (v:=.agg (Pl.new n).cs.toArray) (by kernel_rfl) (cw_ ?_)
 refine wr_intro (by exact storeA0 (z:=.agg (Pl.new n).cs.toArray) sizPlc at_z rfl (plNew_len n) (plNew_one n)) (fun h2 at_h2 ot_h2=>cw_ ?_)
 refine ⟨_,loadA0 aggPlc sizPlc at_h2 (plNew_len n),cw_ ?_⟩
 exact ⟨h,Hp.le_st n_z le_z ot_h2,hk⟩
theorem aggMlb:isAggT Tryz.prog 77 = some true:=by kernel_rfl
theorem sizMlb:sizeT Tryz.prog 77 = some 321:=by kernel_rfl
theorem mlNew_len (n:Int):(Ml.new n).cs.length=321:=by kernel_rfl
theorem mlNew_one (n:Int):(Ml.new n).cs.all Value.oneCell'=true:=by kernel_rfl
theorem mailNew_x (n:Int) (h1:1≤n) (h2:n≤8) (hk:K (.agg (Ml.new n).cs.toArray) h):X Tryz.prog 27 #[.int .i64 n] h K:=by
 refine X.forget ?_
 refine fnv (args:=_) mixed [] [] [] Tryz.func27 rfl (by kernel_rfl) (cw_ ?_)
 refine new_intro (o:=_) (fun z h1 n_z le_z at_z ot_z=>cw_ ?_)
 refine bf_ ?_
 refine bf_ ?_
 refine big_by (v:=.agg (Ml.new n).cs.toArray) (by kernel_rfl) (cw_ ?_)
 refine wr_intro (by exact storeA0 (z:=.agg (Ml.new n).cs.toArray) sizMlb at_z rfl (mlNew_len n) (mlNew_one n)) (fun h2 at_h2 ot_h2=>cw_ ?_)
 refine ⟨_,loadA0 aggMlb sizMlb at_h2 (mlNew_len n),cw_ ?_⟩
 exact ⟨h,Hp.le_st n_z le_z ot_h2,hk⟩
theorem aggCkc:isAggT Tryz.prog 93 = some true:=by kernel_rfl
theorem sizCkc:sizeT Tryz.prog 93 = some 18:=by kernel_rfl
theorem sz64W:Tryz.prog.types[52].size=1:=by kernel_rfl
theorem siz64W:sizeT Tryz.prog 52 = some 1:=by kernel_rfl
abbrev ckC (n i:Nat):Ck:=⟨n,0,List.replicate i (2 ^ 64 - 1)++List.replicate (8 - i) 0,List.replicate 8 false⟩
theorem ckC_len (n i:Nat) (h:i≤8):(ckC n i).cs.length=18:=by simp [Ck.cs];omega
theorem ckC_one (n:Nat):∀ i:Nat,i≤8→(ckC n i).cs.all Value.oneCell'=true
 | 0,_ | 1,_ | 2,_ | 3,_ | 4,_ | 5,_ | 6,_ | 7,_ | 8,_=>rfl
 | _+9,h=>absurd h (by omega)
theorem ckC_set (n:Nat):∀ i:Nat,i<8→(ckC n i).cs.set (2+i) (.int .u64 18446744073709551615)=(ckC n (i+1)).cs
 | 0,_ | 1,_ | 2,_ | 3,_ | 4,_ | 5,_ | 6,_ | 7,_=>rfl
 | _+8,h=>absurd h (by omega)
theorem clintNew_x (n:Nat) (h1:1≤n) (h2:n≤8) (hk:K (.agg (Ck.new n).cs.toArray) h):X Tryz.prog 35 #[.int .i64 n] h K:=by
 refine X.forget ?_
 refine fnv (args:=_) mixed [] [] [] Tryz.func35 rfl (by kernel_rfl) (cw_ ?_)
 refine new_intro (o:=_) (fun z h1 n_z le_z at_z ot_z=>cw_ ?_)
 refine bf_ ?_
 refine bf_ ?_
 refine big_by (v:=.agg (Ck.mk n 0 (List.replicate 8 0) (List.replicate 8 false)).cs.toArray) (by kernel_rfl) (cw_ ?_)
 refine new_intro (o:=_) (fun c h2 n_c le_c at_c ot_c=>cw_ ?_)
 refine wr_intro (by exact storeA0 (z:=.agg (Ck.mk n 0 (List.replicate 8 0) (List.replicate 8 false)).cs.toArray) sizCkc at_c rfl rfl rfl) (fun h3 at_h3 ot_h3=>cw_ ?_)
 have e3:h3 c=some (rowO 93 (Ck.mk n 0 (List.replicate 0 (2 ^ 64 - 1)++List.replicate (8 - 0) 0) (List.replicate 8 false)).cs):=at_h3
 have o3:∀ d,d≠c→h3 d=h1 d∨h1 d=none:=fun d hd=>(by
  rw [ot_h3 d hd]
  cases hh:h1 d with
  | none=>exact .inr rfl
  | some o=>exact .inl (le_c _ _ hh))
 have l3:h1.le h3:=Hp.le_st n_c le_c ot_h3
 have oz3:h3 z=h1 z:=by rw [l3 _ _ at_z,at_z]
 refine loop_at [15] [] (fun r vs _ h'=>∃ i:Nat,i≤n∧r=n - i∧vs=[.v (.int .i64 i)]∧h' c=some (rowO 93 (Ck.mk n 0 (List.replicate i (2 ^ 64 - 1)++List.replicate (8 - i) 0) (List.replicate 8 false)).cs)∧∀ d,d≠c→h' d=h3 d) n ⟨0,by omega,by omega,rfl,e3,fun _ _=>rfl⟩ ?_
 rintro r vs cs mm bx h4 ⟨i,hi,rfl,rfl,e4,o4⟩
 conv=>whnf
 refine br_ (fun q1=>?_) fun q1=>?_
 ·conv=>whnf
  refine n_ ?_
  refine wr_intro (by exact storeCA (k:=2+i) (by simp [addr_add,sz64W]) siz64W e4 (by rw [ckC_len _ _ (by omega)];omega) (ckC_set n i (by omega)) rfl rfl) (fun h5 at_h5 ot_h5=>cw_ ?_)
  refine n_ ?_
  exact ⟨n - (i+1),by omega,i+1,by omega,rfl,rfl,at_h5,fun d hd=>(ot_h5 d hd).trans (o4 d hd)⟩
 ·obtain rfl:i=n:=by omega
  have lz:h.le h4:=fun d o hd=>by
   rw [o4 d (Hp.ne n_c (le_z _ _ hd))];exact l3 _ _ (le_z _ _ hd)
  have zc:z≠c:=Hp.ne n_c at_z
  conv=>whnf
  refine ⟨_,loadA0 aggCkc sizCkc e4 (ckC_len i i h2),cw_ ?_⟩
  refine wr_intro (by exact storeA0 (z:=.agg (Ck.new i).cs.toArray) sizCkc ((o4 z zc).trans (oz3.trans at_z)) rfl (ckC_len i i h2) (ckC_one i i h2)) (fun h5 at_h5 ot_h5=>cw_ ?_)
  refine ⟨_,loadA0 aggCkc sizCkc at_h5 (ckC_len i i h2),cw_ ?_⟩
  exact ⟨h,fun d o hd=>by rw [ot_h5 d (Hp.ne n_z hd)];exact lz _ _ hd,hk⟩
end
end Go.Proofs.YtnjlneefddlaoaaGreat
