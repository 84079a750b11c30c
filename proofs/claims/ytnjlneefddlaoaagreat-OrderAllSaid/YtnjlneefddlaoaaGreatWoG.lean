/-
  Worlds: a number is laid.
-/
import Derived.Test.YtnjlneefddlaoaaGreatWoF
import Derived.Test.YtnjlneefddlaoaaGreatTrcFc
set_option linter.unusedSimpArgs false
set_option linter.unusedVariables false
set_option maxHeartbeats 8000000
set_option maxRecDepth 10000
set_option linter.unusedSimpArgs false
set_option linter.unusedVariables false
namespace Go.Proofs.YtnjlneefddlaoaaGreat
open Go Go.Mid Go.RowKit Go.Bits
attribute [local irreducible] mid
def setB (l:Str) (at_ v:Nat):Nat→Str
 | 0=>l
 | n+1=>(setB l at_ v n).set (at_+n) (UInt8.ofNat (v / 256 ^ n % 256))
theorem setB_len (l:Str) (at_ v:Nat):∀ n,(setB l at_ v n).length=l.length
 | 0=>rfl
 | n+1=>by rw [setB,List.length_set,setB_len l at_ v n]
def layR (ram:Str) (a:Ak) (v:Nat):Str:=match partsP ram.length a with
 | none=>ram
 | some (i,none)=>setB ram i v (fstN a).toNat
 | some (i,some j)=>setB (setB ram i v (fstN a).toNat) j (v / 256 ^ (fstN a).toNat) (a.size - a.cut).toNat
def killR (hart:Int) (L:List Nat):Nat→List (Bool×Nat)→List (Bool×Nat)
 | _,[]=>[]
 | k,x :: r=>(if (k:Int)≠hart∧x.1=true∧x.2 ∈ L then (false,0) else x) :: killR hart L (k+1) r
theorem parts_abs (rb:Nat) (ram:Str) (a:Ak) (v:Nat) (hsz:0≤a.cut∧a.cut<a.size∧a.size≤8):∃ (b1 b2:Option Addr) (c1 c2 n1 n2 a1 a2:Nat) (ok:Bool),partsV rb a (partsP ram.length a)=.tuple #[.slice b1 n1 c1,.slice b2 n2 c2,.bool ok]∧(0<n1→b1=some ⟨rb,a1,none⟩)∧(0<n2→b2=some ⟨rb,a2,none⟩)∧a1+n1≤ram.length∧a2+n2≤ram.length∧n1≤8∧n2≤8∧layR ram a v=setB (setB ram a1 v n1) a2 (v / 256 ^ n1) n2:=by
 unfold layR
 have hf:fstN a≤8:=by unfold fstN;split <;> omega
 cases hp:partsP ram.length a with
 | none=>exact ⟨none,none,0,0,0,0,0,0,false,rfl,fun e=>absurd e (by decide),fun e=>absurd e (by decide),Nat.zero_le _,Nat.zero_le _,by decide,by decide,rfl⟩
 | some q =>
  obtain ⟨i,j⟩:=q
  unfold partsP at hp
  cases h1:spotP ram.length a.addr (fstN a) with
  | none=>rw [h1] at hp;cases hp
  | some i' =>
   rw [h1] at hp
   simp only at hp
   obtain ⟨g1,g2⟩:=spot_some h1
   split at hp
   ·cases hp
    exact ⟨_,none,_,0,(fstN a).toNat,0,i,0,true,rfl,fun _=>rfl,fun e=>absurd e (by decide),by omega,Nat.zero_le _,by omega,by decide,rfl⟩
   ·cases h2:spotP ram.length a.next (a.size - a.cut) with
    | none=>rw [h2] at hp;cases hp
    | some j' =>
     rw [h2] at hp
     cases hp
     obtain ⟨g3,g4⟩:=spot_some h2
     exact ⟨_,_,_,_,(fstN a).toNat,(a.size - a.cut).toNat,i,j',true,rfl,fun _=>rfl,fun _=>rfl,by omega,by omega,by omega,by omega,rfl⟩
theorem killR_len (hart:Int) (L:List Nat):∀ (r:List (Bool×Nat)) (k:Nat),(killR hart L k r).length=r.length
 | [],_=>rfl
 | x :: r,k=>by rw [killR,List.length_cons,killR_len hart L r,List.length_cons]
theorem killR_at (hart:Int) (L:List Nat):∀ (r:List (Bool×Nat)) (k j:Nat) (x:Bool×Nat),r[j]? = some x→(killR hart L k r)[j]? = some (if ((k+j:Nat):Int)≠hart∧x.1=true∧x.2 ∈ L then (false,0) else x)
 | [],_,j,x,h=>by simp at h
 | y :: r,k,0,x,h=>by
  simp only [List.getElem?_cons_zero,Option.some.injEq] at h
  subst h
  rw [killR,List.getElem?_cons_zero,Nat.add_zero]
 | y :: r,k,j+1,x,h=>by
  simp only [List.getElem?_cons_succ] at h
  rw [killR,List.getElem?_cons_succ,killR_at hart L r (k+1) j x h,show k+1+j=k+(j+1) by omega]
theorem take_drop_set {α:Type} {A B:List α} {j:Nat} {y:α} (hl:A.length=B.length) (hj:A[j]? = some y):(A.take j++B.drop j).set j y=A.take (j+1)++B.drop (j+1):=by
 have hlt:j<A.length:=(List.getElem?_eq_some_iff.1 hj).1
 have hA:A.take (j+1)=A.take j++[y]:=by rw [List.take_add_one,hj];rfl
 have htl:(A.take j).length=j:=by rw [List.length_take];omega
 rw [hA,List.set_append_right _ _ (by omega),htl,Nat.sub_self,List.drop_eq_getElem_cons (show j<B.length by omega),List.set_cons_zero,List.append_assoc]
 rfl
theorem take_drop_same {α:Type} {A B:List α} {j:Nat} {y:α} (hA:A[j]? = some y) (hB:B[j]? = some y):A.take j++B.drop j=A.take (j+1)++B.drop (j+1):=by
 obtain ⟨hb,e⟩:=List.getElem?_eq_some_iff.1 hB
 have hA2:A.take (j+1)=A.take j++[y]:=by rw [List.take_add_one,hA];rfl
 rw [hA2,List.drop_eq_getElem_cons hb,e,List.append_assoc]
 rfl
theorem wor_setR {c:Cn} {ram:Value} {b:Nat} {m:Ml} {r:List (Bool×Nat)} {j:Nat} {x:Bool×Nat} (hr:r.length=8) (hj:j<8):setL (worC c ram r b m) (5+2*j) [clB x.1,cl64 x.2]=worC c ram (r.set j x) b m:=by
 match r,hr with
 | [_,_,_,_,_,_,_,_],_ =>
  match j,hj with
  | 0,_ | 1,_ | 2,_ | 3,_ | 4,_ | 5,_ | 6,_ | 7,_=>rfl
  | _+8,h=>exact absurd h (by omega)
theorem rv_at {r:List (Bool×Nat)} {j:Nat} {x:Bool×Nat} (hr:r.length=8) (hx:r[j]? = some x):((rvC r).drop (2*j)).take 2=[clB x.1,cl64 x.2]:=by
 match r,hr with
 | [_,_,_,_,_,_,_,_],_ =>
  match j,hx with
  | 0,h | 1,h | 2,h | 3,h | 4,h | 5,h | 6,h | 7,h=>cases h;rfl
  | _+8,h=>simp at h
theorem WoN.put {k h h':Hp} {w:Nat} {W:Wd} {rb b p cap:Nat} {rest:List Value} {ib ob:Option Nat} {ram':Str} {r':List (Bool×Nat)} {m':Ml} (lek:k.le h) (nw:k w=none) (ok:W.ok) (hw:h w=some (rowO worT (worC W.c (.slice (some ⟨rb,0,none⟩) W.ram.length cap) W.r b W.m))) (hrb:h rb=some (rowO 5 (W.ram.map byV++rest))) (hcap:W.ram.length+rest.length=cap) (hbu:BuO h b p W.c.harts W.k W.q W.u W.bi W.bo ib ob) (hkn:k rb=none∧k b=none∧k p=none) (hib:∀ x,ib=some x→x≠rb∧k x=none) (hob:∀ x,ob=some x→x≠rb∧k x=none)
  (hl:ram'.length=W.ram.length) (hr:r'.length=8) (hm:m'.ok) (hw':h' w=some (rowO worT (worC W.c (.slice (some ⟨rb,0,none⟩) W.ram.length cap) r' b m'))) (hrb':h' rb=some (rowO 5 (ram'.map byV++rest))) (ho:∀ d o,d≠w→d≠rb→h d=some o→h' d=some o):WoN k h' w { W with ram:=ram',r:=r',m:=m' }:=by
 have ne:∀ (t1 t2:TypeId) (u v:Nat) (l1 l2:List Value),t1≠t2→h u=some (rowO t1 l1)→h v=some (rowO t2 l2)→u≠v:=fun t1 t2 u v l1 l2 ht h1 h2 e=>by
  subst e;rw [h1] at h2;cases h2;exact ht rfl
 have hrow:=hbu.row
 obtain ⟨si,so,hp,gi,go⟩:=hbu.port.go
 have bw:=ne _ _ _ _ _ _ (by decide) hrow hw
 have br:=ne _ _ _ _ _ _ (by decide) hrow hrb
 have pw:=ne _ _ _ _ _ _ (by decide) hp hw
 have pr:=ne _ _ _ _ _ _ (by decide) hp hrb
 have gg:∀ {s:Value} {l:Str} {o:Option Nat},Gr h 5 1 s l.length (l.map byV) o→(∀ x,o=some x→x≠rb∧k x=none)→Gr h' 5 1 s l.length (l.map byV) o:=fun g hx=>by
  refine g.agree fun x e=>?_
  obtain ⟨_,⟨e2,_⟩ | ⟨bb,_,_,e2,_,_,_,hb⟩⟩:=g
  ·rw [e2] at e;cases e
  ·rw [e2] at e;cases e
   rw [ho _ _ (ne _ _ _ _ _ _ (by decide) hb hw) (hx _ e2).1 hb,hb]
 refine ⟨fun d o e=>?_,nw,⟨ok.c,by rw [← ok.ram];exact congrArg _ hl,hr,hm⟩,rb,b,p,cap,rest,ib,ob,?_,hrb',by rw [← hcap];exact congrArg (·+rest.length) hl,⟨ho _ _ bw br hrow,⟨si,so,ho _ _ pw pr hp,gg gi hib,gg go hob⟩,hbu.k,hbu.q,hbu.bi,hbu.bo⟩,hkn,hib,hob⟩
 ·exact ho _ _ (fun e2=>by subst e2;rw [nw] at e;cases e) (fun e2=>by subst e2;rw [hkn.1] at e;cases e) (lek _ _ e)
 ·exact hw'.trans (by show _=some (rowO worT (worC W.c (.slice (some ⟨rb,0,none⟩) ram'.length cap) r' b m'));rw [hl])
section
variable {h:Hp} {K:Value→Hp→Prop}
theorem le_w8 (u:Nat):IntKind.u8.wrap (u:Int)=((u % 256:Nat):Int):=by
 rw [show IntKind.u8.wrap (u:Int)=(u:Int) % 256 by unfold IntKind.wrap;simp [IntKind.signed,IntKind.bits]]
 omega
theorem aggHo:isAggT Tryz.prog 80 = some true:=by kernel_rfl
theorem sizHo:sizeT Tryz.prog 80 = some 2:=by kernel_rfl
theorem szHo:Tryz.prog.types[80].size=2:=by kernel_rfl
theorem siz8W:sizeT Tryz.prog 5 = some 1:=by kernel_rfl
theorem row_set (l:Str) (rest:List Value) (k:Nat) (hk:k<l.length) (u:Nat):((l.map byV)++rest).set k (.int .u8 ((u % 256:Nat):Int))=(l.set k (UInt8.ofNat (u % 256))).map byV++rest:=by
 rw [List.set_append_left _ _ (by rw [List.length_map];exact hk),List.map_set]
 congr 2
 show _=Value.int .u8 ((UInt8.ofNat (u % 256)).toNat:Int)
 rw [UInt8.toNat_ofNat',Nat.mod_eq_of_lt (show u % 256<2 ^ 8 by omega)]
theorem lay_x {k:Hp} {w:Nat} {W:Wd} (o:WoN k h w W) (hl:W.ram.length≤2 ^ 30) (i:Int) (a:Ak) (ha:a.ok) (hsz:0≤a.cut∧a.cut<a.size∧a.size≤8) (v:Nat) (hv:v<2 ^ 64) (hk:∀ h',WoN k h' w { W with ram:=layR W.ram a v,r:=killR i (linesA a) 0 W.r }→K (.tuple #[]) h'):X Tryz.prog 52 #[.pointer (some ⟨w,0,none⟩),.int .i64 i,.agg a.cs.toArray,.int .u64 v] h K:=by
 obtain ⟨lek,nw,ok,rb,b,p,cap,rest,ib,ob,hw,hrb,hcap,hbu,hkn,hib,hob⟩:=o
 obtain ⟨b1,b2,c1,c2,n1,n2,a1,a2,okb,hpv,hb1,hb2,l1,l2,m1,m2,hlay⟩:=parts_abs rb W.ram a v hsz
 refine fnv (args:=_) mixed [(16,16),(58,16),(63,16)] [] [] Tryz.func52 rfl (by kernel_rfl) (cw_ ?_)
 refine new_intro (o:=rowO 59 a.cs) (fun z h1 n_z le_z at_z ot_z=>cw_ ?_)
 refine ⟨_,loadA0 aggAk sizAk at_z rfl,cw_ ?_⟩
 refine parts_x (le_z _ _ hw) hl (by omega) a ha hsz ?_
 rw [hpv]
 conv=>whnf
 have L2:W.ram.length=W.ram.length:=rfl
 have V2:v<2 ^ 64:=hv
 refine loop_step (cw_ ?_)
 refine loop_at [32,3] [] (fun r vs _ h'=>∃ j:Nat,j≤n1∧r=n1 - j∧vs=[.v (.int .i64 j),.v (.int .u64 (v / 256 ^ j:Nat))]∧h' rb=some (rowO 5 ((setB W.ram a1 v j).map byV++rest))∧∀ d,d≠rb→h' d=h1 d) n1 ⟨0,Nat.zero_le _,by omega,by rw [Nat.pow_zero,Nat.div_one];rfl,le_z _ _ hrb,fun _ _=>rfl⟩ ?_
 rintro r vs cs mm2 bx2 h2 ⟨j,hj,rfl,rfl,e2,o2⟩
 conv=>whnf
 refine br_ (fun q2=>?_) fun q2=>?_
 ·have hbj:=hb1 (by omega)
  subst hbj
  have hvj:v / 256 ^ j<2 ^ 64:=Nat.lt_of_le_of_lt (Nat.div_le_self _ _) V2
  have hsl:(setB W.ram a1 v j).length=W.ram.length:=(setB_len _ _ _ _).trans L2
  have hdv:v / 256 ^ (j+1)=v / 256 ^ j / 256:=by rw [Nat.pow_succ,← Nat.div_div_eq_div_mul]
  obtain ⟨u,hu⟩:∃ u,v / 256 ^ j=u:=⟨_,rfl⟩
  have hst:(setB W.ram a1 v (j+1))=(setB W.ram a1 v j).set (a1+j) (UInt8.ofNat (u % 256)):=by rw [setB,hu]
  rw [hu] at hvj hdv ⊢
  conv=>whnf
  refine ov_by (show IntKind.u8.wrap (u:Int)=((u % 256:Nat):Int) from le_w8 u) (cw_ ?_)
  refine n_ ?_
  refine wr_intro (by exact storeCA (k:=a1+j) (by simp [addr_add,sz8W]) siz8W e2 (by rw [List.length_append,List.length_map];omega) (row_set _ _ _ (by omega) u) rfl rfl) (fun h2a at_h2a ot_h2a=>cw_ ?_)
  refine val_by (y:=((u / 256:Nat):Int)) (shr64 u 8 (by decide)) (cw_ ?_)
  refine n_ ?_
  exact ⟨n1 - (j+1),by omega,j+1,by omega,rfl,by rw [hdv];rfl,by rw [hst];exact at_h2a,fun d hd=>(ot_h2a d hd).trans (o2 d hd)⟩
 ·obtain rfl:n1=j:=by omega
  conv=>whnf
  refine n_ ?_
  have L3:(setB W.ram a1 v n1).length=W.ram.length:=setB_len _ _ _ _
  have V3:v / 256 ^ n1<2 ^ 64:=Nat.lt_of_le_of_lt (Nat.div_le_self _ _) hv
  refine loop_step (cw_ ?_)
  refine loop_at [32,3] [] (fun r vs _ h'=>∃ j:Nat,j≤n2∧r=n2 - j∧vs=[.v (.int .i64 j),.v (.int .u64 ((v / 256 ^ n1) / 256 ^ j:Nat))]∧h' rb=some (rowO 5 ((setB (setB W.ram a1 v n1) a2 (v / 256 ^ n1) j).map byV++rest))∧∀ d,d≠rb→h' d=h2 d) n2 ⟨0,Nat.zero_le _,by omega,by rw [Nat.pow_zero,Nat.div_one];rfl,e2,fun _ _=>rfl⟩ ?_
  rintro r vs cs mm3 bx3 h3 ⟨j,hj,rfl,rfl,e3,o3⟩
  conv=>whnf
  refine br_ (fun q3=>?_) fun q3=>?_
  ·have hbj:=hb2 (by omega)
   subst hbj
   have hvj:(v / 256 ^ n1) / 256 ^ j<2 ^ 64:=Nat.lt_of_le_of_lt (Nat.div_le_self _ _) V3
   have hsl:(setB (setB W.ram a1 v n1) a2 (v / 256 ^ n1) j).length=W.ram.length:=(setB_len _ _ _ _).trans L3
   have hdv:(v / 256 ^ n1) / 256 ^ (j+1)=(v / 256 ^ n1) / 256 ^ j / 256:=by rw [Nat.pow_succ,← Nat.div_div_eq_div_mul]
   obtain ⟨u,hu⟩:∃ u,(v / 256 ^ n1) / 256 ^ j=u:=⟨_,rfl⟩
   have hst:(setB (setB W.ram a1 v n1) a2 (v / 256 ^ n1) (j+1))=(setB (setB W.ram a1 v n1) a2 (v / 256 ^ n1) j).set (a2+j) (UInt8.ofNat (u % 256)):=by rw [setB,hu]
   rw [hu] at hvj hdv ⊢
   conv=>whnf
   refine ov_by (show IntKind.u8.wrap (u:Int)=((u % 256:Nat):Int) from le_w8 u) (cw_ ?_)
   refine n_ ?_
   refine wr_intro (by exact storeCA (k:=a2+j) (by simp [addr_add,sz8W]) siz8W e3 (by rw [List.length_append,List.length_map];omega) (row_set _ _ _ (by omega) u) rfl rfl) (fun h3a at_h3a ot_h3a=>cw_ ?_)
   refine val_by (y:=((u / 256:Nat):Int)) (shr64 u 8 (by decide)) (cw_ ?_)
   refine n_ ?_
   exact ⟨n2 - (j+1),by omega,j+1,by omega,rfl,by rw [hdv];rfl,by rw [hst];exact at_h3a,fun d hd=>(ot_h3a d hd).trans (o3 d hd)⟩
  ·obtain rfl:n2=j:=by omega
   conv=>whnf
   refine n_ ?_
   refine loop_step (cw_ ?_)
   refine ⟨_,loadA0 aggAk sizAk ((o3 z (Hp.ne n_z hrb).symm).trans ((o2 z (Hp.ne n_z hrb).symm).trans at_z)) rfl,cw_ ?_⟩
   refine lines_xA a ha fun sL h4 hO4=>(cw_ ?_)
   have hwr:w≠rb:=fun e=>by
    subst e
    rw [hw] at hrb
    injection hrb with q
    unfold rowO at q
    injection q with _ q2 _
    exact absurd q2 (by decide)
   have hrl:=rvC_len ok.r
   have e4w:=hO4.le _ _ (((o3 w hwr).trans (o2 w hwr)).trans (le_z _ _ hw))
   refine ⟨_,loadPA (k:=5) (by simp [addr_add]) aggRv sizRv e4w (x:=rvC W.r) (wor_rv hrl) hrl,cw_ ?_⟩
   refine loop_at [50] [] (fun r vs _ h'=>∃ j:Nat,j≤8∧r=8 - j∧vs=[.v (.int .i64 j)]∧h' w=some (rowO worT (worC W.c (.slice (some ⟨rb,0,none⟩) W.ram.length cap) ((killR i (linesA a) 0 W.r).take j++W.r.drop j) b W.m))∧∀ d,d≠w→h' d=h4 d) 8 ⟨0,by omega,by omega,rfl,e4w,fun _ _=>rfl⟩ ?_
   rintro r vs cs mm5 bx5 h5 ⟨j,hj,rfl,rfl,e5,o5⟩
   conv=>whnf
   refine br_ (fun q4=>?_) fun q4=>?_
   ·obtain ⟨x,hx⟩:∃ x,W.r[j]? = some x:=⟨_,List.getElem?_eq_getElem (by rw [ok.r];omega)⟩
    conv=>whnf
    obtain ⟨xb,xl⟩:=x
    have hkl:(killR i (linesA a) 0 W.r).length=W.r.length:=killR_len _ _ _ _
    have hat:=killR_at i (linesA a) W.r 0 j _ hx
    rw [Nat.zero_add] at hat
    refine need_intro ⟨by omega,by show _<((8:Nat):Int);omega⟩ ?_
    refine part_agg (n:=2) (k:=2*j) (x:=[clB xb,cl64 xl]) aggHo sizHo (by rw [Int.toNat_natCast,szHo];omega) (rv_at ok.r hx) rfl (by decide) (cw_ ?_)
    refine br_ (fun q5=>?_) fun q5=>?_
    ·cases xb with
     | false =>
      rw [if_neg (fun hh=>by cases hh.2.1)] at hat
      conv=>whnf
      refine n_ ?_
      exact ⟨8 - (j+1),by omega,j+1,by omega,rfl,rfl,by rw [← take_drop_same hat hx];exact e5,o5⟩
     | true =>
      have hw3:=((o3 w hwr).trans (o2 w hwr)).trans (le_z _ _ hw)
      conv=>whnf
      refine contains_xU sL (linesA a) xl ((hO4.put hw3 e5 o5).rd aggU) (by have:=linesA_len a ha;omega) (cw_ ?_)
      refine bsel_intro (fun q6=>?_) (fun q6=>?_)
      ·have q6:xl ∈ linesA a:=by simpa using q6
       rw [if_pos ⟨q5,rfl,q6⟩] at hat
       conv=>whnf
       refine need_intro ⟨by omega,by show _<((8:Nat):Int);omega⟩ ?_
       conv=>whnf
       have hrl2:((killR i (linesA a) 0 W.r).take j++W.r.drop j).length=8:=by
        rw [List.length_append,List.length_take,List.length_drop,hkl,ok.r];omega
       refine wr_intro (by exact storePA (n:=2) (k:=5+2*j) (by simp [addr_add,szHo];omega) sizHo e5 (by simp only [worC,List.length_append,Ml.ok.len ok.m,rvC_len hrl2,Cn.cs,List.length_cons,List.length_nil];omega) (wor_setR (x:=(false,0)) hrl2 (by omega)) rfl rfl) (fun h6 at_h6 ot_h6=>cw_ ?_)
       rw [take_drop_set hkl hat] at at_h6
       refine n_ ?_
       exact ⟨8 - (j+1),by omega,j+1,by omega,rfl,rfl,at_h6,fun d hd=>(ot_h6 d hd).trans (o5 d hd)⟩
      ·have q6:¬ xl ∈ linesA a:=by simpa using q6
       rw [if_neg (fun hh=>q6 hh.2.2)] at hat
       conv=>whnf
       refine n_ ?_
       exact ⟨8 - (j+1),by omega,j+1,by omega,rfl,rfl,by rw [← take_drop_same hat hx];exact e5,o5⟩
    ·rw [if_neg (fun hh=>hh.1 (by omega))] at hat
     conv=>whnf
     refine n_ ?_
     exact ⟨8 - (j+1),by omega,j+1,by omega,rfl,rfl,by rw [← take_drop_same hat hx];exact e5,o5⟩
   ·obtain rfl:j=8:=by omega
    have hfin:(killR i (linesA a) 0 W.r).take 8++W.r.drop 8=killR i (linesA a) 0 W.r:=by
     have hkl:(killR i (linesA a) 0 W.r).length=W.r.length:=killR_len _ _ _ _
     rw [List.take_of_length_le (by rw [hkl,ok.r];omega),List.drop_of_length_le (by rw [ok.r];omega),List.append_nil]
    rw [hfin] at e5
    have hzw:∀ d o,h d=some o→d≠w→d≠rb→h5 d=some o:=fun d o hd d1 d2=>by
     rw [o5 d d1];exact hO4.le _ _ (by rw [o3 d d2,o2 d d2];exact le_z _ _ hd)
    have hfl:(setB (setB W.ram a1 v n1) a2 (v / 256 ^ n1) n2).length=W.ram.length:=by rw [setB_len,setB_len]
    have hrb5:h5 rb=some (rowO 5 ((layR W.ram a v).map byV++rest)):=by rw [o5 rb (Ne.symm hwr),hlay];exact hO4.le _ _ e3
    have hfin2:=WoN.put (ram':=layR W.ram a v) (r':=killR i (linesA a) 0 W.r) (m':=W.m) lek nw ok hw hrb hcap hbu hkn hib hob (by rw [hlay];exact hfl) ((killR_len _ _ _ _).trans ok.r) ok.m e5 hrb5 (fun d o d1 d2 hd=>hzw d o hd d1 d2)
    conv=>whnf
    exact hk h5 hfin2
end
end Go.Proofs.YtnjlneefddlaoaaGreat
