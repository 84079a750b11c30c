/-
  Instructions as words: pieces of numbers, laid together: plain laws.
-/
import Derived.Test.YtdhkjcdneidgaaaGreatDoorImmP
import Derived.Test.YtdhkjcdneidgaaaGreatDoorMidM
set_option linter.unusedSimpArgs false
set_option linter.unusedVariables false
set_option maxHeartbeats 8000000
set_option maxRecDepth 10000
set_option linter.unusedSimpArgs false
set_option linter.unusedVariables false
namespace Go.Proofs.YtdhkjcdneidgaaaGreatDoor
open Go Go.Mid Go.RowKit
attribute [local irreducible] mid
structure Ins where
 op:Int
 a:Int
 b:Int
 c:Int
 m:Int
 s:Int
 aq:Bool
 rl:Bool
def Ins.cs (x:Ins):List Value:=[zv x.op,zv x.a,zv x.b,zv x.c,zv x.m,zv x.s,.bool x.aq,.bool x.rl]
def in0:Ins:=⟨0,0,0,0,0,0,false,false⟩
def Ins.chk (x:Ins):Int:=checkF (fmtN x.op) x.a x.b x.c x.m x.s x.aq x.rl
def fieldP (x:Ins) (f:UInt8) (w:Str):Except Int Ins :=
 if f=100 then (match Rg.findI w with | some i=>.ok { x with a:=i } | none=>.error 9)
 else if f=49 then (match Rg.findI w with | some i=>.ok { x with b:=i } | none=>.error 9)
 else if f=50 then (match Rg.findI w with | some i=>.ok { x with c:=i } | none=>.error 9)
 else if f=105 then (match numA w with | some n=>.ok { x with m:=n } | none=>.error 2)
 else if f=117 then (match numA w with | some n=>.ok { x with m:=upN n } | none=>.error 2)
 else if f=99 then (match numA w with | some n=>.ok { x with s:=smallN n } | none=>.error 2)
 else (match numA w with | some n=>.ok { x with b:=smallN n } | none=>.error 2)
def fieldsP:Ins→Str→List Str→Except Int Ins
 | x,f :: fs,w :: ws=>match fieldP x f w with
  | .ok y=>fieldsP y fs ws
  | .error e=>.error e
 | x,_,_=>.ok x
theorem fieldsP_cons (x:Ins) (f:UInt8) (fs:Str) (w:Str) (ws:List Str):fieldsP x (f :: fs) (w :: ws)=(match fieldP x f w with
  | .ok y=>fieldsP y fs ws
  | .error e=>.error e):=rfl
def lineP (w:Str) (r:List Str):Except Int Ins:=match opA w with
 | none=>.error 9
 | some (i,aq,rl)=>if r.length≠(orderS (fmtN (i+1:Nat))).length then .error 2 else match fieldsP ⟨(i+1:Nat),0,0,0,0,0,aq,rl⟩ (orderS (fmtN (i+1:Nat))) r with
  | .error e=>.error e
  | .ok x=>if x.chk=0 then .ok x else .error x.chk
def parseA (s:Str):Except Int Ins :=
 if 200<s.length then .error 4 else if s=[] then .error 5 else if (sp [32] s).any (·.isEmpty) then .error 2 else match sp [32] s with
  | []=>.error 9
  | w :: r=>lineP w r
def insOf:Except Int Ins→Ins
 | .ok x=>x
 | .error _=>in0
def errOf:Except Int Ins→Int
 | .ok _=>0
 | .error e=>e
abbrev parsedV (r:Except Int Ins):Value:=.tuple #[.agg (insOf r).cs.toArray,zv (errOf r)]
theorem numA_rng {s:Str} {v:Int} (h:numA s=some v) : -9223372036854775808≤v∧v≤9223372036854775807:=by
 unfold numA at h
 split at h
 ·rename_i v' hv
  split at h
  ·cases h
   have:=Lib.parseIntB_bounds hv
   have hb : -9223372036854775808≤v∧v<9223372036854775808:=this
   omega
  ·cases h
 ·cases h
theorem upN_rng {v:Int} (h : -9223372036854775808≤v∧v≤9223372036854775807) : -9223372036854775808≤upN v∧upN v≤9223372036854775807:=by
 unfold upN;split <;> omega
theorem ins_len (x:Ins):x.cs.length=8:=rfl
section
variable {h:Hp} {K:Value→Hp→Prop} {E:List PanicEntry→Hp→Prop}
theorem szStr:Tryz.prog.types[9].size=1:=by kernel_rfl
theorem sizAi64:sizeT Tryz.prog 2=some 1:=by kernel_rfl
theorem order_lt:∀ f:Nat,f<15→(orderS f).length≤3:=by decide
theorem Hp.le_upd {h h3 h4:Hp} {b:Nat} (h3le:h.le h3) (hb:h b=none) (o:∀ c,c≠b→h4 c=h3 c):h.le h4:=fun c x e=>by
 have:c≠b:=fun ee=>by rw [ee,hb] at e;cases e
 rw [o c this];exact h3le _ _ e
structure Ip (h h':Hp) (bx be bw:Nat) (x:Ins) (L:List Str):Prop where
 le:h.le h'
 x:h' bx=some (oIn x.cs)
 e:h' be=some (oEr 0)
 w:h' bw=some (rowO 9 (L.map sv))
theorem Ip.set {h h' h2:Hp} {bx be bw:Nat} {x y:Ins} {L:List Str} (i:Ip h h' bx be bw x L) (n:h bx=none) (n1:bx≠be) (n2:bx≠bw) (a:h2 bx=some (oIn y.cs)) (o:∀ c,c≠bx→h2 c=h' c):Ip h h2 bx be bw y L :=
 ⟨Hp.le_upd i.le n o,a,(o _ (Ne.symm n1)).trans i.e,(o _ (Ne.symm n2)).trans i.w⟩
theorem parse_x (hm:Mx h) (her:Er h) (hp:Pow h) (s:Str) (hl:s.length≤2 ^ 40) (hk:∀ h',h.le h'→K (parsedV (parseA s)) h'):XE Tryz.prog 111 #[.string (bs s)] h K E:=by
 unfold parseA at hk
 by_cases g1:200<s.length
 ·rw [if_pos g1] at hk
  exact parse_long s g1 hl hk
 rw [if_neg g1] at hk
 have hlen:(sp [32] s).length≤201:=Nat.le_trans (sp_length [32] s (by decide)) (by omega)
 refine fnd (args:=_) mixed [] [] [] [(999998,[13,16,23,25,27,29,31,33,35,39])] Tryz.func111 rfl (by kernel_rfl) (cw_ ?_)
 refine new_intro (o:=oIn insn0) (fun bx h1 n_bx le_bx at_bx ot_bx=>cw_ ?_)
 refine new_intro (o:=oEr 0) (fun be h2 n_be le_be at_be ot_be=>cw_ ?_)
 refine ⟨rfl,?_⟩
 have a2:h2 bx=some (oIn insn0):=le_be _ _ at_bx
 have hne:bx≠be:=fun e=>by rw [e,n_be] at at_bx;cases at_bx
 have l2:h.le h2:=Hp.le_trans le_bx le_be
 have nx:h bx=none:=n_bx
 have ne:h be=none:=Hp.none_le le_bx n_be
 conv=>whnf
 rw [bs_size]
 refine bf_ ?_
 by_cases g2:s=[]
 ·rw [if_pos g2] at hk
  refine seq_true (g2) (cw_ ?_)
  refine ⟨_,loadA0 aggAi sizAi a2 rfl,cw_ ?_⟩
  refine wr_intro (by exact storeA0 sizAi a2 rfl (by kernel_rfl) (by kernel_rfl)) (fun h3 at_h3 ot_h3=>cw_ ?_)
  have b3:h3 be=some (oEr 0):=(ot_h3 _ (Ne.symm hne)).trans at_be
  refine wr_intro (by exact storeC0 sizAe b3 (show (0:Nat)<1 by decide) rfl rfl) (fun h4 at_h4 ot_h4=>cw_ ?_)
  have b4:h4 be=some (oEr 5):=at_h4
  have a4:h4 bx=some (oIn insn0):=(ot_h4 _ hne).trans at_h3
  refine dl_ret rfl (cw_ ?_)
  refine ⟨_,loadA0 aggAi sizAi a4 rfl,cw_ ?_⟩
  refine ⟨_,loadC0 aggAe b4 rfl,cw_ ?_⟩
  exact hk h4 (Hp.le_upd (Hp.le_upd l2 nx ot_h3) ne ot_h4)
 rw [if_neg g2] at hk
 refine seq_false (g2) (cw_ ?_)
 refine split_x (hm.le l2) s [32] (by omega) (by decide) fun bw h3 n_bw e3=>?_
 have l23:h2.le h3:=by rw [e3];exact Hp.le_set n_bw
 have l3:h.le h3:=Hp.le_trans l2 l23
 have w3:h3 bw=some (rowO 9 ((sp [32] s).map sv)):=by rw [e3,Hp.set_same]
 have a3:h3 bx=some (oIn insn0):=l23 _ _ a2
 have b3:h3 be=some (oEr 0):=l23 _ _ at_be
 have hxw:bx≠bw:=Hp.ne n_bw a2
 have hwl:∀ w ∈ sp [32] s,w.length≤2 ^ 40:=fun w hw=>Nat.le_trans (sp_word [32] (by decide) _ s (Nat.le_refl _) w hw) (by omega)
 clear e3
 obtain ⟨w,r,hsp⟩:=sp_first s
 rw [hsp] at w3 hk hwl hlen
 rw [hsp]
 generalize hL:w :: r=L at w3 hk hwl hlen
 have hL1:L.length=r.length+1:=by rw [← hL];rfl
 conv=>whnf
 refine loop_at [25] [] (fun q vs cs h'=>h3=h'∧∃ i:Nat,i≤L.length∧q=L.length - i∧vs=[.v (zv i)]∧∀ x ∈ L.take i,x≠[]) L.length ⟨rfl,0,by omega,by omega,rfl,by simp⟩ ?_
 rintro q vs cs mm bx9 _ ⟨rfl,i,hi,rfl,rfl,hno⟩
 conv=>whnf
 refine br_ (fun q1=>?_) fun q1=>?_
 ·have hiL:i<L.length:=by omega
  obtain ⟨x,hx⟩:∃ x,L[i]? = some x:=⟨_,List.getElem?_eq_getElem hiL⟩
  conv=>whnf
  refine n_ ?_
  refine ⟨_,loadI aggStr w3 rfl (by rw [List.getElem?_map,hx];rfl),?_⟩;conv=>whnf
  by_cases gx:x=[]
  ·have hany:L.any (·.isEmpty)=true:=List.any_eq_true.2 ⟨x,List.mem_of_getElem? hx,by rw [gx];rfl⟩
   rw [if_pos hany] at hk
   refine seq_true (gx) (cw_ ?_)
   refine ⟨_,loadA0 aggAi sizAi a3 rfl,cw_ ?_⟩
   refine wr_intro (by exact storeA0 sizAi a3 rfl (by kernel_rfl) (by kernel_rfl)) (fun h4 at_h4 ot_h4=>cw_ ?_)
   have b4:h4 be=some (oEr 0):=(ot_h4 _ (Ne.symm hne)).trans b3
   refine wr_intro (by exact storeC0 sizAe b4 (show (0:Nat)<1 by decide) rfl rfl) (fun h5 at_h5 ot_h5=>cw_ ?_)
   have b5:h5 be=some (oEr 2):=at_h5
   have a5:h5 bx=some (oIn insn0):=(ot_h5 _ hne).trans at_h4
   refine dl_ret rfl (cw_ ?_)
   refine ⟨_,loadA0 aggAi sizAi a5 rfl,cw_ ?_⟩
   refine ⟨_,loadC0 aggAe b5 rfl,cw_ ?_⟩
   exact hk h5 (Hp.le_upd (Hp.le_upd l3 nx ot_h4) ne ot_h5)
  ·refine seq_false (gx) (cw_ ?_)
   refine n_ ?_
   refine ⟨L.length - (i+1),by omega,rfl,i+1,by omega,rfl,rfl,fun y hy=>?_⟩
   rw [List.take_add_one,hx] at hy
   rcases List.mem_append.1 hy with hy | hy
   ·exact hno y hy
   ·simp only [Option.toList_some,List.mem_singleton] at hy;subst hy;exact gx
 have hany:¬ L.any (·.isEmpty)=true:=by
  rw [List.any_eq_true]
  rintro ⟨x,hx,hx2⟩
  exact hno x (by rw [List.take_of_length_le (by omega)];exact hx) (by simpa using hx2)
 rw [if_neg hany] at hk
 subst hL
 have hk:∀ h',h.le h'→K (parsedV (lineP w r)) h':=hk
 unfold lineP at hk
 have w0l:w.length≤2 ^ 40:=hwl w (by simp)
 conv=>whnf
 refine n_ ?_
 refine ⟨_,loadI (j:=0) aggStr w3 rfl rfl,cw_ ?_⟩
 refine op_x w w0l (fun i0 aq rl ho=>?_) (fun ho=>?_)
 ·rw [ho] at hk
  simp only at hk
  have hf15:=fmtN_lt (i0+1:Nat)
  generalize hf:fmtN (i0+1:Nat)=f at hk hf15
  have hof:=order_lt f hf15
  generalize hfs:orderS f=fs at hk hof
  have hbz:(bs fs).size=fs.length:=bs_size fs
  conv=>whnf
  refine wr_intro (by exact storeA0 sizAi a3 rfl (by kernel_rfl) (by kernel_rfl)) (fun h4 at_h4 ot_h4=>cw_ ?_)
  have I4:Ip h h4 bx be bw ⟨(i0+1:Nat),0,0,0,0,0,aq,rl⟩ (w :: r):=⟨Hp.le_upd l3 nx ot_h4,at_h4,(ot_h4 _ (Ne.symm hne)).trans b3,(ot_h4 _ (Ne.symm hxw)).trans w3⟩
  clear ot_h4 at_h4
  conv=>whnf
  refine ⟨_,loadC0 aggY0 I4.x rfl,cw_ ?_⟩
  refine fmt_x _ ?_
  rw [hf]
  conv=>whnf
  refine order_x f hf15 ?_
  rw [hfs]
  conv=>whnf
  refine n_ ?_
  by_cases gl:r.length=fs.length
  rotate_left
  ·rw [if_pos gl] at hk
   refine bt_ ?_
   have AX:=I4.x
   have AE:=I4.e
   have LE:=I4.le
   refine dl_pan rfl hne AX AE rfl fun hz az bz oz=>(cw_ ?_)
   refine ⟨_,loadA0 aggAi sizAi az rfl,cw_ ?_⟩
   refine ⟨_,loadC0 aggAe bz rfl,cw_ ?_⟩
   refine hk hz fun c o hc=>?_
   have c1:c≠bx:=fun e=>by rw [e,nx] at hc;cases hc
   have c2:c≠be:=fun e=>by rw [e,ne] at hc;cases hc
   rw [oz c c1 c2]
   exact LE _ _ hc
  rw [if_neg (by simpa using gl)] at hk
  refine bf_ ?_
  refine n_ ?_
  generalize hd:decide ((w :: r).length=Int.toNat 1)=d
  cases d with
  | true =>
   have hr0:r=[]:=by
    have:=of_decide_eq_true hd
    simp at this
    exact this
   have hR:fieldsP ⟨(i0+1:Nat),0,0,0,0,0,aq,rl⟩ fs r=.ok ⟨(i0+1:Nat),0,0,0,0,0,aq,rl⟩:=by
    rw [hr0];cases fs <;> rfl
   obtain ⟨y,hy⟩:∃ y:Ins,y=⟨(i0+1:Nat),0,0,0,0,0,aq,rl⟩:=⟨_,rfl⟩
   have m1 : -9223372036854775808≤y.m:=by rw [hy];show (-9223372036854775808:Int)≤0;decide
   have m2:y.m≤9223372036854775807:=by rw [hy];show (0:Int)≤9223372036854775807;decide
   rw [← hy] at hR hk I4
   have I:=I4
   clear I4
   rw [hr0]
   conv=>whnf
   refine loop_step (cw_ ?_)
   rw [← hr0] at *
   rw [hR] at hk
   simp only at hk
   conv=>whnf
   refine ⟨_,loadA0 aggAi sizAi I.x rfl,cw_ ?_⟩
   refine check_x y.op y.a y.b y.c y.m y.s y.aq y.rl m1 m2 ?_
   have hc0:checkF (fmtN y.op) y.a y.b y.c y.m y.s y.aq y.rl=y.chk:=rfl
   rw [hc0]
   generalize y.chk=e at hk ⊢
   conv=>whnf
   refine br_ (fun ge=>?_) fun ge=>?_
   rotate_left
   ·have ge:e=0:=by omega
    rw [if_pos ge] at hk
    have ax:=I.x
    have ae:=I.e
    have le5:=I.le
    conv=>whnf
    refine ⟨_,loadA0 aggAi sizAi ax rfl,cw_ ?_⟩
    refine wr_intro (by exact storeA0 sizAi ax rfl (by rfl) (by rfl)) (fun h6 at_h6 ot_h6=>cw_ ?_)
    have b6:h6 be=some (oEr 0):=(ot_h6 _ (Ne.symm hne)).trans ae
    refine wr_intro (by exact storeC0 sizAe b6 (show (0:Nat)<1 by decide) rfl rfl) (fun h7 at_h7 ot_h7=>cw_ ?_)
    have b7:h7 be=some (oEr 0):=at_h7
    have a7:h7 bx=some (oIn y.cs):=(ot_h7 _ hne).trans at_h6
    refine dl_ret rfl (cw_ ?_)
    refine ⟨_,loadA0 aggAi sizAi a7 rfl,cw_ ?_⟩
    refine ⟨_,loadC0 aggAe b7 rfl,cw_ ?_⟩
    exact hk h7 (Hp.le_upd (Hp.le_upd le5 nx ot_h6) ne ot_h7)
   ·rw [if_neg (by omega)] at hk
    conv=>whnf
    have AX:=I.x
    have AE:=I.e
    have LE:=I.le
    refine dl_pan rfl hne AX AE rfl fun hz az bz oz=>(cw_ ?_)
    refine ⟨_,loadA0 aggAi sizAi az rfl,cw_ ?_⟩
    refine ⟨_,loadC0 aggAe bz rfl,cw_ ?_⟩
    refine hk hz fun c o hc=>?_
    have c1:c≠bx:=fun e=>by rw [e,nx] at hc;cases hc
    have c2:c≠be:=fun e=>by rw [e,ne] at hc;cases hc
    rw [oz c c1 c2]
    exact LE _ _ hc
  | false =>
   conv=>whnf
   refine loop_at [52] [] (fun q vs cs h'=>∃ (i:Nat) (y:Ins),i≤r.length∧q=r.length - i∧vs=[.v (zv i)]∧Ip h h' bx be bw y (w :: r)∧fieldsP y (fs.drop i) (r.drop i)=fieldsP ⟨(i0+1:Nat),0,0,0,0,0,aq,rl⟩ fs r ∧ -9223372036854775808≤y.m∧y.m≤9223372036854775807) r.length ⟨0,_,by omega,by omega,rfl,I4,rfl,(show (-9223372036854775808:Int)≤0 by decide),(show (0:Int)≤9223372036854775807 by decide)⟩ ?_
   rintro q vs cs mm bx9 h5 ⟨i,y,hi,rfl,rfl,I,hR,m1,m2⟩
   conv=>whnf
   refine br_ (fun q1=>?_) fun q1=>?_
   ·have hiL:i<r.length:=by omega
    obtain ⟨u,hu⟩:∃ u,r[i]? = some u:=⟨_,List.getElem?_eq_getElem hiL⟩
    obtain ⟨f',hf'⟩:∃ f',fs[i]? = some f':=⟨_,List.getElem?_eq_getElem (by omega)⟩
    have hdr:r.drop i=u :: r.drop (i+1):=by
     rw [List.drop_eq_getElem_cons hiL]
     congr 1
     exact (List.getElem?_eq_some_iff.1 hu).2
    have hdf:fs.drop i=f' :: fs.drop (i+1):=by
     rw [List.drop_eq_getElem_cons (by omega)]
     congr 1
     exact (List.getElem?_eq_some_iff.1 hf').2
    have hul:u.length≤2 ^ 40:=hwl u (by simp [List.mem_of_getElem? hu])
    rw [hdr,hdf,fieldsP_cons] at hR
    unfold fieldP at hR
    conv=>whnf
    refine n_ ?_
    refine ⟨_,loadCA (k:=i+1) (by simp [addr_add,szStr];omega) aggStr I.w (by rw [List.map_cons,List.getElem?_cons_succ,List.getElem?_map,hu];rfl),?_⟩;conv=>whnf
    refine ch_intro f' (by omega) (by rw [Int.toNat_natCast];exact hf') (cw_ ?_)
    refine br_ (fun q100=>?_) fun q100=>?_
    ·have hc:f'=100:=UInt8.toNat_inj.1 (by have:(100:UInt8).toNat=100:=rfl;omega)
     rw [if_pos hc] at hR
     conv=>whnf
     cases hr:Rg.findI u with
     | none =>
      rw [hr] at hR
      simp only at hR
      rw [← hR] at hk
      have AX:=I.x
      have AE:=I.e
      have LE:=I.le
      refine reg_x u (by omega) (fun i1 e=>by rw [hr] at e;cases e) (fun _=>cw_ ?_)
      refine dl_pan rfl hne AX AE rfl fun hz az bz oz=>(cw_ ?_)
      refine ⟨_,loadA0 aggAi sizAi az rfl,cw_ ?_⟩
      refine ⟨_,loadC0 aggAe bz rfl,cw_ ?_⟩
      refine hk hz fun c o hc=>?_
      have c1:c≠bx:=fun e=>by rw [e,nx] at hc;cases hc
      have c2:c≠be:=fun e=>by rw [e,ne] at hc;cases hc
      rw [oz c c1 c2]
      exact LE _ _ hc
     | some v =>
      rw [hr] at hR
      simp only at hR
      refine reg_x u (by omega) (fun i1 e=>?_) (fun e=>by rw [hr] at e;cases e)
      obtain rfl:v=i1:=by rw [hr] at e;exact Option.some.inj e
      conv=>whnf
      refine wr_intro (by exact storeCA (l':=Ins.cs { y with a:=v }) (k:=1) rfl sizIn I.x (by rw [ins_len];decide) rfl rfl rfl) (fun h6 at_h6 ot_h6=>cw_ ?_)
      have I6:Ip h h6 bx be bw { y with a:=v } (w :: r):=I.set nx hne hxw at_h6 ot_h6
      clear at_h6 ot_h6
      conv=>whnf
      refine n_ ?_
      exact ⟨r.length - (i+1),by omega,i+1,_,by omega,rfl,rfl,I6,hR,by first | exact m1 | exact (numA_rng hr).1 | exact (upN_rng (numA_rng hr)).1,by first | exact m2 | exact (numA_rng hr).2 | exact (upN_rng (numA_rng hr)).2⟩
    have c100:f'≠100:=fun e=>q100 (by rw [e];rfl)
    conv=>whnf
    refine br_ (fun q49=>?_) fun q49=>?_
    ·have hc:f'=49:=UInt8.toNat_inj.1 (by have:(49:UInt8).toNat=49:=rfl;omega)
     rw [if_neg c100,if_pos hc] at hR
     conv=>whnf
     cases hr:Rg.findI u with
     | none =>
      rw [hr] at hR
      simp only at hR
      rw [← hR] at hk
      have AX:=I.x
      have AE:=I.e
      have LE:=I.le
      refine reg_x u (by omega) (fun i1 e=>by rw [hr] at e;cases e) (fun _=>cw_ ?_)
      refine dl_pan rfl hne AX AE rfl fun hz az bz oz=>(cw_ ?_)
      refine ⟨_,loadA0 aggAi sizAi az rfl,cw_ ?_⟩
      refine ⟨_,loadC0 aggAe bz rfl,cw_ ?_⟩
      refine hk hz fun c o hc=>?_
      have c1:c≠bx:=fun e=>by rw [e,nx] at hc;cases hc
      have c2:c≠be:=fun e=>by rw [e,ne] at hc;cases hc
      rw [oz c c1 c2]
      exact LE _ _ hc
     | some v =>
      rw [hr] at hR
      simp only at hR
      refine reg_x u (by omega) (fun i1 e=>?_) (fun e=>by rw [hr] at e;cases e)
      obtain rfl:v=i1:=by rw [hr] at e;exact Option.some.inj e
      conv=>whnf
      refine wr_intro (by exact storeCA (l':=Ins.cs { y with b:=v }) (k:=2) rfl sizIn I.x (by rw [ins_len];decide) rfl rfl rfl) (fun h6 at_h6 ot_h6=>cw_ ?_)
      have I6:Ip h h6 bx be bw { y with b:=v } (w :: r):=I.set nx hne hxw at_h6 ot_h6
      clear at_h6 ot_h6
      conv=>whnf
      refine n_ ?_
      exact ⟨r.length - (i+1),by omega,i+1,_,by omega,rfl,rfl,I6,hR,by first | exact m1 | exact (numA_rng hr).1 | exact (upN_rng (numA_rng hr)).1,by first | exact m2 | exact (numA_rng hr).2 | exact (upN_rng (numA_rng hr)).2⟩
    have c49:f'≠49:=fun e=>q49 (by rw [e];rfl)
    conv=>whnf
    refine br_ (fun q50=>?_) fun q50=>?_
    ·have hc:f'=50:=UInt8.toNat_inj.1 (by have:(50:UInt8).toNat=50:=rfl;omega)
     rw [if_neg c100,if_neg c49,if_pos hc] at hR
     conv=>whnf
     cases hr:Rg.findI u with
     | none =>
      rw [hr] at hR
      simp only at hR
      rw [← hR] at hk
      have AX:=I.x
      have AE:=I.e
      have LE:=I.le
      refine reg_x u (by omega) (fun i1 e=>by rw [hr] at e;cases e) (fun _=>cw_ ?_)
      refine dl_pan rfl hne AX AE rfl fun hz az bz oz=>(cw_ ?_)
      refine ⟨_,loadA0 aggAi sizAi az rfl,cw_ ?_⟩
      refine ⟨_,loadC0 aggAe bz rfl,cw_ ?_⟩
      refine hk hz fun c o hc=>?_
      have c1:c≠bx:=fun e=>by rw [e,nx] at hc;cases hc
      have c2:c≠be:=fun e=>by rw [e,ne] at hc;cases hc
      rw [oz c c1 c2]
      exact LE _ _ hc
     | some v =>
      rw [hr] at hR
      simp only at hR
      refine reg_x u (by omega) (fun i1 e=>?_) (fun e=>by rw [hr] at e;cases e)
      obtain rfl:v=i1:=by rw [hr] at e;exact Option.some.inj e
      conv=>whnf
      refine wr_intro (by exact storeCA (l':=Ins.cs { y with c:=v }) (k:=3) rfl sizIn I.x (by rw [ins_len];decide) rfl rfl rfl) (fun h6 at_h6 ot_h6=>cw_ ?_)
      have I6:Ip h h6 bx be bw { y with c:=v } (w :: r):=I.set nx hne hxw at_h6 ot_h6
      clear at_h6 ot_h6
      conv=>whnf
      refine n_ ?_
      exact ⟨r.length - (i+1),by omega,i+1,_,by omega,rfl,rfl,I6,hR,by first | exact m1 | exact (numA_rng hr).1 | exact (upN_rng (numA_rng hr)).1,by first | exact m2 | exact (numA_rng hr).2 | exact (upN_rng (numA_rng hr)).2⟩
    have c50:f'≠50:=fun e=>q50 (by rw [e];rfl)
    conv=>whnf
    refine br_ (fun q105=>?_) fun q105=>?_
    ·have hc:f'=105:=UInt8.toNat_inj.1 (by have:(105:UInt8).toNat=105:=rfl;omega)
     rw [if_neg c100,if_neg c49,if_neg c50,if_pos hc] at hR
     conv=>whnf
     cases hr:numA u with
     | none =>
      rw [hr] at hR
      simp only at hR
      rw [← hR] at hk
      have AX:=I.x
      have AE:=I.e
      have LE:=I.le
      refine num_x (her.le I.le) (hp.le I.le) u (by omega) (fun i1 e=>by rw [hr] at e;cases e) (fun _=>cw_ ?_)
      refine dl_pan rfl hne AX AE rfl fun hz az bz oz=>(cw_ ?_)
      refine ⟨_,loadA0 aggAi sizAi az rfl,cw_ ?_⟩
      refine ⟨_,loadC0 aggAe bz rfl,cw_ ?_⟩
      refine hk hz fun c o hc=>?_
      have c1:c≠bx:=fun e=>by rw [e,nx] at hc;cases hc
      have c2:c≠be:=fun e=>by rw [e,ne] at hc;cases hc
      rw [oz c c1 c2]
      exact LE _ _ hc
     | some v =>
      rw [hr] at hR
      simp only at hR
      refine num_x (her.le I.le) (hp.le I.le) u (by omega) (fun i1 e=>?_) (fun e=>by rw [hr] at e;cases e)
      obtain rfl:v=i1:=by rw [hr] at e;exact Option.some.inj e
      conv=>whnf
      refine wr_intro (by exact storeCA (l':=Ins.cs { y with m:=v }) (k:=4) rfl sizAi64 I.x (by rw [ins_len];decide) rfl rfl rfl) (fun h6 at_h6 ot_h6=>cw_ ?_)
      have I6:Ip h h6 bx be bw { y with m:=v } (w :: r):=I.set nx hne hxw at_h6 ot_h6
      clear at_h6 ot_h6
      conv=>whnf
      refine n_ ?_
      exact ⟨r.length - (i+1),by omega,i+1,_,by omega,rfl,rfl,I6,hR,by first | exact m1 | exact (numA_rng hr).1 | exact (upN_rng (numA_rng hr)).1,by first | exact m2 | exact (numA_rng hr).2 | exact (upN_rng (numA_rng hr)).2⟩
    have c105:f'≠105:=fun e=>q105 (by rw [e];rfl)
    conv=>whnf
    refine br_ (fun q117=>?_) fun q117=>?_
    ·have hc:f'=117:=UInt8.toNat_inj.1 (by have:(117:UInt8).toNat=117:=rfl;omega)
     rw [if_neg c100,if_neg c49,if_neg c50,if_neg c105,if_pos hc] at hR
     conv=>whnf
     cases hr:numA u with
     | none =>
      rw [hr] at hR
      simp only at hR
      rw [← hR] at hk
      have AX:=I.x
      have AE:=I.e
      have LE:=I.le
      refine num_x (her.le I.le) (hp.le I.le) u (by omega) (fun i1 e=>by rw [hr] at e;cases e) (fun _=>cw_ ?_)
      refine dl_pan rfl hne AX AE rfl fun hz az bz oz=>(cw_ ?_)
      refine ⟨_,loadA0 aggAi sizAi az rfl,cw_ ?_⟩
      refine ⟨_,loadC0 aggAe bz rfl,cw_ ?_⟩
      refine hk hz fun c o hc=>?_
      have c1:c≠bx:=fun e=>by rw [e,nx] at hc;cases hc
      have c2:c≠be:=fun e=>by rw [e,ne] at hc;cases hc
      rw [oz c c1 c2]
      exact LE _ _ hc
     | some v =>
      rw [hr] at hR
      simp only at hR
      refine num_x (her.le I.le) (hp.le I.le) u (by omega) (fun i1 e=>?_) (fun e=>by rw [hr] at e;cases e)
      obtain rfl:v=i1:=by rw [hr] at e;exact Option.some.inj e
      conv=>whnf
      refine X.toE (up_x v ?_)
      conv=>whnf
      refine wr_intro (by exact storeCA (l':=Ins.cs { y with m:=upN v }) (k:=4) rfl sizAi64 I.x (by rw [ins_len];decide) rfl rfl rfl) (fun h6 at_h6 ot_h6=>cw_ ?_)
      have I6:Ip h h6 bx be bw { y with m:=upN v } (w :: r):=I.set nx hne hxw at_h6 ot_h6
      clear at_h6 ot_h6
      conv=>whnf
      refine n_ ?_
      exact ⟨r.length - (i+1),by omega,i+1,_,by omega,rfl,rfl,I6,hR,by first | exact m1 | exact (numA_rng hr).1 | exact (upN_rng (numA_rng hr)).1,by first | exact m2 | exact (numA_rng hr).2 | exact (upN_rng (numA_rng hr)).2⟩
    have c117:f'≠117:=fun e=>q117 (by rw [e];rfl)
    conv=>whnf
    refine br_ (fun q99=>?_) fun q99=>?_
    ·have hc:f'=99:=UInt8.toNat_inj.1 (by have:(99:UInt8).toNat=99:=rfl;omega)
     rw [if_neg c100,if_neg c49,if_neg c50,if_neg c105,if_neg c117,if_pos hc] at hR
     conv=>whnf
     cases hr:numA u with
     | none =>
      rw [hr] at hR
      simp only at hR
      rw [← hR] at hk
      have AX:=I.x
      have AE:=I.e
      have LE:=I.le
      refine num_x (her.le I.le) (hp.le I.le) u (by omega) (fun i1 e=>by rw [hr] at e;cases e) (fun _=>cw_ ?_)
      refine dl_pan rfl hne AX AE rfl fun hz az bz oz=>(cw_ ?_)
      refine ⟨_,loadA0 aggAi sizAi az rfl,cw_ ?_⟩
      refine ⟨_,loadC0 aggAe bz rfl,cw_ ?_⟩
      refine hk hz fun c o hc=>?_
      have c1:c≠bx:=fun e=>by rw [e,nx] at hc;cases hc
      have c2:c≠be:=fun e=>by rw [e,ne] at hc;cases hc
      rw [oz c c1 c2]
      exact LE _ _ hc
     | some v =>
      rw [hr] at hR
      simp only at hR
      refine num_x (her.le I.le) (hp.le I.le) u (by omega) (fun i1 e=>?_) (fun e=>by rw [hr] at e;cases e)
      obtain rfl:v=i1:=by rw [hr] at e;exact Option.some.inj e
      conv=>whnf
      refine X.toE (small_x v ?_)
      conv=>whnf
      refine wr_intro (by exact storeCA (l':=Ins.cs { y with s:=smallN v }) (k:=5) rfl sizIn I.x (by rw [ins_len];decide) rfl rfl rfl) (fun h6 at_h6 ot_h6=>cw_ ?_)
      have I6:Ip h h6 bx be bw { y with s:=smallN v } (w :: r):=I.set nx hne hxw at_h6 ot_h6
      clear at_h6 ot_h6
      conv=>whnf
      refine n_ ?_
      exact ⟨r.length - (i+1),by omega,i+1,_,by omega,rfl,rfl,I6,hR,by first | exact m1 | exact (numA_rng hr).1 | exact (upN_rng (numA_rng hr)).1,by first | exact m2 | exact (numA_rng hr).2 | exact (upN_rng (numA_rng hr)).2⟩
    have c99:f'≠99:=fun e=>q99 (by rw [e];rfl)
    conv=>whnf
    rw [if_neg c100,if_neg c49,if_neg c50,if_neg c105,if_neg c117,if_neg c99] at hR
    conv=>whnf
    cases hr:numA u with
    | none =>
     rw [hr] at hR
     simp only at hR
     rw [← hR] at hk
     have AX:=I.x
     have AE:=I.e
     have LE:=I.le
     refine num_x (her.le I.le) (hp.le I.le) u (by omega) (fun i1 e=>by rw [hr] at e;cases e) (fun _=>cw_ ?_)
     refine dl_pan rfl hne AX AE rfl fun hz az bz oz=>(cw_ ?_)
     refine ⟨_,loadA0 aggAi sizAi az rfl,cw_ ?_⟩
     refine ⟨_,loadC0 aggAe bz rfl,cw_ ?_⟩
     refine hk hz fun c o hc=>?_
     have c1:c≠bx:=fun e=>by rw [e,nx] at hc;cases hc
     have c2:c≠be:=fun e=>by rw [e,ne] at hc;cases hc
     rw [oz c c1 c2]
     exact LE _ _ hc
    | some v =>
     rw [hr] at hR
     simp only at hR
     refine num_x (her.le I.le) (hp.le I.le) u (by omega) (fun i1 e=>?_) (fun e=>by rw [hr] at e;cases e)
     obtain rfl:v=i1:=by rw [hr] at e;exact Option.some.inj e
     conv=>whnf
     refine X.toE (small_x v ?_)
     conv=>whnf
     refine wr_intro (by exact storeCA (l':=Ins.cs { y with b:=smallN v }) (k:=2) rfl sizIn I.x (by rw [ins_len];decide) rfl rfl rfl) (fun h6 at_h6 ot_h6=>cw_ ?_)
     have I6:Ip h h6 bx be bw { y with b:=smallN v } (w :: r):=I.set nx hne hxw at_h6 ot_h6
     clear at_h6 ot_h6
     conv=>whnf
     refine n_ ?_
     exact ⟨r.length - (i+1),by omega,i+1,_,by omega,rfl,rfl,I6,hR,by first | exact m1 | exact (numA_rng hr).1 | exact (upN_rng (numA_rng hr)).1,by first | exact m2 | exact (numA_rng hr).2 | exact (upN_rng (numA_rng hr)).2⟩
   have hir:i=r.length:=by omega
   rw [List.drop_of_length_le (by omega),List.drop_of_length_le (by omega)] at hR
   have hR:fieldsP ⟨(i0+1:Nat),0,0,0,0,0,aq,rl⟩ fs r=.ok y:=hR.symm
   rw [hR] at hk
   simp only at hk
   conv=>whnf
   refine ⟨_,loadA0 aggAi sizAi I.x rfl,cw_ ?_⟩
   refine check_x y.op y.a y.b y.c y.m y.s y.aq y.rl m1 m2 ?_
   have hc0:checkF (fmtN y.op) y.a y.b y.c y.m y.s y.aq y.rl=y.chk:=rfl
   rw [hc0]
   generalize y.chk=e at hk ⊢
   conv=>whnf
   refine br_ (fun ge=>?_) fun ge=>?_
   rotate_left
   ·have ge:e=0:=by omega
    rw [if_pos ge] at hk
    have ax:=I.x
    have ae:=I.e
    have le5:=I.le
    conv=>whnf
    refine ⟨_,loadA0 aggAi sizAi ax rfl,cw_ ?_⟩
    refine wr_intro (by exact storeA0 sizAi ax rfl (by rfl) (by rfl)) (fun h6 at_h6 ot_h6=>cw_ ?_)
    have b6:h6 be=some (oEr 0):=(ot_h6 _ (Ne.symm hne)).trans ae
    refine wr_intro (by exact storeC0 sizAe b6 (show (0:Nat)<1 by decide) rfl rfl) (fun h7 at_h7 ot_h7=>cw_ ?_)
    have b7:h7 be=some (oEr 0):=at_h7
    have a7:h7 bx=some (oIn y.cs):=(ot_h7 _ hne).trans at_h6
    refine dl_ret rfl (cw_ ?_)
    refine ⟨_,loadA0 aggAi sizAi a7 rfl,cw_ ?_⟩
    refine ⟨_,loadC0 aggAe b7 rfl,cw_ ?_⟩
    exact hk h7 (Hp.le_upd (Hp.le_upd le5 nx ot_h6) ne ot_h7)
   ·rw [if_neg (by omega)] at hk
    conv=>whnf
    have AX:=I.x
    have AE:=I.e
    have LE:=I.le
    refine dl_pan rfl hne AX AE rfl fun hz az bz oz=>(cw_ ?_)
    refine ⟨_,loadA0 aggAi sizAi az rfl,cw_ ?_⟩
    refine ⟨_,loadC0 aggAe bz rfl,cw_ ?_⟩
    refine hk hz fun c o hc=>?_
    have c1:c≠bx:=fun e=>by rw [e,nx] at hc;cases hc
    have c2:c≠be:=fun e=>by rw [e,ne] at hc;cases hc
    rw [oz c c1 c2]
    exact LE _ _ hc
 ·rw [ho] at hk
  have AX:=a3
  have AE:=b3
  have LE:=l3
  conv=>whnf
  refine dl_pan rfl hne AX AE rfl fun hz az bz oz=>(cw_ ?_)
  refine ⟨_,loadA0 aggAi sizAi az rfl,cw_ ?_⟩
  refine ⟨_,loadC0 aggAe bz rfl,cw_ ?_⟩
  refine hk hz fun c o hc=>?_
  have c1:c≠bx:=fun e=>by rw [e,nx] at hc;cases hc
  have c2:c≠be:=fun e=>by rw [e,ne] at hc;cases hc
  rw [oz c c1 c2]
  exact LE _ _ hc
end
end Go.Proofs.YtdhkjcdneidgaaaGreatDoor
namespace Go.Proofs.YtdhkjcdneidgaaaGreatDoor
open Go Go.Mid Go.RowKit
attribute [local irreducible] mid
theorem chk_ok {x:Ins} (h:x.chk=0):1≤x.op∧x.op≤98∧fmtN x.op≠0∧(0≤x.a∧x.a≤31)∧(0≤x.b∧x.b≤31)∧(0≤x.c∧x.c≤31)∧(0≤x.s∧x.s≤4095)∧fitsN (fmtN x.op) x.m=true∧¬ badF (fieldsL.getD (fmtN x.op) []) x.a x.b x.c x.m x.s x.aq x.rl:=by
 unfold Ins.chk checkF at h
 by_cases h0:fmtN x.op=0
 ·rw [if_pos h0] at h;cases h
 rw [if_neg h0] at h
 by_cases hb:badF (fieldsL.getD (fmtN x.op) []) x.a x.b x.c x.m x.s x.aq x.rl
 ·rw [if_pos hb] at h;cases h
 rw [if_neg hb] at h
 by_cases hr:x.a<0∨31<x.a∨x.b<0∨31<x.b∨x.c<0∨31<x.c
 ·rw [if_pos hr] at h;cases h
 rw [if_neg hr] at h
 by_cases hs:x.s<0∨4095<x.s∨fitsN (fmtN x.op) x.m=false
 ·rw [if_pos hs] at h;cases h
 have hf:fitsN (fmtN x.op) x.m=true:=by
  cases hq:fitsN (fmtN x.op) x.m with
  | true=>rfl
  | false=>exact absurd (.inr (.inr hq)) hs
 have hop:1≤x.op∧x.op≤98:=by
  unfold fmtN at h0
  split at h0
  ·rename_i h2
   refine ⟨?_,by omega⟩
   by_cases hz:x.op=0
   ·rw [hz] at h0;exact absurd (by decide) h0
   ·omega
  ·exact absurd rfl h0
 exact ⟨hop.1,hop.2,h0,by omega,by omega,by omega,by omega,hf,hb⟩
theorem opNames_ne:∀ n ∈ opNames,n≠[]∧n.length≤20:=by decide +kernel
theorem opName_ne {n:Int} (h:1≤n∧n≤98):opName n≠[]∧(opName n).length≤20:=by
 unfold opName
 rw [if_pos h]
 have hi:n.toNat - 1<opNames.length:=by rw [opNames_len];omega
 rw [List.getD_eq_getElem?_getD,List.getElem?_eq_getElem hi]
 exact opNames_ne _ (List.getElem_mem hi)
section
variable {h:Hp} {K:Value→Hp→Prop}
end
end Go.Proofs.YtdhkjcdneidgaaaGreatDoor
namespace Go.Bits
abbrev Piece:=Nat×Nat×Nat
def pieceN (u:Nat) (p:Piece):Nat:=u / 2 ^ p.1 % 2 ^ p.2.1*2 ^ p.2.2
def orP (u:Nat):List Piece→Nat
 | []=>0
 | p :: l=>pieceN u p ||| orP u l
def covers (q:Nat) (p:Piece):Option Nat:=if p.2.2≤q∧q<p.2.2+p.2.1 then some (p.1+(q - p.2.2)) else none
def mx (u:Nat):List Nat→Nat
 | []=>0
 | j :: l=>max (bitN u j) (mx u l)
theorem piece_bit (u:Nat) (p:Piece) (q:Nat):bitN (pieceN u p) q=match covers q p with | some j=>bitN u j | none=>0:=by
 unfold pieceN covers
 rw [bit_mul,bit_mod,bit_div]
 by_cases h1:p.2.2≤q
 ·rw [if_pos h1]
  by_cases h2:q<p.2.2+p.2.1
  ·rw [if_pos (by omega),if_pos ⟨h1,h2⟩]
  ·rw [if_neg (by omega),if_neg (fun h=>h2 h.2)]
 ·rw [if_neg h1,if_neg (fun h=>h1 h.1)]
theorem orP_bit (u:Nat):∀ (l:List Piece) (q:Nat),bitN (orP u l) q=mx u (l.filterMap (covers q))
 | [],q=>by simp [orP,mx,bitN]
 | p :: l,q=>by
  show bitN (pieceN u p ||| orP u l) q=_
  rw [bit_or,piece_bit,orP_bit u l q,List.filterMap_cons]
  cases covers q p with
  | none=>simp
  | some j=>rfl
theorem orP_lt (u:Nat):∀ (l:List Piece),(∀ p ∈ l,p.2.1+p.2.2≤32)→orP u l<2 ^ 32
 | [],_=>(show (0:Nat)<2 ^ 32 by decide)
 | p :: l,h=>by
  have hp:=h p (by simp)
  refine Nat.or_lt_two_pow ?_ (orP_lt u l fun x hx=>h x (by simp [hx]))
  have h1:u / 2 ^ p.1 % 2 ^ p.2.1<2 ^ p.2.1:=Nat.mod_lt _ (Nat.pow_pos (by decide))
  have h2:=Nat.mul_lt_mul_of_pos_right h1 (show 0<2 ^ p.2.2 from Nat.pow_pos (by decide))
  rw [← Nat.pow_add] at h2
  exact Nat.lt_of_lt_of_le h2 (Nat.pow_le_pow_right (by decide) hp)
def layL:Nat→List Piece
 | 2=>[(0,12,20)]
 | 3=>[(5,7,25),(0,5,7)]
 | 4=>[(12,1,31),(5,6,25),(1,4,8),(11,1,7)]
 | 5=>[(12,20,12)]
 | 6=>[(20,1,31),(1,10,21),(11,1,20),(12,8,12)]
 | 7=>[(0,6,20)]
 | 8=>[(0,5,20)]
 | _=>[]
def layP (f u:Nat):Nat:=orP u (layL f)
def immL:Nat→List Piece
 | 2=>[(20,12,0)]
 | 3=>[(25,7,5),(7,5,0)]
 | 4=>[(31,1,12),(7,1,11),(25,6,5),(8,4,1)]
 | 5=>[(12,20,12)]
 | 6=>[(31,1,20),(12,8,12),(20,1,11),(21,10,1)]
 | 7=>[(20,6,0)]
 | 8=>[(20,5,0)]
 | _=>[]
theorem layL_ok:∀ f:Nat,f<15→(∀ p ∈ layL f,p.2.1+p.2.2≤32)∧(∀ p ∈ immL f,p.2.1+p.2.2≤32)∧once (placesL f)=true:=by decide
def placeOf (ps:List Int) (q:Nat):List Nat:=match ps.findIdx? (·==(q:Int)) with
 | some j=>[j]
 | none=>[]
theorem layN_bit (u:Nat) (ps:List Int) (ho:once ps=true) (q:Nat) (hq:q<64):bitN (layFrom u ps 0 0) q=mx u (placeOf ps q):=by
 unfold placeOf
 cases hf:ps.findIdx? (·==(q:Int)) with
 | none =>
  rw [List.findIdx?_eq_none_iff] at hf
  rw [lay_other ps 0 0 q hq (fun hm=>by have:=hf _ hm;simp at this)]
  simp [mx,bitN]
 | some j =>
  rw [List.findIdx?_eq_some_iff_getElem] at hf
  obtain ⟨hj,e,_⟩:=hf
  have e:ps[j]=(q:Int):=by simpa using e
  rw [lay_at ps 0 0 j q hq ho (by rw [List.getElem?_eq_getElem hj,e])]
  simp [mx]
theorem lay_maps:∀ f:Nat,f<15→∀ q:Nat,q<64→(layL f).filterMap (covers q)=placeOf (placesL f) q:=by decide +kernel
theorem lay_eq (f:Nat) (hf:f<15) (u:Nat):layP f u=layN f u:=by
 have hlt:=orP_lt u (layL f) (layL_ok f hf).1
 have hl2:∀ (ps:List Int) (i w:Nat),w<2 ^ 64→layFrom u ps i w<2 ^ 64:=fun ps=>by
  induction ps with
  | nil=>intro i w hw;exact hw
  | cons p ps ih =>
   intro i w hw
   refine ih (i+1) _ ?_
   split
   ·exact put_lt _ _ _ _
   ·exact hw
 refine eq_bits (n:=64) (Nat.lt_trans hlt (by decide)) (hl2 _ 0 0 (by decide)) fun q hq=>?_
 unfold layP layN
 rw [orP_bit,lay_maps f hf q hq,layN_bit u _ (layL_ok f hf).2.2 q hq]
end Go.Bits
