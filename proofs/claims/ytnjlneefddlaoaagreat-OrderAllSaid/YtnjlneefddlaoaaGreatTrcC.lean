/-
  Lines of asks: sorted, each once.
-/
import Derived.Test.YtnjlneefddlaoaaGreatTrcB
import Derived.Test.YtnjlneefddlaoaaGreatShelf
set_option linter.unusedSimpArgs false
set_option linter.unusedVariables false
set_option maxHeartbeats 8000000
set_option maxRecDepth 10000
set_option linter.unusedSimpArgs false
set_option linter.unusedVariables false
namespace Go.Proofs.YtnjlneefddlaoaaGreat
open Go Go.Mid Go.RowKit
abbrev rfXTrcC0:Go.Mid.RF:=[(1,1),(6,1),(9,1),(11,1),(14,1),(16,1),(19,1),(21,1),(23,1),(26,1)]
attribute [local irreducible] mid
section
variable {h:Hp} {K:Value→Hp→Prop}
def pieL (a:Ak):List Nat:=if mayB a=false then [] else if a.cut=0 then runL a.addr a.size.toNat else runL a.addr a.cut.toNat++runL a.next (a.size - a.cut).toNat
theorem pieces_x (a:Ak) (ha:a.ok) (hk:∀ (s':Value) (L':List Pc) (h':Hp),Owns h h' 166 3 s' L'.length (L'.flatMap Pc.cs)→(∀ p ∈ L',p.a<18446744073709551616)→L'.map (fun p=>p.a / 64)=pieL a→L'.length≤4→K s' h'):X Tryz.prog 97 #[a.ac] h K:=by
 have h1:=ha.addr
 have h2:=ha.next
 unfold pieL at hk
 refine fnv (args:=_) mixed rfXTrcC0 [] [] Tryz.func97 rfl (by kernel_rfl) (cw_ ?_)
 refine may_x a (cw_ ?_)
 refine bsel_intro (fun q1=>?_) (fun q1=>?_)
 ·have q1:mayB a=false:=by simpa using q1
  rw [if_pos q1] at hk
  conv=>whnf
  exact hk _ [] _ (Owns.nil (Hp.le_refl _)) (fun p hp=>by cases hp) rfl (by simp)
 have q1:mayB a=true:=by simpa using q1
 obtain ⟨m1,m2,m3,m4⟩:=(mayB_iff a).1 q1
 rw [if_neg (by simp [q1])] at hk
 conv=>whnf
 refine br_ (fun q2=>?_) fun q2=>?_
 ·rw [if_pos q2] at hk
  conv=>whnf
  refine run_x (k:=h) (.slice none 0 0) [] a.addr a.size 0 h1 m1 m2 (by omega) (by omega) (by simp) (Owns.nil (Hp.le_refl _)) fun s' L' h' hO hL hm hl=>(cw_ ?_)
  exact hk s' L' h' hO hL hm (by omega)
 ·rw [if_neg q2] at hk
  conv=>whnf
  refine run_x (k:=h) (.slice none 0 0) [] a.addr a.cut 0 h1 (by omega) (by omega) (by omega) (by omega) (by simp) (Owns.nil (Hp.le_refl _)) fun s' L' h' hO hL hm hl=>?_
  refine ⟨trivial,cw_ ?_⟩
  refine n_ ?_
  refine n_ ?_
  refine run_x (k:=h) s' L' a.next (a.size - a.cut) (8*a.cut) h2 (by omega) (by omega) (by omega) (by omega) (by omega) hO fun s2 L2 h2 hO2 hL2 hm2 hl2=>?_
  refine ⟨trivial,cw_ ?_⟩
  exact hk s2 (L'++L2) h2 hO2 (fun p hp=>(List.mem_append.1 hp).elim (hL p) (hL2 p)) (by rw [List.map_append,hm,hm2]) (by rw [List.length_append];omega)
abbrev uv (n:Nat):Value:=.int .u64 n
theorem less_x (a b:Nat) (hk:K (.bool (decide (a<b))) h):X Tryz.prog 128 #[uv a,uv b] h K:=by
 have nan:∀ (x:Nat) (K:Value→Hp→Prop),K (.bool false) h→X Tryz.prog 138 #[uv x] h K:=fun x K hk=>by
  refine fnv (args:=_) mixed [] [] [] Tryz.func138 rfl (by kernel_rfl) (cw_ ?_)
  exact kq hk (bI (by simp))
 refine fnv (args:=_) mixed [] [] [] Tryz.func128 rfl (by kernel_rfl) (cw_ ?_)
 refine nan a _ (cw_ ?_)
 exact kq hk (bI (by rw [Bool.eq_iff_iff];simp))
abbrev Srt (l:List Nat):Prop:=l.Pairwise (·≤·)
theorem srt_mid {A1 A2:List Nat} {x:Nat} (h:Srt (A1++A2)) (h1:∀ y ∈ A1,y≤x) (h2:∀ y ∈ A2,x≤y):Srt (A1++x :: A2):=by
 rw [Srt,List.pairwise_append] at h ⊢
 refine ⟨h.1,List.pairwise_cons.2 ⟨h2,h.2.1⟩,fun a ha b hb=>?_⟩
 rcases List.mem_cons.1 hb with rfl | hb
 ·exact h1 a ha
 ·exact h.2.2 a ha b hb
theorem insertion_x {b cap:Nat} {L:List Nat} {rest:List Value} (hb:h b=some (rowO 52 (L.map uv++rest))) (hL:L.length≤12) (hcap:L.length≤cap)
  (hk:∀ L' h',Srt L'→L'.Perm L→h' b=some (rowO 52 (L'.map uv++rest))→(∀ c,c≠b→h' c=h c)→K (.tuple #[]) h'):X Tryz.prog 122 #[.slice (some ⟨b,0,none⟩) L.length cap,.int .i64 0,.int .i64 L.length] h K:=by
 have hnil:L=[]→Srt L:=fun e=>by subst e;exact List.Pairwise.nil
 refine fnv (args:=_) mixed [] [] [] Tryz.func122 rfl (by kernel_rfl) (cw_ ?_)
 refine n_ ?_
 refine loop_at [6] [] (fun r vs _ h'=>∃ (i:Nat) (A B:List Nat),r=L.length+1 - i∧vs=[.v (.int .i64 i)]∧1≤i∧(A++B).Perm L∧Srt A∧(A.length=i∨(L.length<i∧A++B=L∧L=[]))∧h' b=some (rowO 52 ((A++B).map uv++rest))∧∀ c,c≠b→h' c=h c) L.length ?_ ?_
 ·cases L with
  | nil=>exact ⟨1,[],[],by simp,rfl,Nat.le_refl _,List.Perm.refl _,List.Pairwise.nil,.inr ⟨by simp,rfl,rfl⟩,hb,fun _ _=>rfl⟩
  | cons x L=>exact ⟨1,[x],L,by simp,rfl,Nat.le_refl _,List.Perm.refl _,List.pairwise_singleton _ _,.inl rfl,hb,fun _ _=>rfl⟩
 rintro r vs cs mm bx h1 ⟨i,A,B,rfl,rfl,i1,hp,hA,hAl,hb1,ho1⟩
 have hlen:=hp.length_eq
 rw [List.length_append] at hlen
 conv=>whnf
 refine br_ (fun q1=>?_) fun q1=>?_
 ·have hAi:A.length=i:=hAl.resolve_right fun hh=>by omega
  obtain ⟨x,B',rfl⟩:∃ x B',B=x :: B':=by
   cases B with
   | nil=>simp at hlen;omega
   | cons x B'=>exact ⟨x,B',rfl⟩
  simp only [List.length_cons] at hlen
  conv=>whnf
  refine loop_at [7] [] (fun r vs _ h'=>∃ (A1 A2:List Nat),r=A1.length∧vs=[.v (.int .i64 A1.length)]∧(A1++x :: A2++B').Perm L∧Srt (A1++A2)∧(∀ y ∈ A2,x≤y)∧A1.length+A2.length=i∧h' b=some (rowO 52 ((A1++x :: A2++B').map uv++rest))∧∀ c,c≠b→h' c=h c) A.length ⟨A,[],rfl,by show [MV.v (Value.int .i64 (i:Int))]=_;rw [hAi],by rw [List.append_assoc];exact hp,by rw [List.append_nil];exact hA,fun y hy=>(by cases hy),by simp [hAi],by rw [List.append_assoc];exact hb1,ho1⟩ ?_
  rintro r vs cs mm2 bx2 h2 ⟨A1,A2,rfl,rfl,hp2,hs2,hx2,hl2,hb2,ho2⟩
  have hgx:((A1++x :: A2++B').map uv++rest)[A1.length]? = some (uv x):=by
   rw [List.append_assoc,List.map_append,List.append_assoc,List.getElem?_append_right (by simp)]
   simp
  conv=>whnf
  refine br_ (fun q2=>?_) fun q2=>?_
  ·obtain ⟨A0,y,rfl⟩:∃ A0 y,A1=A0++[y]:=by
    rcases List.eq_nil_or_concat A1 with rfl | ⟨A0,y,e⟩
    ·simp at q2
    ·exact ⟨A0,y,by simpa using e⟩
   have hl0:(A0++[y]).length=A0.length+1:=by simp
   have hgy:((A0++[y]++x :: A2++B').map uv++rest)[A0.length]? = some (uv y):=by
    simp only [List.append_assoc,List.map_append]
    rw [List.getElem?_append_right (by simp)]
    simp
   have hb12:(A0++[y]).length≤12:=by omega
   conv=>whnf
   refine n_ ?_
   refine ⟨_,loadI aggU hb2 rfl hgx,cw_ ?_⟩
   refine n_ ?_
   refine n_ ?_
   refine ⟨_,loadI aggU hb2 (by omega) hgy,cw_ ?_⟩
   refine less_x x y ?_
   refine ⟨trivial,cw_ ?_⟩
   refine br_ (fun q3=>?_) fun q3=>?_
   ·conv=>whnf
    refine n_ ?_
    refine n_ ?_
    refine n_ ?_
    refine ⟨_,loadI aggU hb2 (by omega) hgy,cw_ ?_⟩
    refine n_ ?_
    refine ⟨_,loadI aggU hb2 rfl hgx,cw_ ?_⟩
    refine n_ ?_
    have lall:((A0++[y]++x :: A2++B').map uv++rest).length=A0.length+1+(A2.length+1)+B'.length+rest.length:=by simp;omega
    refine wr_intro (by exact storeI (z:=uv y) sizU hb2 rfl (by rw [lall,hl0];omega) rfl rfl) (fun h3 at_h3 ot_h3=>cw_ ?_)
    refine ⟨trivial,cw_ ?_⟩
    refine n_ ?_
    refine wr_intro (by exact storeI (z:=uv x) sizU at_h3 (j:=A0.length) (by omega) (by rw [List.length_set,lall];omega) rfl rfl) (fun h4 at_h4 ot_h4=>cw_ ?_)
    refine ⟨trivial,cw_ ?_⟩
    refine n_ ?_
    have hrow:((((A0++[y]++x :: A2++B').map uv++rest).set (A0++[y]).length (uv y)).set A0.length (uv x))=(A0++x :: (y :: A2)++B').map uv++rest:=by
     simp only [List.append_assoc,List.map_append,List.map_cons,List.map_nil,List.cons_append,List.nil_append,List.length_append,List.length_cons,List.length_nil]
     rw [List.set_append_right _ _ (by simp)]
     simp
    have at5:h4 b=some (rowO 52 ((A0++x :: (y :: A2)++B').map uv++rest)):=by rw [← hrow];exact at_h4
    refine ⟨A0.length,by omega,A0,y :: A2,rfl,?_,?_,?_,?_,?_,at5,fun c hc=>by rw [ot_h4 c hc,ot_h3 c hc];exact ho2 c hc⟩
    ·show [MV.v (Value.int .i64 (((A0++[y]).length:Int) - 1))]=_
     rw [hl0,show ((A0.length+1:Nat):Int) - 1=(A0.length:Int) by omega]
    ·refine List.Perm.trans ?_ hp2
     simp only [List.append_assoc,List.cons_append,List.nil_append]
     exact (List.Perm.swap y x (A2++B')).append_left A0
    ·simpa using hs2
    ·intro z hz
     rcases List.mem_cons.1 hz with rfl | hz
     ·omega
     ·exact hx2 z hz
    ·simp only [List.length_append,List.length_cons,List.length_nil] at hl2 ⊢
     omega
   ·have hle:∀ z ∈ A0++[y],z≤x:=by
     intro z hz
     have hs3:Srt (A0++[y]):=(List.pairwise_append.1 hs2).1
     rcases List.mem_append.1 hz with hz | hz
     ·have:=(List.pairwise_append.1 hs3).2.2 z hz y (by simp)
      omega
     ·rw [List.mem_singleton] at hz;omega
    conv=>whnf
    refine n_ ?_
    refine ⟨L.length+1 - (i+1),by omega,i+1,_,B',rfl,rfl,by omega,hp2,srt_mid hs2 hle hx2,.inl ?_,hb2,ho2⟩
    simp only [List.length_append,List.length_cons,List.length_nil] at hl2 ⊢
    omega
  ·have hle:∀ y ∈ A1,y≤x:=by
    have:A1=[]:=by
     apply List.eq_nil_of_length_eq_zero
     omega
    subst this
    intro y hy;cases hy
   conv=>whnf
   refine n_ ?_
   refine ⟨L.length+1 - (i+1),by omega,i+1,_,B',rfl,rfl,by omega,hp2,srt_mid hs2 hle hx2,.inl ?_,hb2,ho2⟩
   simp only [List.length_append,List.length_cons,List.length_nil] at hl2 ⊢
   omega
 ·have hAL:(A++B).Perm L∧Srt (A++B):=by
   refine ⟨hp,?_⟩
   rcases hAl with e | ⟨_,e1,e2⟩
   ·have:B=[]:=by
     apply List.eq_nil_of_length_eq_zero
     omega
    subst this
    rw [List.append_nil];exact hA
   ·rw [e1,e2];exact List.Pairwise.nil
  conv=>whnf
  exact hk _ _ hAL.2 hAL.1 hb1 ho1
theorem blen_x (n:Nat) (hn:n≤12) (hk:∀ m:Int,K (.int .i64 m) h):X Tryz.prog 120 #[.int .u64 n] h K :=
 X.ofBelow (fun w0 w s=>(Tryz.bits_Len n w (by omega) (by omega)).mono fun e w' hh=>⟨hh.1,by rw [hh.2];exact Below.refl _ _⟩) (hk _)
theorem pdq_x {b cap:Nat} {L:List Nat} {rest:List Value} (lim:Int) (hb:h b=some (rowO 52 (L.map uv++rest))) (hL:L.length≤12) (hcap:L.length≤cap)
  (hk:∀ L' h',Srt L'→L'.Perm L→h' b=some (rowO 52 (L'.map uv++rest))→(∀ c,c≠b→h' c=h c)→K (.tuple #[]) h'):X Tryz.prog 119 #[.slice (some ⟨b,0,none⟩) L.length cap,.int .i64 0,.int .i64 L.length,.int .i64 lim] h K:=by
 refine fnv (args:=_) mixed [] [] [] Tryz.func119 rfl (by kernel_rfl) (cw_ ?_)
 refine loop_step (cw_ ?_)
 refine n_ ?_
 refine bt_ ?_
 refine insertion_x hb hL hcap fun L' h' hs hp hb' ho'=>(cw_ ?_)
 exact hk L' h' hs hp hb' ho'
theorem insertion0_x (base:Option Addr) (cap:Nat) (hk:K (.tuple #[]) h):X Tryz.prog 122 #[.slice base 0 cap,.int .i64 0,.int .i64 0] h K:=by
 refine fnv (args:=_) mixed [] [] [] Tryz.func122 rfl (by kernel_rfl) (cw_ ?_)
 refine n_ ?_
 refine loop_step (cw_ ?_)
 exact hk
theorem pdq0_x (base:Option Addr) (cap:Nat) (lim:Int) (hk:K (.tuple #[]) h):X Tryz.prog 119 #[.slice base 0 cap,.int .i64 0,.int .i64 0,.int .i64 lim] h K:=by
 refine fnv (args:=_) mixed [] [] [] Tryz.func119 rfl (by kernel_rfl) (cw_ ?_)
 refine loop_step (cw_ ?_)
 refine n_ ?_
 refine insertion0_x base cap (cw_ ?_)
 exact hk
theorem sort_x {k:Hp} {s:Value} {L:List Nat} (hO:Owns k h 52 1 s L.length (L.map uv)) (hL:L.length≤12)
  (hk:∀ L' h',Srt L'→L'.Perm L→Owns k h' 52 1 s L'.length (L'.map uv)→K (.tuple #[]) h'):X Tryz.prog 100 #[s] h K:=by
 by_cases hn:L=[]
 ·subst hn
  obtain ⟨a,c,rfl⟩:=hO.shape
  refine fnv (args:=_) mixed [] [] [] Tryz.func100 rfl (by kernel_rfl) (cw_ ?_)
  refine n_ ?_
  refine blen_x 0 (by decide) fun m=>(cw_ ?_)
  refine pdq0_x a c m (cw_ ?_)
  exact hk [] h List.Pairwise.nil (List.Perm.refl _) hO
 ·have hpos:0<L.length:=List.length_pos_iff.2 hn
  obtain ⟨ob,g,hle,hno⟩:=hO
  obtain ⟨hl,⟨_,_,e⟩ | ⟨b,cap,rest,rfl,rfl,hcap,hrest,hb⟩⟩:=g
  ·omega
  have hkb:=hno b rfl
  refine fnv (args:=_) mixed [] [] [] Tryz.func100 rfl (by kernel_rfl) (cw_ ?_)
  refine n_ ?_
  refine blen_x L.length hL fun m=>(cw_ ?_)
  refine pdq_x m hb hL hcap fun L' h' hs hp hb' ho'=>(cw_ ?_)
  have hll:=hp.length_eq
  refine hk L' h' hs hp ⟨some b,⟨by simp,.inr ⟨b,cap,rest,rfl,by rw [hll],by omega,by rw [hll];exact hrest,hb'⟩⟩,fun c o e=>?_,hno⟩
  by_cases hc:c=b
  ·subst hc;rw [hkb] at e;cases e
  ·rw [ho' c hc];exact hle _ _ e
end
end Go.Proofs.YtnjlneefddlaoaaGreat
