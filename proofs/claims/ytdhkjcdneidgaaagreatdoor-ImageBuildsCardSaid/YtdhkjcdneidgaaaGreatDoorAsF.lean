/-
  Instructions as text: the op of a line's first word.
-/
import Derived.Test.YtdhkjcdneidgaaaGreatDoorRgRegA
import Derived.Test.YtdhkjcdneidgaaaGreatDoorLinS
import Derived.Lib.ParseIntBTie
import Derived.Test.YtdhkjcdneidgaaaGreatDoorMidUb
set_option linter.unusedSimpArgs false
set_option linter.unusedVariables false
set_option maxHeartbeats 8000000
set_option maxRecDepth 10000
set_option linter.unusedSimpArgs false
set_option linter.unusedVariables false
namespace Go.Proofs.YtdhkjcdneidgaaaGreatDoor.Rg
open Go Go.Mid Go.RowKit
attribute [local irreducible] mid
section
variable {h:Hp} {K:Value→Hp→Prop}
def digs:Str:=[48,49,50,51,52,53,54,55,56,57]
theorem isOf_digs:∀ b:UInt8,isOf digs b=dig b:=by
 intro b
 obtain ⟨n,hn,rfl⟩:∃ n:Nat,n<256∧b=UInt8.ofNat n:=⟨b.toNat,b.toNat_lt,by simp⟩
 have key:∀ n:Nat,n<256→isOf digs (UInt8.ofNat n)=dig (UInt8.ofNat n):=by decide +kernel
 exact key n hn
theorem digN_len (n:Nat):(digN n).length≤2:=by unfold digN;split <;> simp
def optV (o:Option Int):Value:=.tuple #[.int .i64 (o.getD 0),.bool o.isSome]
theorem number_x (l:Str) (most:Int) (hl:l.length≤2 ^ 60) (hk:K (optV (numI l most)) h):X Tryz.prog 183 #[.string (bs l),.int .i64 most] h K:=by
 unfold numI at hk
 refine fnv (args:=_) mixed [] [] [] Tryz.func183 rfl (by kernel_rfl) (cw_ ?_)
 refine seq_intro (cw_ ?_)
 refine br_ (fun q1=>?_) fun q1=>?_
 ·subst q1
  rw [if_pos (.inl rfl)] at hk
  conv=>whnf
  exact hk
 conv=>whnf
 refine br_ (fun q2=>?_) fun q2=>?_
 ·rw [if_pos (.inr (.inl (by omega)))] at hk
  conv=>whnf
  exact hk
 conv=>whnf
 obtain ⟨b,r,rfl⟩:∃ b r,l=b :: r:=by
  cases l with
  | nil=>exact absurd rfl q1
  | cons b r=>exact ⟨b,r,rfl⟩
 refine ch_intro (b) (by omega) (by rfl) (cw_ ?_)
 have hb48:(b :: r).head? = some 48↔(b.toNat:Int)=48:=by
  rw [List.head?_cons,Option.some.injEq]
  constructor
  ·intro e;subst e;rfl
  ·intro e;apply UInt8.toNat.inj;show b.toNat=48;omega
 have hnil:(trimB (isOf digs) (b :: r)).dropWhile (isOf digs)=[]↔∀ x ∈ b :: r,dig x=true:=by
  have e:isOf digs=dig:=funext isOf_digs
  rw [e];exact trim_nil (b :: r)
 have fin2:¬ ((b :: r).head? = some 48∧b :: r≠[48])→K (optV (if (∀ x ∈ b :: r,dig x=true) then (if valL (b :: r)>most then none else some (valL (b :: r))) else none)) h:=fun h48=>by
  by_cases hd:∀ x ∈ b :: r,dig x=true
  ·rw [if_pos hd]
   rw [if_neg (fun hx=>by
    rcases hx with hx | hx | hx | hx
    ·cases hx
    ·omega
    ·exact h48 hx
    ·exact hx hd)] at hk
   exact hk
  ·rw [if_neg hd]
   rw [if_pos (.inr (.inr (.inr hd)))] at hk
   exact hk
 have hno:¬ ((b :: r).head? = some 48∧b :: r≠[48])∨((b :: r).head? = some 48∧b :: r≠[48]):=(Classical.em _).symm
 refine br_ (fun q3=>?_) fun q3=>?_
 ·conv=>whnf
  refine seq_intro (cw_ ?_)
  refine br_ (fun q7=>?_) fun q7=>?_
  ·rw [if_pos (.inr (.inr (.inl ⟨hb48.2 q3,q7⟩)))] at hk
   conv=>whnf
   exact hk
  ·have q5:¬ ((b :: r).head? = some 48∧b :: r≠[48]):=fun hx=>hx.2 q7
   clear hk
   conv=>whnf
   refine trim_x (b :: r) digs (by omega) (by decide) (by decide) (by decide) (cw_ ?_)
   refine seq_intro (cw_ ?_)
   refine br_ (fun q4=>?_) fun q4=>?_
   ·rw [hnil] at q4
    have hk:=fin2 q5
    rw [if_neg q4] at hk
    conv=>whnf
    exact hk
   ·rw [hnil] at q4
    have hk:=fin2 q5
    rw [if_pos q4] at hk
    conv=>whnf
    refine atoi_x (b :: r) q4 (by simp) (by rw [List.length_cons] at q2 ⊢;omega) (cw_ ?_)
    refine br_ (fun q6=>?_) fun q6=>?_
    ·rw [if_pos q6] at hk
     conv=>whnf
     exact hk
    ·rw [if_neg q6] at hk
     conv=>whnf
     exact hk
 ·have q5:¬ ((b :: r).head? = some 48∧b :: r≠[48]):=fun hx=>q3 (hb48.1 hx.1)
  clear hk
  conv=>whnf
  refine trim_x (b :: r) digs (by omega) (by decide) (by decide) (by decide) (cw_ ?_)
  refine seq_intro (cw_ ?_)
  refine br_ (fun q4=>?_) fun q4=>?_
  ·rw [hnil] at q4
   have hk:=fin2 q5
   rw [if_neg q4] at hk
   conv=>whnf
   exact hk
  ·rw [hnil] at q4
   have hk:=fin2 q5
   rw [if_pos q4] at hk
   conv=>whnf
   refine atoi_x (b :: r) q4 (by simp) (by rw [List.length_cons] at q2 ⊢;omega) (cw_ ?_)
   refine br_ (fun q6=>?_) fun q6=>?_
   ·rw [if_pos q6] at hk
    conv=>whnf
    exact hk
   ·rw [if_neg q6] at hk
    conv=>whnf
    exact hk
theorem id_x (k:Int) (hk:K (.int .i64 (ofX k)) h):X Tryz.prog 184 #[.int .i64 k] h K:=by
 refine fnv (args:=_) mixed [] [] [] Tryz.func184 rfl (by kernel_rfl) (cw_ ?_)
 exact hk
theorem ten_x (k:Int) (h0:0≤k∧k≤100) (hk:K (.int .i64 (ofA k)) h):X Tryz.prog 185 #[.int .i64 k] h K:=by
 refine fnv (args:=_) mixed [] [] [] Tryz.func185 rfl (by kernel_rfl) (cw_ ?_)
 refine n_ ?_
 exact hk
theorem saved_x (k:Int) (h0:0≤k∧k≤100) (hk:K (.int .i64 (ofS k)) h):X Tryz.prog 186 #[.int .i64 k] h K:=by
 unfold ofS at hk
 refine fnv (args:=_) mixed [] [] [] Tryz.func186 rfl (by kernel_rfl) (cw_ ?_)
 refine br_ (fun q1=>?_) fun q1=>?_
 ·rw [if_pos q1] at hk
  conv=>whnf
  refine n_ ?_
  exact hk
 ·rw [if_neg q1] at hk
  conv=>whnf
  refine n_ ?_
  exact hk
theorem temp_x (k:Int) (h0:0≤k∧k≤100) (hk:K (.int .i64 (ofT k)) h):X Tryz.prog 187 #[.int .i64 k] h K:=by
 unfold ofT at hk
 refine fnv (args:=_) mixed [] [] [] Tryz.func187 rfl (by kernel_rfl) (cw_ ?_)
 refine br_ (fun q1=>?_) fun q1=>?_
 ·rw [if_pos q1] at hk
  conv=>whnf
  refine n_ ?_
  exact hk
 ·rw [if_neg q1] at hk
  conv=>whnf
  refine n_ ?_
  exact hk
theorem place_x {g:FuncId} {f:Int→Int} (hg:callable Tryz.prog g=true) (hf:∀ (k:Int) (K:Value→Hp→Prop),0≤k∧k≤100→K (.int .i64 (f k)) h→X Tryz.prog g #[.int .i64 k] h K) {a:Nat} {c:UInt8} {r:Str} (most:Int) (hl:r.length≤2 ^ 60)
  (ha:h a=some (rowO 9 [.string (bs (c :: r))])) (hk:K (optV ((numI r most).map f)) h):X Tryz.prog 182 #[.int .i64 most,.func (.func g) #[] #[],.pointer (some ⟨a,0,none⟩)] h K:=by
 refine fnv (args:=_) mixed [] [] [] Tryz.func182 rfl (by kernel_rfl) (cw_ ?_)
 refine ⟨_,loadC0 aggStr ha rfl,cw_ ?_⟩
 refine need_intro (by rw [bs_size,List.length_cons];omega) (cw_ ?_)
 refine sub_from (rfl) (cw_ ?_)
 refine number_x r most hl ?_
 cases hn:numI r most with
 | none =>
  rw [hn] at hk
  conv=>whnf
  exact hk
 | some n =>
  rw [hn] at hk
  obtain ⟨k,hk1,rfl,_,_⟩:=numI_some hn
  conv=>whnf
  refine aRunK_call (args:=[.int .i64 k]) rfl hg ?_
  refine hf k _ (by omega) (cw_ ?_)
  exact hk
end
end Go.Proofs.YtdhkjcdneidgaaaGreatDoor.Rg
namespace Go.Proofs.YtdhkjcdneidgaaaGreatDoor.Rg
open Go Go.Mid Go.RowKit
attribute [local irreducible] mid
section
variable {h:Hp} {K:Value→Hp→Prop}
theorem findI_eq (l:Str):findI l=if l=sZero then some 0 else if l=sRa then some 1 else if l=sSp then some 2 else if l=sGp then some 3 else if l=sTp then some 4 else if l=sFp then some 8 else
  match l with
  | []=>none
  | c :: r=>if c=120 then (numI r 31).map ofX else if c=97 then (numI r 7).map ofA else if c=115 then (numI r 11).map ofS else if c=116 then (numI r 6).map ofT else none:=rfl
theorem u8_eq {b c:UInt8}:(b.toNat:Int)=((c.toNat:Nat):Int)↔b=c:=by
 constructor
 ·intro e;apply UInt8.toNat.inj;omega
 ·rintro rfl;rfl
theorem find_x (l:Str) (hl:l.length≤2 ^ 60) (hk:K (optV (findI l)) h):X Tryz.prog 147 #[.string (bs l)] h K:=by
 rw [findI_eq] at hk
 refine X.forget ?_
 refine fnv (args:=_) mixed [] [] [] Tryz.func147 rfl (by kernel_rfl) (cw_ ?_)
 refine new_intro (o:=rowO 9 [.string (bs l)]) (fun a H n_a le_a at_a ot_a=>cw_ ?_)
 refine ⟨_,loadC0 aggStr at_a rfl,cw_ ?_⟩
 refine seq_intro (b:=sZero) (cw_ ?_)
 refine br_ (fun q1=>?_) fun q1=>?_
 ·rw [if_pos q1] at hk
  conv=>whnf
  exact ⟨h,le_a,hk⟩
 rw [if_neg q1] at hk
 conv=>whnf
 refine seq_intro (b:=sRa) (cw_ ?_)
 refine br_ (fun q2=>?_) fun q2=>?_
 ·rw [if_pos q2] at hk
  conv=>whnf
  exact ⟨h,le_a,hk⟩
 rw [if_neg q2] at hk
 conv=>whnf
 refine seq_intro (b:=sSp) (cw_ ?_)
 refine br_ (fun q3=>?_) fun q3=>?_
 ·rw [if_pos q3] at hk
  conv=>whnf
  exact ⟨h,le_a,hk⟩
 rw [if_neg q3] at hk
 conv=>whnf
 refine seq_intro (b:=sGp) (cw_ ?_)
 refine br_ (fun q4=>?_) fun q4=>?_
 ·rw [if_pos q4] at hk
  conv=>whnf
  exact ⟨h,le_a,hk⟩
 rw [if_neg q4] at hk
 conv=>whnf
 refine seq_intro (b:=sTp) (cw_ ?_)
 refine br_ (fun q5=>?_) fun q5=>?_
 ·rw [if_pos q5] at hk
  conv=>whnf
  exact ⟨h,le_a,hk⟩
 rw [if_neg q5] at hk
 conv=>whnf
 refine seq_intro (b:=sFp) (cw_ ?_)
 refine br_ (fun q6=>?_) fun q6=>?_
 ·rw [if_pos q6] at hk
  conv=>whnf
  exact ⟨h,le_a,hk⟩
 rw [if_neg q6] at hk
 conv=>whnf
 refine seq_intro (b:=[]) (cw_ ?_)
 refine br_ (fun q7=>?_) fun q7=>?_
 ·subst q7
  conv=>whnf
  exact ⟨h,le_a,hk⟩
 obtain ⟨c,r,rfl⟩:∃ c r,l=c :: r:=by
  cases l with
  | nil=>exact absurd rfl q7
  | cons c r=>exact ⟨c,r,rfl⟩
 rw [List.length_cons] at hl
 simp only at hk
 conv=>whnf
 refine ⟨_,loadC0 aggStr at_a rfl,cw_ ?_⟩
 refine ch_intro (c) (by omega) (by rfl) (cw_ ?_)
 refine br_ (fun q8=>?_) fun q8=>?_
 ·rw [if_pos ((u8_eq (c:=120)).1 q8)] at hk
  conv=>whnf
  refine place_x (f:=ofX) (by kernel_rfl) (fun k K _ hK=>id_x k hK) 31 (by omega) at_a (cw_ ?_)
  exact ⟨h,le_a,hk⟩
 rw [if_neg (fun e=>q8 ((u8_eq (c:=120)).2 e))] at hk
 conv=>whnf
 refine br_ (fun q9=>?_) fun q9=>?_
 ·rw [if_pos ((u8_eq (c:=97)).1 q9)] at hk
  conv=>whnf
  refine place_x (f:=ofA) (by kernel_rfl) (fun k K hk hK=>ten_x k hk hK) 7 (by omega) at_a (cw_ ?_)
  exact ⟨h,le_a,hk⟩
 rw [if_neg (fun e=>q9 ((u8_eq (c:=97)).2 e))] at hk
 conv=>whnf
 refine br_ (fun q10=>?_) fun q10=>?_
 ·rw [if_pos ((u8_eq (c:=115)).1 q10)] at hk
  conv=>whnf
  refine place_x (f:=ofS) (by kernel_rfl) (fun k K hk hK=>saved_x k hk hK) 11 (by omega) at_a (cw_ ?_)
  exact ⟨h,le_a,hk⟩
 rw [if_neg (fun e=>q10 ((u8_eq (c:=115)).2 e))] at hk
 conv=>whnf
 refine br_ (fun q11=>?_) fun q11=>?_
 ·rw [if_pos ((u8_eq (c:=116)).1 q11)] at hk
  conv=>whnf
  refine place_x (f:=ofT) (by kernel_rfl) (fun k K hk hK=>temp_x k hk hK) 6 (by omega) at_a (cw_ ?_)
  exact ⟨h,le_a,hk⟩
 rw [if_neg (fun e=>q11 ((u8_eq (c:=116)).2 e))] at hk
 conv=>whnf
 exact ⟨h,le_a,hk⟩
theorem rdigits_x (n:Nat) (hn:n<100) (hk:K (.string (bs (digN n))) h):X Tryz.prog 160 #[.int .i64 n] h K:=by
 have e1:∀ n:Nat,n<10→(digs.take ((n:Int)+1).toNat).drop (n:Int).toNat=[dgt n]:=by decide +kernel
 unfold digN at hk
 refine fnv (args:=_) mixed [] [] [] Tryz.func160 rfl (by kernel_rfl) (cw_ ?_)
 refine br_ (fun q1=>?_) fun q1=>?_
 ·have hn:n<10:=by omega
  rw [if_pos hn] at hk
  conv=>whnf
  refine n_ ?_
  refine need_intro ⟨by omega,by show _≤((10:Nat):Int);omega⟩ ?_
  conv=>whnf
  refine need_intro (by omega) (cw_ ?_)
  refine sub_by (l:=digs) (e1 n hn) (cw_ ?_)
  exact hk
 ·rw [if_neg (by omega)] at hk
  conv=>whnf
  have h1:(n:Int).tdiv 10=((n / 10:Nat):Int):=by rw [Int.tdiv_eq_ediv_of_nonneg (by omega)];omega
  have h2:(n:Int).tmod 10=((n % 10:Nat):Int):=by rw [Int.tmod_eq_emod_of_nonneg (by omega)];omega
  rw [h1]
  refine n_ ?_
  refine n_ ?_
  refine n_ ?_
  refine need_intro ⟨by omega,by show _≤((10:Nat):Int);omega⟩ ?_
  conv=>whnf
  refine need_intro (by omega) (cw_ ?_)
  refine sub_by (l:=digs) (e1 (n / 10) (by omega)) (cw_ ?_)
  rw [h2]
  refine n_ ?_
  refine need_intro ⟨by omega,by show _≤((10:Nat):Int);omega⟩ ?_
  conv=>whnf
  refine need_intro (by omega) (cw_ ?_)
  refine sub_by (l:=digs) (e1 (n % 10) (by omega)) (cw_ ?_)
  refine cat_intro (by simp) (cw_ ?_)
  exact hk
end
end Go.Proofs.YtdhkjcdneidgaaaGreatDoor.Rg
namespace Go.Proofs.YtdhkjcdneidgaaaGreatDoor
open Go Go.Mid Go.RowKit
attribute [local irreducible] mid
def numA (s:Str):Option Int:=match Lib.parseIntB 64 s with
 | .ok v=>if Lib.itoa v=s then some v else none
 | _=>none
def okV (o:Option Int):Value:=.tuple #[.int .i64 (o.getD 0),.bool o.isSome]
def smallN (n:Int):Int:=if n<0∨1048576<n then -1 else n
def upN (n:Int):Int:=if n < -1099511627776∨1099511627776<n then 1 else n*4096
def orderS (f:Nat):Str:=match f with
 | 1=>[100,49,50]
 | 2 | 7 | 8=>[100,49,105]
 | 3=>[50,49,105]
 | 4=>[49,50,105]
 | 5=>[100,117]
 | 6=>[100,105]
 | 9=>[100,99,49]
 | 10=>[100,99,110]
 | 11=>[100,50,49]
 | 12=>[100,49]
 | 14=>[49,50]
 | _=>[]
section
variable {h:Hp} {K:Value→Hp→Prop} {E:List PanicEntry→Hp→Prop}
theorem formatA_x (hp:Pow h) (n:Int) (h0 : -9223372036854775808≤n) (h1:n≤9223372036854775807) (hk:K (.string (bs (Lib.itoa n))) h):X Tryz.prog 140 #[.int .i64 n,.int .i64 10] h K :=
 X.ofGrow (fun w0 w s=>Tryz.strconv_FormatInt_10 n h0 h1 w (hp.tab s)) hk
theorem small_x (n:Int) (hk:K (.int .i64 (smallN n)) h):X Tryz.prog 150 #[.int .i64 n] h K:=by
 unfold smallN at hk
 refine fnv (args:=_) mixed [] [] [] Tryz.func150 rfl (by kernel_rfl) (cw_ ?_)
 refine br_ (fun q1=>?_) fun q1=>?_
 ·rw [if_pos (.inl (by omega))] at hk
  conv=>whnf
  exact hk
 ·conv=>whnf
  refine br_ (fun q2=>?_) fun q2=>?_
  ·rw [if_pos (.inr (by omega))] at hk
   exact hk
  ·rw [if_neg (by omega)] at hk
   exact hk
theorem up_x (n:Int) (hk:K (.int .i64 (upN n)) h):X Tryz.prog 149 #[.int .i64 n] h K:=by
 unfold upN at hk
 refine fnv (args:=_) mixed [] [] [] Tryz.func149 rfl (by kernel_rfl) (cw_ ?_)
 refine br_ (fun q1=>?_) fun q1=>?_
 ·rw [if_pos (.inl (by omega))] at hk
  conv=>whnf
  exact hk
 ·conv=>whnf
  refine br_ (fun q2=>?_) fun q2=>?_
  ·rw [if_pos (.inr (by omega))] at hk
   exact hk
  ·rw [if_neg (by omega)] at hk
   refine n_ ?_
   exact hk
theorem order_x (f:Nat) (hf:f<15) (hk:K (.string (bs (orderS f))) h):X Tryz.prog 145 #[.int .i64 f] h K:=by
 have:f=0∨f=1∨f=2∨f=3∨f=4∨f=5∨f=6∨f=7∨f=8∨f=9∨f=10∨f=11∨f=12∨f=13∨f=14:=by omega
 rcases this with rfl | rfl | rfl | rfl | rfl | rfl | rfl | rfl | rfl | rfl | rfl | rfl | rfl | rfl | rfl <;>
 ·refine fnv (args:=_) mixed [] [] [] Tryz.func145 rfl (by kernel_rfl) (cw_ ?_)
  exact hk
theorem anumber_x (he:Er h) (hp:Pow h) (s:Str) (hs:s.length≤2 ^ 40) (hk:K (okV (numA s)) h):X Tryz.prog 107 #[.string (bs s)] h K:=by
 refine fnv (args:=_) mixed [] [] [] Tryz.func107 rfl (by kernel_rfl) (cw_ ?_)
 refine parseInt_x he s hs (fun v hv=>?_) (fun v T p hno=>?_)
 ·have hn:numA s=if Lib.itoa v=s then some v else none:=by unfold numA;rw [hv]
  have hb:=Lib.parseIntB_bounds hv
  have hb : -9223372036854775808≤v∧v<9223372036854775808:=hb
  rw [hn] at hk
  conv=>whnf
  refine formatA_x hp v hb.1 (by omega) (cw_ ?_)
  by_cases hi:Lib.itoa v=s
  ·rw [if_pos hi] at hk
   refine seq_true (by rw [hi]) (cw_ ?_)
   exact hk
  ·rw [if_neg hi] at hk
   refine seq_false (hi) (cw_ ?_)
   exact hk
 ·have hn:numA s=none:=by
   unfold numA
   cases hx:Lib.parseIntB 64 s with
   | ok v'=>exact absurd hx (hno v')
   | _=>rfl
  rw [hn] at hk
  conv=>whnf
  exact hk
theorem reg_x (l:Str) (hl:l.length≤2 ^ 60) (hk:∀ i,Rg.findI l=some i→K (.int .i64 i) h) (he:Rg.findI l=none→E [{ v:=stopV 9,recovered:=false }] h):XE Tryz.prog 146 #[.string (bs l)] h K E:=by
 refine fnu (args:=_) mixed [] [] [] [(999998,[3])] Tryz.func146 rfl (by kernel_rfl) (cw_ ?_)
 refine Rg.find_x l hl ?_
 cases hf:Rg.findI l with
 | none =>
  conv=>whnf
  exact he hf
 | some i =>
  conv=>whnf
  exact hk i hf
theorem num_x (her:Er h) (hp:Pow h) (l:Str) (hl:l.length≤2 ^ 40) (hk:∀ i,numA l=some i→K (.int .i64 i) h) (he:numA l=none→E [{ v:=stopV 2,recovered:=false }] h):XE Tryz.prog 148 #[.string (bs l)] h K E:=by
 refine fnu (args:=_) mixed [] [] [] [(999998,[3])] Tryz.func148 rfl (by kernel_rfl) (cw_ ?_)
 refine anumber_x her hp l hl ?_
 cases hf:numA l with
 | none =>
  conv=>whnf
  exact he hf
 | some i =>
  conv=>whnf
  exact hk i hf
end
end Go.Proofs.YtdhkjcdneidgaaaGreatDoor
namespace Go.Proofs.YtdhkjcdneidgaaaGreatDoor
open Go Go.Mid Go.RowKit
attribute [local irreducible] mid
section
variable {h:Hp} {K:Value→Hp→Prop} {E:List PanicEntry→Hp→Prop}
theorem aggBl:isAggT Tryz.prog 4=some false:=by kernel_rfl
theorem sizBl:sizeT Tryz.prog 4=some 1:=by kernel_rfl
theorem sizY0:sizeT Tryz.prog 87=some 1:=by kernel_rfl
theorem kfind_x (l:Str) (hk1:∀ i:Nat,opNames[i]? = some l→(∀ j,j<i→opNames[j]? ≠ some l)→K (.tuple #[.int .i64 (i+1:Nat),.bool true]) h) (hk0:(∀ j:Nat,opNames[j]? ≠ some l)→K (.tuple #[.int .i64 0,.bool false]) h) :
  X Tryz.prog 179 #[.string (bs l)] h K:=by
 refine X.forget ?_
 have hk1':∀ (i:Nat) (h':Hp),opNames[i]? = some l→(∀ j,j<i→opNames[j]? ≠ some l)→h.le h'→(∃ g:Hp,g.le h'∧K (.tuple #[.int .i64 (i+1:Nat),.bool true]) g):=fun i h' e1 e2 hle=>⟨h,hle,hk1 i e1 e2⟩
 have hk0':∀ (h':Hp),(∀ j:Nat,opNames[j]? ≠ some l)→h.le h'→(∃ g:Hp,g.le h'∧K (.tuple #[.int .i64 0,.bool false]) g):=fun h' e1 hle=>⟨h,hle,hk0 e1⟩
 clear hk1 hk0
 refine fnv (args:=_) mixed [] [] [] Tryz.func179 rfl (by kernel_rfl) (cw_ ?_)
 refine new_intro (o:=rowO 9 [.string (bs l)]) (fun b h1 n_b le_b at_b ot_b=>cw_ ?_)
 refine new_intro (o:=rowO 87 [.int .i64 0]) (fun r h2 n_r le_r at_r ot_r=>cw_ ?_)
 refine new_intro (o:=rowO 4 [.bool false]) (fun q h3 n_q le_q at_q ot_q=>cw_ ?_)
 have b2:=le_q b _ (le_r b _ at_b)
 have r2:=le_q r _ at_r
 have hbr:b≠r:=Hp.ne n_r at_b
 have hrq:r≠q:=Hp.ne n_q at_r
 have hbq:b≠q:=Hp.ne n_q (le_r b _ at_b)
 have l2:h.le h3:=Hp.le_trans le_b (Hp.le_trans le_r le_q)
 have nr:h r=none:=Hp.none_le le_b n_r
 have nq:h q=none:=Hp.none_le (Hp.le_trans le_b le_r) n_q
 refine all_x (cw_ ?_)
 refine ⟨fun lp lc hl hy=>?_⟩
 have dlb:b≠lp:=Hp.ne hl b2
 have dlr:r≠lp:=Hp.ne hl r2
 have dlq:q≠lp:=Hp.ne hl at_q
 have nl:h lp=none:=Hp.none_le l2 hl
 refine all1_x (yieldV lp) fun it hit=>?_
 have dit:it≠lp:=fun e=>by subst e;rw [Hp.set_same] at hit;cases hit
 have hit2:h3 it=none:=by rw [Hp.set_other _ _ dit] at hit;exact hit
 have ditb:b≠it:=Hp.ne hit2 b2
 have ditr:r≠it:=Hp.ne hit2 r2
 have ditq:q≠it:=Hp.ne hit2 at_q
 have niit:h it=none:=Hp.none_le l2 hit2
 refine ⟨fun i h'=>h' lp=some (lob lc .ready none)∧h' b=some (rowO 9 [.string (bs l)])∧h' r=some (rowO 87 [.int .i64 0])∧h' q=some (rowO 4 [.bool false])∧h.le h'∧∀ j,j<i→opNames[j]? ≠ some l,fun o=>?_,fun i h' o hI=>?_,fun i x h' hx hI=>?_,fun h' hI=>?_⟩
 ·exact ⟨by rw [Hp.set_other _ _ (Ne.symm dit),Hp.set_same],by rw [Hp.set_other _ _ ditb,Hp.set_other _ _ dlb];exact b2,by rw [Hp.set_other _ _ ditr,Hp.set_other _ _ dlr];exact r2,by rw [Hp.set_other _ _ ditq,Hp.set_other _ _ dlq];exact at_q,Hp.le_keep (Hp.le_keep l2 nl) niit,fun j hj=>absurd hj (Nat.not_lt_zero _)⟩
 ·obtain ⟨a1,a2,a3,a6,a4,a5⟩:=hI
  exact ⟨by rw [Hp.set_other _ _ (Ne.symm dit)];exact a1,by rw [Hp.set_other _ _ ditb];exact a2,by rw [Hp.set_other _ _ ditr];exact a3,by rw [Hp.set_other _ _ ditq];exact a6,Hp.le_keep a4 niit,a5⟩
 ·obtain ⟨a1,a2,a3,a6,a4,a5⟩:=hI
  have b2':(h'.set lp (lob lc .busy none)) b=some (rowO 9 [.string (bs l)]):=by rw [Hp.set_other _ _ dlb];exact a2
  have r2':(h'.set lp (lob lc .busy none)) r=some (rowO 87 [.int .i64 0]):=by rw [Hp.set_other _ _ dlr];exact a3
  have q2':(h'.set lp (lob lc .busy none)) q=some (rowO 4 [.bool false]):=by rw [Hp.set_other _ _ dlq];exact a6
  have lp2:(h'.set lp (lob lc .busy none)) lp=some (lob lc .busy none):=Hp.set_same _ _ _
  have le2:h.le (h'.set lp (lob lc .busy none)):=Hp.le_keep a4 nl
  have it2:(h'.set lp (lob lc .busy none)) it=h' it:=Hp.set_other _ _ dit
  refine hy _ _ _ ⟨rfl,a1,cw_ ?_⟩
  refine ⟨a1,?_⟩
  generalize h'.set lp (lob lc .busy none)=hb at b2' r2' q2' lp2 le2 it2 ⊢
  conv=>whnf
  refine ⟨_,loadC0 aggSt b2' rfl,cw_ ?_⟩
  by_cases hxl:x=l
  ·subst hxl
   refine seq_true (rfl) (cw_ ?_)
   refine wr_intro (by exact storeC0 sizY0 r2' (Nat.zero_lt_succ 0) rfl rfl) (fun h5 at_h5 ot_h5=>cw_ ?_)
   have q5:h5 q=some (rowO 4 [.bool false]):=(ot_h5 q (Ne.symm hrq)).trans q2'
   have lp5:h5 lp=some (lob lc .busy none):=(ot_h5 lp (Ne.symm dlr)).trans lp2
   have le5:h.le h5:=fun c o e=>by rw [ot_h5 c (Hp.ne nr e)];exact le2 _ _ e
   conv=>whnf
   refine wr_intro (by exact storeC0 sizBl q5 (Nat.zero_lt_succ 0) rfl rfl) (fun h6 at_h6 ot_h6=>cw_ ?_)
   have lp6:h6 lp=some (lob lc .busy none):=(ot_h6 lp (Ne.symm dlq)).trans lp5
   have le6:h.le h6:=fun c o e=>by rw [ot_h6 c (Hp.ne nq e)];exact le5 _ _ e
   have r6:h6 r=some (rowO 87 [.int .i64 (i+1:Nat)]):=(ot_h6 r hrq).trans at_h5
   refine ⟨lp6,?_⟩
   refine ⟨false,rfl,⟨(fun e=>by cases e),fun _=>?_⟩⟩
   refine ⟨.done,some .ret,Hp.set_same _ _ _,by simp,?_⟩
   rw [Hp.set_set]
   have r7:(h6.set lp (lob lc .exhausted (some .ret))) r=some (rowO 87 [.int .i64 (i+1:Nat)]):=by rw [Hp.set_other _ _ dlr];exact r6
   have q7:(h6.set lp (lob lc .exhausted (some .ret))) q=some (rowO 4 [.bool true]):=by rw [Hp.set_other _ _ dlq];exact at_h6
   have fin:=hk1' i (h6.set lp (lob lc .exhausted (some .ret))) hx a5 (Hp.le_keep le6 nl)
   conv=>whnf
   refine ⟨_,loadC0 aggY0 r7 rfl,cw_ ?_⟩
   refine ⟨_,loadC0 aggBl q7 rfl,cw_ ?_⟩
   exact fin
  ·refine seq_false (hxl) (cw_ ?_)
   refine ⟨lp2,true,rfl,fun _=>⟨⟨Hp.set_same _ _ _,by rw [Hp.set_other _ _ dlb];exact b2',by rw [Hp.set_other _ _ dlr];exact r2',by rw [Hp.set_other _ _ dlq];exact q2',Hp.le_keep le2 nl,fun j hj=>?_⟩,by rw [Hp.set_other _ _ dit];exact it2⟩,fun e=>by cases e⟩
   rcases Nat.lt_succ_iff_lt_or_eq.1 hj with hj | rfl
   ·exact a5 j hj
   ·rw [hx];exact fun e=>hxl (Option.some.inj e)
 ·obtain ⟨a1,a2,a3,a6,a4,a5⟩:=hI
  refine ⟨.ready,none,a1,by simp,?_⟩
  have r6:(h'.set lp (lob lc .exhausted none)) r=some (rowO 87 [.int .i64 0]):=by rw [Hp.set_other _ _ dlr];exact a3
  have q6:(h'.set lp (lob lc .exhausted none)) q=some (rowO 4 [.bool false]):=by rw [Hp.set_other _ _ dlq];exact a6
  have le6:h.le (h'.set lp (lob lc .exhausted none)):=Hp.le_keep a4 nl
  have fin:∀ H:Hp,h.le H→∃ g:Hp,g.le H∧K (.tuple #[.int .i64 0,.bool false]) g:=fun H hH=>hk0' H (fun j=>by
   rcases Nat.lt_or_ge j 98 with hj | hj
   ·exact a5 j hj
   ·rw [List.getElem?_eq_none (by rw [opNames_len];exact hj)];exact fun e=>by cases e) hH
  generalize h'.set lp (lob lc .exhausted none)=hc at r6 q6 le6 ⊢
  conv=>whnf
  refine wr_intro (by exact storeC0 sizY0 r6 (Nat.zero_lt_succ 0) rfl rfl) (fun h5 at_h5 ot_h5=>cw_ ?_)
  have q7:h5 q=some (rowO 4 [.bool false]):=(ot_h5 q (Ne.symm hrq)).trans q6
  conv=>whnf
  refine wr_intro (by exact storeC0 sizBl q7 (Nat.zero_lt_succ 0) rfl rfl) (fun h7 at_h7 ot_h7=>cw_ ?_)
  have r8:h7 r=some (rowO 87 [.int .i64 0]):=(ot_h7 r hrq).trans at_h5
  have q8:h7 q=some (rowO 4 [.bool false]):=at_h7
  have le8:h.le h7:=fun c o e=>by rw [ot_h7 c (Hp.ne nq e),ot_h5 c (Hp.ne nr e)];exact le6 _ _ e
  conv=>whnf
  refine ⟨_,loadC0 aggY0 r8 rfl,cw_ ?_⟩
  refine ⟨_,loadC0 aggBl q8 rfl,cw_ ?_⟩
  exact fin _ le8
theorem within_x (a f t:Int) (hk:K (.bool (decide (f≤a∧a≤t))) h):X Tryz.prog 208 #[.int .i64 a,.int .i64 f,.int .i64 t] h K:=by
 refine fnv (args:=_) mixed [] [] [] Tryz.func208 rfl (by kernel_rfl) (cw_ ?_)
 refine br_ (fun q1=>?_) fun q1=>?_
 ·conv=>whnf
  exact kq hk (bI (by rw [Bool.eq_iff_iff];simp;omega))
 ·conv=>whnf
  exact kq hk (bI (by rw [Bool.eq_iff_iff];simp;omega))
end
end Go.Proofs.YtdhkjcdneidgaaaGreatDoor
namespace Go.Proofs.YtdhkjcdneidgaaaGreatDoor
open Go Go.Mid Go.RowKit
attribute [local irreducible] mid
def classN (n:Int):Int:=if 1≤n∧n≤2 then 2 else if 3≤n∧n≤4 then 3 else if 5≤n∧n≤10 then 4 else if 11≤n∧n≤17 then 5 else if 18≤n∧n≤21 then 6 else if (22≤n∧n≤49)∨(54≤n∧n≤66) then 1 else if 50≤n∧n≤51 then 9 else if 67≤n∧n≤88 then 7 else if 89≤n∧n≤94 then 8 else if (52≤n∧n≤53)∨(95≤n∧n≤98) then 10 else 0
section
variable {h:Hp} {K:Value→Hp→Prop} {E:List PanicEntry→Hp→Prop}
theorem class_x (n:Int) (hk:K (.int .i64 (classN n)) h):X Tryz.prog 181 #[.int .i64 n] h K:=by
 unfold classN at hk
 refine fnv (args:=_) mixed [] [] [] Tryz.func181 rfl (by kernel_rfl) (cw_ ?_)
 refine within_x n 1 2 (cw_ ?_)
 refine br_ (fun q0=>?_) fun q0=>?_
 ·rw [if_pos (by omega)] at hk
  conv=>whnf
  exact hk
 rw [if_neg (by omega)] at hk
 conv=>whnf
 refine within_x n 3 4 (cw_ ?_)
 refine br_ (fun q1=>?_) fun q1=>?_
 ·rw [if_pos (by omega)] at hk
  conv=>whnf
  exact hk
 rw [if_neg (by omega)] at hk
 conv=>whnf
 refine within_x n 5 10 (cw_ ?_)
 refine br_ (fun q2=>?_) fun q2=>?_
 ·rw [if_pos (by omega)] at hk
  conv=>whnf
  exact hk
 rw [if_neg (by omega)] at hk
 conv=>whnf
 refine within_x n 11 17 (cw_ ?_)
 refine br_ (fun q3=>?_) fun q3=>?_
 ·rw [if_pos (by omega)] at hk
  conv=>whnf
  exact hk
 rw [if_neg (by omega)] at hk
 conv=>whnf
 refine within_x n 18 21 (cw_ ?_)
 refine br_ (fun q4=>?_) fun q4=>?_
 ·rw [if_pos (by omega)] at hk
  conv=>whnf
  exact hk
 rw [if_neg (by omega)] at hk
 conv=>whnf
 refine within_x n 22 49 (cw_ ?_)
 refine br_ (fun q5=>?_) fun q5=>?_
 ·rw [if_pos (by omega)] at hk
  conv=>whnf
  refine bt_ ?_
  exact hk
 conv=>whnf
 refine within_x n 54 66 (cw_ ?_)
 refine br_ (fun r5=>?_) fun r5=>?_
 ·rw [if_pos (by omega)] at hk
  conv=>whnf
  exact hk
 rw [if_neg (by omega)] at hk
 conv=>whnf
 refine within_x n 50 51 (cw_ ?_)
 refine br_ (fun q6=>?_) fun q6=>?_
 ·rw [if_pos (by omega)] at hk
  conv=>whnf
  exact hk
 rw [if_neg (by omega)] at hk
 conv=>whnf
 refine within_x n 67 88 (cw_ ?_)
 refine br_ (fun q7=>?_) fun q7=>?_
 ·rw [if_pos (by omega)] at hk
  conv=>whnf
  exact hk
 rw [if_neg (by omega)] at hk
 conv=>whnf
 refine within_x n 89 94 (cw_ ?_)
 refine br_ (fun q8=>?_) fun q8=>?_
 ·rw [if_pos (by omega)] at hk
  conv=>whnf
  exact hk
 rw [if_neg (by omega)] at hk
 conv=>whnf
 refine within_x n 52 53 (cw_ ?_)
 refine br_ (fun q9=>?_) fun q9=>?_
 ·rw [if_pos (by omega)] at hk
  conv=>whnf
  refine bt_ ?_
  exact hk
 conv=>whnf
 refine within_x n 95 98 (cw_ ?_)
 refine br_ (fun r9=>?_) fun r9=>?_
 ·rw [if_pos (by omega)] at hk
  conv=>whnf
  exact hk
 rw [if_neg (by omega)] at hk
 conv=>whnf
 exact hk
end
end Go.Proofs.YtdhkjcdneidgaaaGreatDoor
namespace Go.Proofs.YtdhkjcdneidgaaaGreatDoor
open Go Go.Mid Go.RowKit
attribute [local irreducible] mid
def opIx (l:Str):Option Nat:=opNames.findIdx? (·==l)
theorem opIx_some {l:Str} {i:Nat} (h1:opNames[i]? = some l) (h2:∀ j,j<i→opNames[j]? ≠ some l):opIx l=some i:=by
 unfold opIx
 obtain ⟨hi,e⟩:=List.getElem?_eq_some_iff.1 h1
 rw [List.findIdx?_eq_some_iff_getElem]
 refine ⟨hi,by simpa using e,fun j hj=>?_⟩
 have:=h2 j hj
 rw [List.getElem?_eq_getElem (by omega)] at this
 simpa using fun e=>this (by rw [e])
theorem opIx_none {l:Str} (h:∀ j:Nat,opNames[j]? ≠ some l):opIx l=none:=by
 unfold opIx
 rw [List.findIdx?_eq_none_iff]
 intro x hx
 obtain ⟨i,hi⟩:=List.mem_iff_getElem?.1 hx
 simpa using fun e=>h i (by rw [hi,e])
theorem opIx_lt {l:Str} {i:Nat} (h:opIx l=some i):i<98:=by
 unfold opIx at h
 rw [List.findIdx?_eq_some_iff_getElem] at h
 obtain ⟨hi,_⟩:=h
 rwa [opNames_len] at hi
def opA (l:Str):Option (Nat×Bool×Bool):=match opIx l with
 | some i=>some (i,false,false)
 | none=>if Lib.lastIndexByte (bs l) 46<0 then none else match opIx (l.take (Lib.lastIndexByte (bs l) 46).toNat) with
  | none=>none
  | some i=>if classN (i+1:Nat)≠7 then none else
   if l.drop (Lib.lastIndexByte (bs l) 46).toNat=[46,97,113] then some (i,true,false) else
   if l.drop (Lib.lastIndexByte (bs l) 46).toNat=[46,114,108] then some (i,false,true) else
   if l.drop (Lib.lastIndexByte (bs l) 46).toNat=[46,97,113,114,108] then some (i,true,true) else none
def insnO (i:Nat) (aq rl:Bool):Value:=.agg #[.int .i64 (i+1:Nat),.int .i64 0,.int .i64 0,.int .i64 0,.int .i64 0,.int .i64 0,.bool aq,.bool rl]
section
variable {h:Hp} {K:Value→Hp→Prop} {E:List PanicEntry→Hp→Prop}
theorem lastIndex_x (s:Str) (hs:s.length≤2 ^ 40) (hk:K (.int .i64 (Lib.lastIndexByte (bs s) 46)) h):X Tryz.prog 180 #[.string (bs s),.int .u8 46] h K:=by
 refine X.ofBelow (v:=.int .i64 (Lib.lastIndexByte (bs s) 46)) (fun w0 w t=>?_) hk
 refine (Tryz.strings_LastIndexByte (bs s) 46 (by rw [bs_size];omega) w).mono fun e w' hh=>⟨hh.1,by rw [hh.2];exact Below.refl _ _⟩
theorem last_range (l:Str) : -1≤Lib.lastIndexByte (bs l) 46∧Lib.lastIndexByte (bs l) 46<l.length:=by
 have:=Lib.lastIndexByte_spec (bs l) 46
 rw [bs_size] at this
 rcases this with ⟨e,_⟩ | ⟨i,hi,e,_⟩ <;> omega
theorem kfind2_x (l:Str) (hk:∀ v,v=(match opIx l with
  | some i=>.tuple #[.int .i64 (i+1:Nat),.bool true]
  | none=>.tuple #[.int .i64 0,.bool false])→K v h):X Tryz.prog 179 #[.string (bs l)] h K:=by
 refine kfind_x l (fun i e1 e2=>?_) (fun e=>?_)
 ·exact hk _ (by rw [opIx_some e1 e2])
 ·exact hk _ (by rw [opIx_none e])
theorem op_x (l:Str) (hl:l.length≤2 ^ 40) (hk:∀ i aq rl,opA l=some (i,aq,rl)→K (insnO i aq rl) h) (he:opA l=none→E [{ v:=stopV 9,recovered:=false }] h):XE Tryz.prog 144 #[.string (bs l)] h K E:=by
 unfold opA at hk he
 obtain ⟨r1,r2⟩:=last_range l
 refine fnu (args:=_) mixed [(2,2)] [] [] [(999998,[6,9,17])] Tryz.func144 rfl (by kernel_rfl) (cw_ ?_)
 refine kfind2_x l fun v hv=>?_
 cases h1:opIx l with
 | some i =>
  rw [h1] at hv hk
  simp only at hv hk
  subst hv
  conv=>whnf
  exact hk i false false rfl
 | none =>
  rw [h1] at hv hk he
  simp only at hv hk he
  subst hv
  conv=>whnf
  refine lastIndex_x l hl ?_
  generalize Lib.lastIndexByte (bs l) 46=at_ at r1 r2 hk he ⊢
  conv=>whnf
  refine br_ (fun q1=>?_) fun q1=>?_
  ·rw [if_pos (by omega)] at he
   conv=>whnf
   exact he rfl
  ·rw [if_neg (by omega)] at he hk
   conv=>whnf
   refine n_ ?_ (hc:=by exact ⟨by omega,by rw [bs_size];omega⟩)
   refine sub_by (m:=l.take at_.toNat) rfl (cw_ ?_)
   refine kfind2_x (l.take at_.toNat) fun v2 hv2=>?_
   cases h2:opIx (l.take at_.toNat) with
   | none =>
    rw [h2] at hv2 he
    simp only at hv2 he
    subst hv2
    conv=>whnf
    exact he trivial
   | some i =>
    rw [h2] at hv2 he hk
    simp only at hv2 he hk
    subst hv2
    conv=>whnf
    refine class_x _ (cw_ ?_)
    by_cases hc:classN (i+1:Nat)=7
    ·rw [if_neg (by simpa using hc)] at he hk
     refine bf_ ?_ (by simpa using hc)
     refine n_ ?_ (hc:=by exact ⟨by omega,by rw [bs_size];omega⟩)
     refine sub_from (m:=l.drop at_.toNat) rfl (cw_ ?_)
     generalize l.drop at_.toNat=d at he hk ⊢
     by_cases d1:d=[46,97,113]
     ·rw [if_pos d1] at hk
      refine seq_true (d1) (cw_ ?_)
      exact hk i true false rfl
     rw [if_neg d1] at hk he
     refine seq_false (d1) (cw_ ?_)
     by_cases d2:d=[46,114,108]
     ·rw [if_pos d2] at hk
      refine seq_true (d2) (cw_ ?_)
      exact hk i false true rfl
     rw [if_neg d2] at hk he
     refine seq_false (d2) (cw_ ?_)
     by_cases d3:d=[46,97,113,114,108]
     ·rw [if_pos d3] at hk
      refine seq_true (d3) (cw_ ?_)
      exact hk i true true rfl
     rw [if_neg d3] at he
     refine seq_false (d3) (cw_ ?_)
     exact he rfl
    ·rw [if_pos (by simpa using hc)] at he
     refine bt_ ?_ (by simpa using hc)
     exact he rfl
end
end Go.Proofs.YtdhkjcdneidgaaaGreatDoor
