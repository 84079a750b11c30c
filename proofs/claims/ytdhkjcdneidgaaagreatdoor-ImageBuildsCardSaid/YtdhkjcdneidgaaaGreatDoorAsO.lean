/-
  Instructions as words: the document's places of a number's bits; numbers laid, and read (printed by a program).
-/
import Derived.Test.YtdhkjcdneidgaaaGreatDoorLinS
import Derived.Test.YtdhkjcdneidgaaaGreatDoorBitW
import Derived.Test.YtdhkjcdneidgaaaGreatDoorImmP
set_option linter.unusedSimpArgs false
set_option linter.unusedVariables false
set_option maxHeartbeats 8000000
set_option maxRecDepth 10000
set_option linter.unusedSimpArgs false
set_option linter.unusedVariables false
namespace Go.Proofs.YtdhkjcdneidgaaaGreatDoor
open Go Go.Mid Go.RowKit
attribute [local irreducible] mid
section
variable {h:Hp} {K:Value→Hp→Prop}
theorem dig10:∀ n:Nat,n<10→(([48,49,50,51,52,53,54,55,56,57]:Str).take ((n:Int)+1).toNat).drop (n:Int).toNat=[UInt8.ofNat (48+n)]:=by decide +kernel
theorem rplain_x (u:Nat) (hu:u<18446744073709551616) (hk:K (.string (bs (Lib.decDigits u))) h):X Tryz.prog 156 #[.int .u64 u] h K:=by
 have hlen:=dec_len hu
 have step:∀ (n:Nat) (s:Str),Lib.decDigits u=(if n<10 then [] else Lib.decDigits (n / 10))++s→9<n→Lib.decDigits u=(if n / 10<10 then [] else Lib.decDigits (n / 10 / 10))++(UInt8.ofNat (48+n / 10 % 10) :: s):=fun n s e hn=>by
  rw [if_neg (by omega)] at e
  rw [e,Lib.decDigits]
  by_cases h2:n / 10<10
  ·rw [dif_pos h2,if_pos h2,Nat.mod_eq_of_lt h2];rfl
  ·rw [dif_neg h2,if_neg h2,List.append_assoc];rfl
 have first:Lib.decDigits u=(if u<10 then [] else Lib.decDigits (u / 10))++[UInt8.ofNat (48+u % 10)]:=by
  rw [Lib.decDigits]
  by_cases h2:u<10
  ·rw [dif_pos h2,if_pos h2,Nat.mod_eq_of_lt h2];rfl
  ·rw [dif_neg h2,if_neg h2]
 have dgt:∀ n:Nat,(([48,49,50,51,52,53,54,55,56,57]:Str).take ((n:Int).tmod 10+1).toNat).drop ((n:Int).tmod 10).toNat=[UInt8.ofNat (48+n % 10)]:=fun n=>dig10 (n % 10) (Nat.mod_lt _ (by decide))
 have tm:∀ n:Nat,(n:Int).tmod 10=((n % 10:Nat):Int):=fun n=>rfl
 have td:∀ n:Nat,(n:Int).tdiv 10=((n / 10:Nat):Int):=fun n=>rfl
 refine fnv (args:=_) mixed [] [] [] Tryz.func156 rfl (by kernel_rfl) (cw_ ?_)
 refine ov_u64 (by rw [tm];omega) (cw_ ?_)
 refine n_ ?_ (hc:=by exact ⟨by rw [tm];omega,by rw [tm];show _≤((10:Nat):Int);omega⟩)
 refine n_ ?_ (hc:=by exact ⟨by rw [tm];omega,by rw [tm];omega⟩)
 refine sub_by (dgt u) (cw_ ?_)
 refine loop_at [0,4] [] (fun r vs _ h'=>h=h'∧∃ (n:Nat) (s:Str),n≤u∧r=n∧vs=[.v (.int .u64 n),.v (.string (bs s))]∧Lib.decDigits u=(if n<10 then [] else Lib.decDigits (n / 10))++s) u ⟨rfl,u,_,Nat.le_refl _,rfl,rfl,first⟩ ?_
 rintro n vs cs mm bx _ ⟨rfl,_,s,hnu,rfl,rfl,hs⟩
 have hls:s.length≤20:=by rw [hs,List.length_append] at hlen;omega
 conv=>whnf
 refine br_ (fun q1=>?_) fun q1=>?_
 ·have hn:9<n:=by omega
  conv=>whnf
  rw [td]
  refine ov_u64 (by omega) (cw_ ?_)
  refine ov_u64 (by rw [tm];omega) (cw_ ?_)
  refine n_ ?_ (hc:=by exact ⟨by rw [tm];omega,by rw [tm];show _≤((10:Nat):Int);omega⟩)
  refine n_ ?_ (hc:=by exact ⟨by rw [tm];omega,by rw [tm];omega⟩)
  refine sub_by (dgt (n / 10)) (cw_ ?_)
  refine cat_intro (by simp;omega) (cw_ ?_)
  refine ⟨n / 10,by omega,rfl,n / 10,_,by omega,rfl,rfl,?_⟩
  exact step n s hs hn
 ·have hn:n<10:=by omega
  rw [if_pos hn,List.nil_append] at hs
  rw [hs] at hk
  conv=>whnf
  exact hk
end
end Go.Proofs.YtdhkjcdneidgaaaGreatDoor
namespace Go.Proofs.YtdhkjcdneidgaaaGreatDoor
open Go Go.Mid Go.RowKit
attribute [local irreducible] mid
section
variable {h:Hp} {K:Value→Hp→Prop}
theorem wrap_u64 (x:Int):IntKind.u64.wrap x=x % 18446744073709551616:=by
 unfold IntKind.wrap
 simp [IntKind.signed,IntKind.bits]
theorem rDigits_x (n:Int) (h0 : -9223372036854775808≤n) (h1:n≤9223372036854775807) (hk:K (.string (bs (Lib.itoa n))) h):X Tryz.prog 116 #[.int .i64 n] h K:=by
 unfold Lib.itoa at hk
 have hl:=dec_len (u:=n.natAbs) (by omega)
 refine fnv (args:=_) mixed [] [] [] Tryz.func116 rfl (by kernel_rfl) (cw_ ?_)
 refine br_ (fun q1=>?_) fun q1=>?_
 ·rw [if_pos q1] at hk
  conv=>whnf
  refine ov_by (y:=n+18446744073709551616) (by rw [wrap_u64];omega) (cw_ ?_)
  refine ov_by (y:=(n.natAbs:Int)) (by rw [wrap_u64];omega) (cw_ ?_)
  refine rplain_x n.natAbs (by omega) (cw_ ?_)
  refine cat_intro (by simp;omega) (cw_ ?_)
  exact hk
 ·rw [if_neg (by omega)] at hk
  conv=>whnf
  refine ov_by (y:=(n.toNat:Int)) (by rw [wrap_u64];omega) (cw_ ?_)
  refine rplain_x n.toNat (by omega) (cw_ ?_)
  exact hk
end
end Go.Proofs.YtdhkjcdneidgaaaGreatDoor
namespace Go.Proofs.YtdhkjcdneidgaaaGreatDoor
open Go Go.Mid Go.RowKit Go.Bits
attribute [local irreducible] mid
theorem Owns.lit {k h:Hp} {el n b:Nat} {cs:List Value} (hle:k.le h) (hk:k b=none) (hb:h b=some (rowO el cs)) (hl:cs.length=n):Owns k h el 1 (.slice (some ⟨b,0,none⟩) n n) n cs :=
 ⟨some b,⟨by omega,.inr ⟨b,n,[],rfl,rfl,Nat.le_refl _,by simp,by rw [List.append_nil];exact hb⟩⟩,hle,fun c e=>by cases e;exact hk⟩
abbrev jv (n:Int):Value:=.int .i64 n
theorem map_succ {f:Nat→Int} (l:List Value) (i:Nat):(l++(List.range (i+1)).map fun k=>jv (f k))=(l++(List.range i).map fun k=>jv (f k))++[jv (f i)]:=by
 rw [List.range_succ,List.map_append,List.append_assoc];rfl
theorem fits_eq (f:Nat) (n:Int):fitsN f n=Go.Bits.fits f n:=by
 match f with
 | 0 | 1 | 2 | 3 | 4 | 5 | 6 | 7 | 8=>rfl
 | f+9=>rfl
section
variable {h:Hp} {K:Value→Hp→Prop}
theorem infInt:Tryz.prog.info? 3=some Tryz.prog.types[3]:=by kernel_rfl
theorem places0_x (hk:∀ sl h',Owns h h' 3 1 sl (placesL 0).length ((placesL 0).map jv)→K (.tuple #[sl,.bool (signedB 0)]) h'):X Tryz.prog 123 #[.string (bs [])] h K:=by
 refine fnv (args:=_) mixed [] [] [] Tryz.func123 rfl (by kernel_rfl) (cw_ ?_)
 iterate 7 (refine seq_false (by decide) ?_;conv=>whnf)
 exact hk _ _ (Owns.nil (Hp.le_refl _))
theorem places1_x (hk:∀ sl h',Owns h h' 3 1 sl (placesL 1).length ((placesL 1).map jv)→K (.tuple #[sl,.bool (signedB 1)]) h'):X Tryz.prog 123 #[.string (bs [82])] h K:=by
 refine fnv (args:=_) mixed [] [] [] Tryz.func123 rfl (by kernel_rfl) (cw_ ?_)
 iterate 7 (refine seq_false (by decide) ?_;conv=>whnf)
 exact hk _ _ (Owns.nil (Hp.le_refl _))
theorem places2_x (hk:∀ sl h',Owns h h' 3 1 sl (placesL 2).length ((placesL 2).map jv)→K (.tuple #[sl,.bool (signedB 2)]) h'):X Tryz.prog 123 #[.string (bs [73])] h K:=by
 refine fnv (args:=_) mixed [] [] [] Tryz.func123 rfl (by kernel_rfl) (cw_ ?_)
 refine seq_true (rfl) (cw_ ?_)
 refine loop_at [5,4] [] (fun r vs _ h'=>∃ (i:Nat) (sl:Value),i≤12∧r=12 - i∧vs=[.v (jv ((0:Int)+i)),.v sl]∧Owns h h' 3 1 sl (0+i) ([]++(List.range i).map (fun k=>jv ((20:Int)+(k:Nat))))) 12 ⟨0,_,by omega,rfl,rfl,Owns.nil (Hp.le_refl _)⟩ ?_
 rintro r vs cs mm bx h1 ⟨i,sl,hi,rfl,rfl,hO⟩
 obtain ⟨sa,sc,rfl⟩:=hO.shape
 conv=>whnf
 refine br_ (fun q1=>?_) fun q1=>?_
 ·conv=>whnf
  refine n_ ?_
  refine new_intro (o:=rowO 3 [_]) (fun y h2 n_y le_y at_y ot_y=>cw_ ?_)
  refine Owns.app1 (z:=.int .i64 0) (by kernel_rfl) infInt (by kernel_rfl) (by kernel_rfl) (by kernel_rfl) rfl (bytes:=8) (by decide) rfl rfl rfl (hO.up le_y) at_y rfl rfl (by omega) fun s3 h3 hO3=>(cw_ ?_)
  refine n_ ?_
  refine ⟨12 - (i+1),by omega,i+1,s3,by omega,rfl,by rw [show ((0:Int)+((i+1:Nat):Int))=0+(i:Int)+1 by omega];rfl,?_⟩
  rw [map_succ (f:=fun k=>(20:Int)+(k:Nat))]
  rw [show ((20:Int)+(i:Nat))=20+(0+(i:Int)) by omega]
  exact hO3
 ·obtain rfl:i=12:=by omega
  conv=>whnf
  exact hk _ _ hO
theorem places3_x (hk:∀ sl h',Owns h h' 3 1 sl (placesL 3).length ((placesL 3).map jv)→K (.tuple #[sl,.bool (signedB 3)]) h'):X Tryz.prog 123 #[.string (bs [83])] h K:=by
 refine fnv (args:=_) mixed [] [] [] Tryz.func123 rfl (by kernel_rfl) (cw_ ?_)
 refine seq_false ((by decide)) (cw_ ?_)
 refine seq_true (rfl) (cw_ ?_)
 refine loop_at [6,4] [] (fun r vs _ h'=>∃ (i:Nat) (sl:Value),i≤5∧r=5 - i∧vs=[.v (jv ((0:Int)+i)),.v sl]∧Owns h h' 3 1 sl (0+i) ([]++(List.range i).map (fun k=>jv ((7:Int)+(k:Nat))))) 5 ⟨0,_,by omega,rfl,rfl,Owns.nil (Hp.le_refl _)⟩ ?_
 rintro r vs cs mm bx h1 ⟨i,sl,hi,rfl,rfl,hO⟩
 obtain ⟨sa,sc,rfl⟩:=hO.shape
 conv=>whnf
 refine br_ (fun q1=>?_) fun q1=>?_
 ·conv=>whnf
  refine n_ ?_
  refine new_intro (o:=rowO 3 [_]) (fun y h2 n_y le_y at_y ot_y=>cw_ ?_)
  refine Owns.app1 (z:=.int .i64 0) (by kernel_rfl) infInt (by kernel_rfl) (by kernel_rfl) (by kernel_rfl) rfl (bytes:=8) (by decide) rfl rfl rfl (hO.up le_y) at_y rfl rfl (by omega) fun s3 h3 hO3=>(cw_ ?_)
  refine n_ ?_
  refine ⟨5 - (i+1),by omega,i+1,s3,by omega,rfl,by rw [show ((0:Int)+((i+1:Nat):Int))=0+(i:Int)+1 by omega];rfl,?_⟩
  rw [map_succ (f:=fun k=>(7:Int)+(k:Nat))]
  rw [show ((7:Int)+(i:Nat))=7+(0+(i:Int)) by omega]
  exact hO3
 ·obtain rfl:i=5:=by omega
  conv=>whnf
  refine loop_at [7,4] [] (fun r vs _ h'=>∃ (i:Nat) (sl:Value),i≤7∧r=7 - i∧vs=[.v (jv ((0:Int)+i)),.v sl]∧Owns h h' 3 1 sl (5+i) (((List.range 5).map fun k=>jv ((7:Int)+(k:Nat)))++(List.range i).map (fun k=>jv ((25:Int)+(k:Nat))))) 7 ⟨0,_,by omega,rfl,rfl,hO⟩ ?_
  rintro r vs cs mm bx h1 ⟨i,sl,hi,rfl,rfl,hO⟩
  obtain ⟨sa,sc,rfl⟩:=hO.shape
  conv=>whnf
  refine br_ (fun q1=>?_) fun q1=>?_
  ·conv=>whnf
   refine n_ ?_
   refine new_intro (o:=rowO 3 [_]) (fun y h2 n_y le_y at_y ot_y=>cw_ ?_)
   refine Owns.app1 (z:=.int .i64 0) (by kernel_rfl) infInt (by kernel_rfl) (by kernel_rfl) (by kernel_rfl) rfl (bytes:=8) (by decide) rfl rfl rfl (hO.up le_y) at_y rfl rfl (by omega) fun s3 h3 hO3=>(cw_ ?_)
   refine n_ ?_
   refine ⟨7 - (i+1),by omega,i+1,s3,by omega,rfl,by rw [show ((0:Int)+((i+1:Nat):Int))=0+(i:Int)+1 by omega];rfl,?_⟩
   rw [map_succ (f:=fun k=>(25:Int)+(k:Nat))]
   rw [show ((25:Int)+(i:Nat))=25+(0+(i:Int)) by omega]
   exact hO3
  ·obtain rfl:i=7:=by omega
   conv=>whnf
   exact hk _ _ hO
theorem places4_x (hk:∀ sl h',Owns h h' 3 1 sl (placesL 4).length ((placesL 4).map jv)→K (.tuple #[sl,.bool (signedB 4)]) h'):X Tryz.prog 123 #[.string (bs [66])] h K:=by
 refine fnv (args:=_) mixed [] [] [] Tryz.func123 rfl (by kernel_rfl) (cw_ ?_)
 iterate 2 (refine seq_false (by decide) ?_;conv=>whnf)
 refine seq_true (rfl) (cw_ ?_)
 refine new_intro (o:=_) (fun y h2 n_y le_y at_y ot_y=>cw_ ?_)
 refine hk _ _ (Owns.lit le_y n_y at_y rfl)
theorem places5_x (hk:∀ sl h',Owns h h' 3 1 sl (placesL 5).length ((placesL 5).map jv)→K (.tuple #[sl,.bool (signedB 5)]) h'):X Tryz.prog 123 #[.string (bs [85])] h K:=by
 refine fnv (args:=_) mixed [] [] [] Tryz.func123 rfl (by kernel_rfl) (cw_ ?_)
 iterate 3 (refine seq_false (by decide) ?_;conv=>whnf)
 refine seq_true (rfl) (cw_ ?_)
 refine loop_at [8,4] [] (fun r vs _ h'=>∃ (i:Nat) (sl:Value),i≤12∧r=12 - i∧vs=[.v (jv ((0:Int)+i)),.v sl]∧Owns h h' 3 1 sl (0+i) ([]++(List.range i).map (fun _=>jv (-1)))) 12 ⟨0,_,by omega,rfl,rfl,Owns.nil (Hp.le_refl _)⟩ ?_
 rintro r vs cs mm bx h1 ⟨i,sl,hi,rfl,rfl,hO⟩
 obtain ⟨sa,sc,rfl⟩:=hO.shape
 conv=>whnf
 refine br_ (fun q1=>?_) fun q1=>?_
 ·conv=>whnf
  refine new_intro (o:=rowO 3 [_]) (fun y h2 n_y le_y at_y ot_y=>cw_ ?_)
  refine Owns.app1 (z:=.int .i64 0) (by kernel_rfl) infInt (by kernel_rfl) (by kernel_rfl) (by kernel_rfl) rfl (bytes:=8) (by decide) rfl rfl rfl (hO.up le_y) at_y rfl rfl (by omega) fun s3 h3 hO3=>(cw_ ?_)
  refine n_ ?_
  refine ⟨12 - (i+1),by omega,i+1,s3,by omega,rfl,by rw [show ((0:Int)+((i+1:Nat):Int))=0+(i:Int)+1 by omega];rfl,?_⟩
  rw [map_succ (f:=fun _=>(-1:Int))]
  exact hO3
 ·obtain rfl:i=12:=by omega
  conv=>whnf
  refine loop_at [9,4] [] (fun r vs _ h'=>∃ (i:Nat) (sl:Value),i≤20∧r=20 - i∧vs=[.v (jv ((12:Int)+i)),.v sl]∧Owns h h' 3 1 sl (12+i) (((List.range 12).map fun _=>jv (-1))++(List.range i).map (fun k=>jv ((12:Int)+(k:Nat))))) 20 ⟨0,_,by omega,rfl,rfl,hO⟩ ?_
  rintro r vs cs mm bx h1 ⟨i,sl,hi,rfl,rfl,hO⟩
  obtain ⟨sa,sc,rfl⟩:=hO.shape
  conv=>whnf
  refine br_ (fun q1=>?_) fun q1=>?_
  ·conv=>whnf
   refine new_intro (o:=rowO 3 [_]) (fun y h2 n_y le_y at_y ot_y=>cw_ ?_)
   refine Owns.app1 (z:=.int .i64 0) (by kernel_rfl) infInt (by kernel_rfl) (by kernel_rfl) (by kernel_rfl) rfl (bytes:=8) (by decide) rfl rfl rfl (hO.up le_y) at_y rfl rfl (by omega) fun s3 h3 hO3=>(cw_ ?_)
   refine n_ ?_
   refine ⟨20 - (i+1),by omega,i+1,s3,by omega,rfl,by rw [show ((12:Int)+((i+1:Nat):Int))=12+(i:Int)+1 by omega];rfl,?_⟩
   rw [map_succ (f:=fun k=>(12:Int)+(k:Nat))]
   skip
   exact hO3
  ·obtain rfl:i=20:=by omega
   conv=>whnf
   exact hk _ _ hO
theorem places6_x (hk:∀ sl h',Owns h h' 3 1 sl (placesL 6).length ((placesL 6).map jv)→K (.tuple #[sl,.bool (signedB 6)]) h'):X Tryz.prog 123 #[.string (bs [74])] h K:=by
 refine fnv (args:=_) mixed [] [] [] Tryz.func123 rfl (by kernel_rfl) (cw_ ?_)
 iterate 4 (refine seq_false (by decide) ?_;conv=>whnf)
 refine seq_true (rfl) (cw_ ?_)
 refine new_intro (o:=_) (fun y h2 n_y le_y at_y ot_y=>cw_ ?_)
 refine hk _ _ (Owns.lit le_y n_y at_y rfl)
theorem places7_x (hk:∀ sl h',Owns h h' 3 1 sl (placesL 7).length ((placesL 7).map jv)→K (.tuple #[sl,.bool (signedB 7)]) h'):X Tryz.prog 123 #[.string (bs [83,104,105,102,116])] h K:=by
 refine fnv (args:=_) mixed [] [] [] Tryz.func123 rfl (by kernel_rfl) (cw_ ?_)
 iterate 5 (refine seq_false (by decide) ?_;conv=>whnf)
 refine seq_true (rfl) (cw_ ?_)
 refine new_intro (o:=_) (fun y h2 n_y le_y at_y ot_y=>cw_ ?_)
 refine hk _ _ (Owns.lit le_y n_y at_y rfl)
theorem places8_x (hk:∀ sl h',Owns h h' 3 1 sl (placesL 8).length ((placesL 8).map jv)→K (.tuple #[sl,.bool (signedB 8)]) h'):X Tryz.prog 123 #[.string (bs [83,104,105,102,116,87])] h K:=by
 refine fnv (args:=_) mixed [] [] [] Tryz.func123 rfl (by kernel_rfl) (cw_ ?_)
 iterate 6 (refine seq_false (by decide) ?_;conv=>whnf)
 refine seq_true (rfl) (cw_ ?_)
 refine new_intro (o:=_) (fun y h2 n_y le_y at_y ot_y=>cw_ ?_)
 refine hk _ _ (Owns.lit le_y n_y at_y rfl)
theorem places9_x (hk:∀ sl h',Owns h h' 3 1 sl (placesL 9).length ((placesL 9).map jv)→K (.tuple #[sl,.bool (signedB 9)]) h'):X Tryz.prog 123 #[.string (bs [67,115,114])] h K:=by
 refine fnv (args:=_) mixed [] [] [] Tryz.func123 rfl (by kernel_rfl) (cw_ ?_)
 iterate 7 (refine seq_false (by decide) ?_;conv=>whnf)
 exact hk _ _ (Owns.nil (Hp.le_refl _))
theorem places10_x (hk:∀ sl h',Owns h h' 3 1 sl (placesL 10).length ((placesL 10).map jv)→K (.tuple #[sl,.bool (signedB 10)]) h'):X Tryz.prog 123 #[.string (bs [67,115,114,73])] h K:=by
 refine fnv (args:=_) mixed [] [] [] Tryz.func123 rfl (by kernel_rfl) (cw_ ?_)
 iterate 7 (refine seq_false (by decide) ?_;conv=>whnf)
 exact hk _ _ (Owns.nil (Hp.le_refl _))
theorem places11_x (hk:∀ sl h',Owns h h' 3 1 sl (placesL 11).length ((placesL 11).map jv)→K (.tuple #[sl,.bool (signedB 11)]) h'):X Tryz.prog 123 #[.string (bs [65])] h K:=by
 refine fnv (args:=_) mixed [] [] [] Tryz.func123 rfl (by kernel_rfl) (cw_ ?_)
 iterate 7 (refine seq_false (by decide) ?_;conv=>whnf)
 exact hk _ _ (Owns.nil (Hp.le_refl _))
theorem places12_x (hk:∀ sl h',Owns h h' 3 1 sl (placesL 12).length ((placesL 12).map jv)→K (.tuple #[sl,.bool (signedB 12)]) h'):X Tryz.prog 123 #[.string (bs [76,114])] h K:=by
 refine fnv (args:=_) mixed [] [] [] Tryz.func123 rfl (by kernel_rfl) (cw_ ?_)
 iterate 7 (refine seq_false (by decide) ?_;conv=>whnf)
 exact hk _ _ (Owns.nil (Hp.le_refl _))
theorem places13_x (hk:∀ sl h',Owns h h' 3 1 sl (placesL 13).length ((placesL 13).map jv)→K (.tuple #[sl,.bool (signedB 13)]) h'):X Tryz.prog 123 #[.string (bs [66,97,114,101])] h K:=by
 refine fnv (args:=_) mixed [] [] [] Tryz.func123 rfl (by kernel_rfl) (cw_ ?_)
 iterate 7 (refine seq_false (by decide) ?_;conv=>whnf)
 exact hk _ _ (Owns.nil (Hp.le_refl _))
theorem places14_x (hk:∀ sl h',Owns h h' 3 1 sl (placesL 14).length ((placesL 14).map jv)→K (.tuple #[sl,.bool (signedB 14)]) h'):X Tryz.prog 123 #[.string (bs [83,102,101,110,99,101])] h K:=by
 refine fnv (args:=_) mixed [] [] [] Tryz.func123 rfl (by kernel_rfl) (cw_ ?_)
 iterate 7 (refine seq_false (by decide) ?_;conv=>whnf)
 exact hk _ _ (Owns.nil (Hp.le_refl _))
theorem places_x (f:Nat) (hf:f<15) (hk:∀ sl h',Owns h h' 3 1 sl (placesL f).length ((placesL f).map jv)→K (.tuple #[sl,.bool (signedB f)]) h'):X Tryz.prog 123 #[.string (bs (fmtS.getD f []))] h K:=by
 match f,hf,hk with
 | 0,_,hk=>exact places0_x hk
 | 1,_,hk=>exact places1_x hk
 | 2,_,hk=>exact places2_x hk
 | 3,_,hk=>exact places3_x hk
 | 4,_,hk=>exact places4_x hk
 | 5,_,hk=>exact places5_x hk
 | 6,_,hk=>exact places6_x hk
 | 7,_,hk=>exact places7_x hk
 | 8,_,hk=>exact places8_x hk
 | 9,_,hk=>exact places9_x hk
 | 10,_,hk=>exact places10_x hk
 | 11,_,hk=>exact places11_x hk
 | 12,_,hk=>exact places12_x hk
 | 13,_,hk=>exact places13_x hk
 | 14,_,hk=>exact places14_x hk
 | f+15,hf,_=>exact absurd hf (by omega)
theorem pl_lt:∀ f:Nat,f<15→(placesL f).length≤32∧(∀ p ∈ placesL f,-1≤p∧p≤31)∧(signedB f=true→1≤(placesL f).length):=by decide
theorem wrap_u (n:Int):IntKind.u64.wrap n=(u64N n:Nat):=by
 unfold u64N
 rw [wrap_u64];omega
theorem wrap_i (w:Nat) (hw:w<2 ^ 64):IntKind.i64.wrap (w:Int)=i64N w:=by
 unfold i64N
 rw [IntKind.wrap_i64]
 split <;> omega
theorem u64N_lt (n:Int):u64N n<2 ^ 64:=by unfold u64N;omega
theorem rimm_x (f:Nat) (hf:f<15) (w:Nat) (hw:w<2 ^ 64) (hk:K (jv (i64N (immN f w))) h):X Tryz.prog 122 #[.string (bs (fmtS.getD f [])),uv w] h K:=by
 refine X.forget ?_
 obtain ⟨p1,p2,p3⟩:=pl_lt f hf
 have hd:immN f w=if signedB f=true then signN (ofL (immBits (placesL f) w)) (placesL f).length else ofL (immBits (placesL f) w):=rfl
 rw [hd] at hk
 have hlt:=immBits_lt (placesL f) w
 have h32:2 ^ (placesL f).length≤2 ^ 32:=Nat.pow_le_pow_right (by decide) p1
 have hlen:(immBits (placesL f) w).length=(placesL f).length:=List.length_map _
 have hb1:∀ x ∈ immBits (placesL f) w,x<2:=fun x hx=>by
  obtain ⟨p,_,rfl⟩:=List.mem_map.1 hx
  split
  ·exact bitN_lt _ _
  ·decide
 refine fnv (args:=_) mixed [] [] [] Tryz.func122 rfl (by kernel_rfl) (cw_ ?_)
 refine places_x f hf fun pl h1 hP=>?_
 obtain ⟨pa,pc,rfl⟩:=hP.shape
 generalize placesL f=ps at *
 generalize signedB f=sg at *
 conv=>whnf
 refine loop_at [8,7] [] (fun r vs _ h'=>∃ (i:Nat) (sl:Value),i≤ps.length∧r=ps.length - i∧vs=[.v (.int .i64 i),.v sl]∧Owns h1 h' 25 1 sl i ((immBits (ps.take i) w).map uv)) ps.length
  ⟨0,.slice none 0 0,by omega,rfl,rfl,Owns.nil (Hp.le_refl _)⟩ ?_
 rintro r vs cs mm bx h2 ⟨i,sl,hi,rfl,rfl,hO⟩
 obtain ⟨sa,sc,rfl⟩:=hO.shape
 conv=>whnf
 refine br_ (fun q1=>?_) fun q1=>?_
 ·have hi2:i<ps.length:=by omega
  obtain ⟨p,hp⟩:∃ p,ps[i]? = some p:=⟨_,List.getElem?_eq_getElem hi2⟩
  obtain ⟨b,cap,rest,e0,hc,hb,_⟩:=(hP.up hO.le).row (by omega)
  obtain ⟨rfl,rfl⟩:pa=some ⟨b,0,none⟩∧pc=cap:=by injection e0 with e1 e2 e3;exact ⟨e1,e3⟩
  have hcell:(ps.map jv++rest)[i]? = some (jv p):=by
   rw [List.getElem?_append_left (by simpa using hi2),List.getElem?_map,hp];rfl
  have hpb:=p2 p (List.mem_of_getElem? hp)
  have ht:immBits (ps.take (i+1)) w=immBits (ps.take i) w++[if 0≤p then bitN w p.toNat else 0]:=by
   unfold immBits
   rw [List.take_add_one,hp,List.map_append];rfl
  conv=>whnf
  refine n_ ?_
  refine ⟨_,loadI aggIn hb (j:=i) rfl hcell,cw_ ?_⟩
  refine rbit_x w p hw (by omega) (cw_ ?_)
  refine new_intro (o:=rowO 25 [uv (if 0≤p then bitN w p.toNat else 0)]) (fun y h3 n_y le_y at_y ot_y=>cw_ ?_)
  refine Owns.app1 (z:=.int .u64 0) (by kernel_rfl) infU64 (by kernel_rfl) (by kernel_rfl) (by kernel_rfl) rfl (bytes:=8) (by decide) rfl rfl rfl (hO.up le_y) at_y rfl rfl (by omega) fun s3 h4 hO3=>(cw_ ?_)
  refine n_ ?_
  refine ⟨ps.length - (i+1),by omega,i+1,s3,by omega,rfl,rfl,?_⟩
  rw [ht,List.map_append]
  exact hO3
 ·obtain rfl:i=ps.length:=by omega
  rw [List.take_length] at hO
  have hle:h.le h2:=Hp.le_trans hP.le hO.le
  conv=>whnf
  refine rof_x (l:=immBits ps w) (by rw [hlen];exact hO) (by omega) hb1 ?_
  cases sg with
  | true =>
   rw [if_pos rfl] at hk
   conv=>whnf
   refine rsign_x (ofL (immBits ps w)) ps.length (by omega) (p3 rfl) (by omega) (cw_ ?_)
   refine ov_by (wrap_i _ (sign_lt _ _)) (cw_ ?_)
   exact ⟨h,hle,hk⟩
  | false =>
   rw [if_neg (by decide)] at hk
   conv=>whnf
   refine ov_by (wrap_i _ (by omega)) (cw_ ?_)
   exact ⟨h,hle,hk⟩
theorem layFrom_lt (u:Nat):∀ (ps:List Int) (i w:Nat),w<2 ^ 64→layFrom u ps i w<2 ^ 64
 | [],_,_,hw=>hw
 | p :: ps,i,w,hw=>layFrom_lt u ps (i+1) _ (by split <;> first | exact put_lt _ _ _ _ | exact hw)
theorem rlay_x (f:Nat) (hf:f<15) (n:Int) (hk:K (uv (layN f (u64N n))) h):X Tryz.prog 88 #[.string (bs (fmtS.getD f [])),jv n] h K:=by
 refine X.forget ?_
 obtain ⟨p1,p2,_⟩:=pl_lt f hf
 unfold layN at hk
 have hu:=u64N_lt n
 have hw:=wrap_u n
 generalize u64N n=u at *
 refine fnv (args:=_) mixed [] [] [29] Tryz.func88 rfl (by kernel_rfl) (cw_ ?_)
 refine places_x f hf fun pl h1 hP=>?_
 obtain ⟨pa,pc,rfl⟩:=hP.shape
 have hle:=hP.le
 generalize placesL f=ps at *
 conv=>whnf
 refine loop_at [8,7] [] (fun r vs _ h'=>h1=h'∧∃ (i w:Nat),i≤ps.length∧r=ps.length - i∧vs=[.v (.int .i64 i),.v (uv w)]∧w<2 ^ 64∧layFrom u (ps.drop i) i w=layFrom u ps 0 0) ps.length
  ⟨rfl,0,0,by omega,rfl,rfl,by decide,rfl⟩ ?_
 rintro r vs cs mm bx _ ⟨rfl,i,w,hi,rfl,rfl,hw64,hR⟩
 conv=>whnf
 refine br_ (fun q1=>?_) fun q1=>?_
 ·have hi2:i<ps.length:=by omega
  obtain ⟨p,hp⟩:∃ p,ps[i]? = some p:=⟨_,List.getElem?_eq_getElem hi2⟩
  obtain ⟨b,cap,rest,e0,hc,hb,_⟩:=hP.row (by omega)
  obtain ⟨rfl,rfl⟩:pa=some ⟨b,0,none⟩∧pc=cap:=by injection e0 with e1 e2 e3;exact ⟨e1,e3⟩
  have hcell:(ps.map jv++rest)[i]? = some (jv p):=by
   rw [List.getElem?_append_left (by simpa using hi2),List.getElem?_map,hp];rfl
  have hpb:=p2 p (List.mem_of_getElem? hp)
  have hd:ps.drop i=p :: ps.drop (i+1):=by
   rw [List.drop_eq_getElem_cons hi2]
   congr 1
   exact (List.getElem?_eq_some_iff.1 hp).2
  rw [hd] at hR
  have hR:layFrom u (ps.drop (i+1)) (i+1) (if 0≤p then putN w p.toNat 1 (bitN u i) else w)=layFrom u ps 0 0:=hR
  conv=>whnf
  refine n_ ?_
  refine ⟨_,loadI aggIn hb (j:=i) rfl hcell,cw_ ?_⟩
  refine br_ (fun q2=>?_) fun q2=>?_
  ·rw [if_pos q2] at hR
   obtain ⟨pn,rfl⟩:∃ pn:Nat,p=pn:=⟨p.toNat,by omega⟩
   rw [Int.toNat_natCast] at hR
   conv=>whnf
   refine ⟨fun h'=>h'=h1,rfl,cw_ ?_⟩
   refine n_ ?_
   refine ⟨jv pn,fun h' e=>by rw [e];exact loadI aggIn hb (j:=i) rfl hcell,?_⟩
   conv=>whnf
   refine ov_by hw (cw_ ?_)
   refine rbit_x u i hu (by omega) ?_
   rw [if_pos (by omega),Int.toNat_natCast]
   refine ⟨rfl,cw_ ?_⟩
   refine rput_x w pn 1 (bitN u i) hw64 (Nat.lt_trans (bitN_lt _ _) (by decide)) (by omega) (by omega) ?_
   refine ⟨rfl,cw_ ?_⟩
   refine n_ ?_
   refine ⟨ps.length - (i+1),by omega,rfl,i+1,_,by omega,rfl,rfl,put_lt _ _ _ _,hR⟩
  ·rw [if_neg q2] at hR
   conv=>whnf
   refine n_ ?_
   refine ⟨ps.length - (i+1),by omega,rfl,i+1,_,by omega,rfl,rfl,hw64,hR⟩
 ·obtain rfl:i=ps.length:=by omega
  rw [List.drop_length] at hR
  have hR:w=layFrom u ps 0 0:=hR
  subst hR
  conv=>whnf
  exact ⟨h,hle,hk⟩
end
end Go.Proofs.YtdhkjcdneidgaaaGreatDoor
