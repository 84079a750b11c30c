/-
  Walks through tables: what an ask is answered, the end, the begin.
-/
import Derived.Test.YtdhlpighdlnohaaGreatImmP
import Derived.Test.YtdhlpighdlnohaaGreatTbTlb1
import Derived.Test.YtdhlpighdlnohaaGreatCsF
import Derived.Test.YtdhlpighdlnohaaGreatCsC
import Derived.Test.YtdhlpighdlnohaaGreatBitXg
set_option linter.unusedSimpArgs false
set_option linter.unusedVariables false
set_option maxHeartbeats 8000000
set_option maxRecDepth 10000
set_option linter.unusedSimpArgs false
set_option linter.unusedVariables false
namespace Go.Proofs.YtdhlpighdlnohaaGreat
open Go Go.Mid Go.RowKit Go.Bits
attribute [local irreducible] mid
def Qu.cs (q:Qu):List Value:=[.int .i64 q.lines,ux q.root,ux q.va,.int .i64 q.access,.int .i64 q.priv,.bool q.sum,.bool q.mxr]
def Wk.cs (w:Wk):List Value:=[.bool w.made,.int .i64 w.q.lines,ux w.q.root,ux w.q.va,.int .i64 w.q.access,.int .i64 w.q.priv,.bool w.q.sum,.bool w.q.mxr,.int .i64 w.fin,.int .i64 w.level,ux w.place,ux w.entry,.bool w.mark,.int .i64 w.again]
section
variable {h:Hp} {K:Value→Hp→Prop}
theorem mark_lt {p:Nat} {a:Int} (hp:p<2 ^ 64):markN p a<2 ^ 64:=by
 unfold markN
 split
 ·exact Nat.or_lt_two_pow (Nat.or_lt_two_pow hp (by decide)) (by decide)
 ·exact Nat.or_lt_two_pow hp (by decide)
theorem entry_lt (ppn va l:Nat):entryN ppn va l<2 ^ 64:=by
 unfold entryN
 have:=place_lt va l
 omega
theorem pmark_x (p:Nat) (a:Int) (hp:p<2 ^ 64) (hk:K (.tuple #[ux (markN p a),.bool (decide (markN p a≠p))]) h):X Tryz.prog 147 #[ux p,.int .i64 a] h K:=by
 have h6:p ||| 64<2 ^ 64:=Nat.or_lt_two_pow hp (by decide)
 have hd:∀ x:Nat,decide (x≠p)=!decide ((x:Int)=(p:Int)):=fun x=>by rw [Bool.eq_iff_iff];simp only [decide_eq_true_eq,Bool.not_eq_true',decide_eq_false_iff_not];omega
 rw [hd] at hk
 unfold markN at hk
 refine fnv (args:=_) mixed [] [] [] Tryz.func147 rfl (by kernel_rfl) (cw_ ?_)
 refine val_by (or64 hp (show 64<2 ^ 64 by decide)) (cw_ ?_)
 refine br_ (fun q=>?_) fun q=>?_
 ·rw [if_pos q] at hk
  conv=>whnf
  refine val_by (or64 h6 (show 128<2 ^ 64 by decide)) (cw_ ?_)
  exact hk
 ·rw [if_neg q] at hk
  conv=>whnf
  exact hk
theorem pghasE_x (p i:Nat) {v:Bool} (hp:p<2 ^ 64) (hi:i≤63) (e:decide (bitN p i=1)=v) (hk:K (.bool v) h):X Tryz.prog 63 #[ux p,.int .i64 i] h K:=pghas_x p i hp hi (by rw [e];exact hk)
theorem plets_x (p:Nat) (a priv:Int) (sum mxr:Bool) (hp:p<2 ^ 64) (hk:K (.bool (letsP p a priv sum mxr)) h):X Tryz.prog 96 #[ux p,.int .i64 a,.int .i64 priv,.bool sum,.bool mxr] h K:=by
 obtain ⟨b1,e1⟩:∃ b,decide (bitN p 1=1)=b:=⟨_,rfl⟩
 obtain ⟨b2,e2⟩:∃ b,decide (bitN p 2=1)=b:=⟨_,rfl⟩
 obtain ⟨b3,e3⟩:∃ b,decide (bitN p 3=1)=b:=⟨_,rfl⟩
 obtain ⟨b4,e4⟩:∃ b,decide (bitN p 4=1)=b:=⟨_,rfl⟩
 unfold letsP at hk
 rw [e1,e2,e3,e4] at hk
 by_cases ha:a=0∨a=1∨a=2
 ·by_cases hc:priv=0
  ·subst hc
   rcases ha with rfl | rfl | rfl
   ·cases b3 <;> cases b4
    all_goals
     refine fnv (args:=_) mixed [] [] [] Tryz.func96 rfl (by kernel_rfl) (cw_ ?_)
     repeat' first
      | (refine pghasE_x p 1 hp (by decide) e1 ?_;conv=>whnf)
      | (refine pghasE_x p 2 hp (by decide) e2 ?_;conv=>whnf)
      | (refine pghasE_x p 3 hp (by decide) e3 ?_;conv=>whnf)
      | (refine pghasE_x p 4 hp (by decide) e4 ?_;conv=>whnf)
      | (refine bsel_false (by simpa using hc) ?_;conv=>whnf)
     exact hk
   ·cases b1 <;> cases b3 <;> cases b4 <;> cases mxr
    all_goals
     refine fnv (args:=_) mixed [] [] [] Tryz.func96 rfl (by kernel_rfl) (cw_ ?_)
     repeat' first
      | (refine pghasE_x p 1 hp (by decide) e1 ?_;conv=>whnf)
      | (refine pghasE_x p 2 hp (by decide) e2 ?_;conv=>whnf)
      | (refine pghasE_x p 3 hp (by decide) e3 ?_;conv=>whnf)
      | (refine pghasE_x p 4 hp (by decide) e4 ?_;conv=>whnf)
      | (refine bsel_false (by simpa using hc) ?_;conv=>whnf)
     exact hk
   ·cases b2 <;> cases b4
    all_goals
     refine fnv (args:=_) mixed [] [] [] Tryz.func96 rfl (by kernel_rfl) (cw_ ?_)
     repeat' first
      | (refine pghasE_x p 1 hp (by decide) e1 ?_;conv=>whnf)
      | (refine pghasE_x p 2 hp (by decide) e2 ?_;conv=>whnf)
      | (refine pghasE_x p 3 hp (by decide) e3 ?_;conv=>whnf)
      | (refine pghasE_x p 4 hp (by decide) e4 ?_;conv=>whnf)
      | (refine bsel_false (by simpa using hc) ?_;conv=>whnf)
     exact hk
  ·rw [if_neg hc] at hk
   rcases ha with rfl | rfl | rfl
   ·cases b3 <;> cases b4 <;> cases sum
    all_goals
     refine fnv (args:=_) mixed [] [] [] Tryz.func96 rfl (by kernel_rfl) (cw_ ?_)
     repeat' first
      | (refine pghasE_x p 1 hp (by decide) e1 ?_;conv=>whnf)
      | (refine pghasE_x p 2 hp (by decide) e2 ?_;conv=>whnf)
      | (refine pghasE_x p 3 hp (by decide) e3 ?_;conv=>whnf)
      | (refine pghasE_x p 4 hp (by decide) e4 ?_;conv=>whnf)
      | (refine bsel_false (by simpa using hc) ?_;conv=>whnf)
     exact hk
   ·cases b1 <;> cases b3 <;> cases b4 <;> cases mxr <;> cases sum
    all_goals
     refine fnv (args:=_) mixed [] [] [] Tryz.func96 rfl (by kernel_rfl) (cw_ ?_)
     repeat' first
      | (refine pghasE_x p 1 hp (by decide) e1 ?_;conv=>whnf)
      | (refine pghasE_x p 2 hp (by decide) e2 ?_;conv=>whnf)
      | (refine pghasE_x p 3 hp (by decide) e3 ?_;conv=>whnf)
      | (refine pghasE_x p 4 hp (by decide) e4 ?_;conv=>whnf)
      | (refine bsel_false (by simpa using hc) ?_;conv=>whnf)
     exact hk
   ·cases b2 <;> cases b4 <;> cases sum
    all_goals
     refine fnv (args:=_) mixed [] [] [] Tryz.func96 rfl (by kernel_rfl) (cw_ ?_)
     repeat' first
      | (refine pghasE_x p 1 hp (by decide) e1 ?_;conv=>whnf)
      | (refine pghasE_x p 2 hp (by decide) e2 ?_;conv=>whnf)
      | (refine pghasE_x p 3 hp (by decide) e3 ?_;conv=>whnf)
      | (refine pghasE_x p 4 hp (by decide) e4 ?_;conv=>whnf)
      | (refine bsel_false (by simpa using hc) ?_;conv=>whnf)
     exact hk
 ·rw [if_neg (fun e=>ha (.inl e)),if_neg (fun e=>ha (.inr (.inl e))),if_neg (fun e=>ha (.inr (.inr e))),Bool.false_and] at hk
  refine fnv (args:=_) mixed [] [] [] Tryz.func96 rfl (by kernel_rfl) (cw_ ?_)
  refine br_ (fun q1=>?_) fun q1=>?_
  ·exact hk
  ·conv=>whnf
   refine bt_ ?_
   exact hk
theorem ventry_x (ppn va l:Nat) (hp:ppn<2 ^ 64) (hv:va<2 ^ 64) (hl:l≤2) (hk:K (ux (entryN ppn va l)) h):X Tryz.prog 158 #[ux ppn,ux va,.int .i64 l] h K:=by
 have hpl:=place_lt va l
 unfold entryN at hk
 obtain ⟨z,hz⟩:∃ z,placeN va l=z:=⟨_,rfl⟩
 obtain ⟨q,hq⟩:∃ q,ppn % 2 ^ 44=q:=⟨_,rfl⟩
 have hq1:q<2 ^ 44:=by omega
 rw [hz] at hk hpl
 rw [hq] at hk
 have hor:(q*2 ^ 12 ||| z*8)=q*2 ^ 12+z*8:=or_low (by omega)
 refine fnv (args:=_) mixed [] [] [] Tryz.func158 rfl (by kernel_rfl) (cw_ ?_)
 refine pgthere_x l ?_
 rw [decide_eq_true (show (0:Int)≤(l:Int)∧(l:Int)≤2 by omega)]
 conv=>whnf
 refine blow_x ppn 44 hp (by decide) ?_
 rw [hq]
 conv=>whnf
 refine ov_by ((shl64 q 12 (by decide)).trans (congrArg (fun n:Nat=>(n:Int)) (show q*2 ^ 12 % 18446744073709551616=q*2 ^ 12 by omega))) (cw_ ?_)
 refine pgplace_x va l hv hl ?_
 rw [hz]
 conv=>whnf
 refine ov_by (w64 (show z<2 ^ 64 by omega)) (cw_ ?_)
 refine ov_by ((shl64 z 3 (by decide)).trans (congrArg (fun n:Nat=>(n:Int)) (show z*2 ^ 3 % 18446744073709551616=z*8 by omega))) (cw_ ?_)
 refine val_by ((or64 (show q*2 ^ 12<2 ^ 64 by omega) (show z*8<2 ^ 64 by omega)).trans (congrArg (fun n:Nat=>(n:Int)) hor)) (cw_ ?_)
 exact hk
theorem pageI_N (va l:Nat) (hl:l≤2):Tb.pageI va l=((pageN va l:Nat):Int):=by
 unfold Tb.pageI Tb.sizeI pageN sizeN
 have hc:l=0∨l=1∨l=2:=by omega
 rcases hc with rfl | rfl | rfl
 ·show (va:Int) / 4096*4096=((va / 2 ^ 12*2 ^ 12:Nat):Int);omega
 ·show (va:Int) / 2097152*2097152=((va / 2 ^ 21*2 ^ 21:Nat):Int);omega
 ·show (va:Int) / 1073741824*1073741824=((va / 2 ^ 30*2 ^ 30:Nat):Int);omega
theorem vpage_x (va l:Nat) (hv:va<2 ^ 64) (hl:l≤2) (hk:K (ux (pageN va l)) h):X Tryz.prog 109 #[ux va,.int .i64 l] h K:=Tb.page_x va l (by omega) (by rw [pageI_N va l hl];exact hk)
theorem aggI4:isAggT Tryz.prog 3 = some false:=by kernel_rfl
theorem sizI4:sizeT Tryz.prog 3 = some 1:=by kernel_rfl
structure Wk.ok (w:Wk):Prop where
 root:w.q.root<2 ^ 64
 va:w.q.va<2 ^ 64
 lev:w.level≤2
 place:w.place<2 ^ 64
 entry:w.entry<2 ^ 64
theorem Wk.ok.look {w:Wk} (o:w.ok) (ppn l:Nat) (hl:l≤2):(w.look ppn l).ok:=⟨o.root,o.va,hl,entry_lt _ _ _,by show (0:Nat)<2 ^ 64;decide⟩
section
variable {b o:Nat} {el:TypeId} {A B:List Value} {w:Wk}
theorem whas_x (p:Pa h b o el A w.cs B) (ok:w.ok) (hk:K (.bool (hasB w.q.lines w.place)) h):X Tryz.prog 159 #[.pointer (some ⟨b,o,none⟩)] h K:=by
 have hp:=ok.place
 obtain ⟨n,hn⟩:∃ n,w.q.lines=n:=⟨_,rfl⟩
 obtain ⟨a,ha⟩:∃ a:Int,(w.place:Int)=a:=⟨_,rfl⟩
 have l1:w.cs[1]? = some (.int .i64 n):=by rw [← hn];rfl
 have l10:w.cs[10]? = some (.int .u64 a):=by rw [← ha];rfl
 have h0:hasB w.q.lines w.place=decide (1≤n∧n≤4096∧2147483648≤a∧a - 2147483648+8≤64*n):=by unfold hasB;rw [hn,← ha,Bool.eq_iff_iff];simp only [decide_eq_true_eq];omega
 rw [h0] at hk
 have hp1:0≤a∧a<18446744073709551616:=by omega
 refine fnv (args:=_) mixed [] [] [] Tryz.func159 rfl (by kernel_rfl) (cw_ ?_)
 refine ⟨_,p.ld 1 aggI4 l1,cw_ ?_⟩
 by_cases q1:n<1
 ·rw [decide_eq_true q1]
  conv=>whnf
  exact kq hk (bI (by simp;omega))
 rw [decide_eq_false q1]
 conv=>whnf
 refine ⟨_,p.ld 1 aggI4 l1,cw_ ?_⟩
 by_cases q2:n>4096
 ·rw [decide_eq_true q2]
  conv=>whnf
  exact kq hk (bI (by simp;omega))
 rw [decide_eq_false q2]
 conv=>whnf
 refine ⟨_,p.ld 10 aggU l10,cw_ ?_⟩
 refine br_ (fun q3=>?_) fun q3=>?_
 ·exact kq hk (bI (by simp;omega))
 conv=>whnf
 refine ⟨_,p.ld 1 aggI4 l1,cw_ ?_⟩
 refine ov_by (show IntKind.u64.wrap n=n by rw [toU64];omega) ?_
 conv=>whnf
 refine ov_by (show IntKind.u64.wrap (n*64)=64*n by rw [toU64];omega) ?_
 conv=>whnf
 refine ⟨_,p.ld 10 aggU l10,cw_ ?_⟩
 refine ov_by (show IntKind.u64.wrap (a - 2147483648)=a - 2147483648 by rw [toU64];omega) ?_
 conv=>whnf
 by_cases q4:a - 2147483648<64*n
 ·rw [decide_eq_true q4]
  conv=>whnf
  refine ov_by (show IntKind.u64.wrap (64*n - (a - 2147483648))=64*n - (a - 2147483648) by rw [toU64];omega) ?_
  conv=>whnf
  exact kq hk (bI (by rw [Bool.eq_iff_iff];simp;omega))
 ·rw [decide_eq_false q4]
  conv=>whnf
  exact kq hk (bI (by simp;omega))
theorem wlook_x (p:Pa h b o el A w.cs B) (ok:w.ok) (ppn l:Nat) (hp:ppn<2 ^ 64) (hl:l≤2) (hk:∀ h',Pa h' b o el A (w.look ppn l).cs B→(∀ d,d≠b→h' d=h d)→K (.tuple #[]) h'):X Tryz.prog 95 #[.pointer (some ⟨b,o,none⟩),ux ppn,.int .i64 l] h K:=by
 have hva:=ok.va
 obtain ⟨made,⟨ln,rt,va,acc,pv,sm,mx⟩,fin,lv,pl,en,mk,ag⟩:=w
 obtain ⟨z,hz⟩:∃ z,entryN ppn va l=z:=⟨_,rfl⟩
 obtain ⟨q,hq⟩:∃ q,hasB ln z=q:=⟨_,rfl⟩
 have ok2:(Wk.mk made ⟨ln,rt,va,acc,pv,sm,mx⟩ fin l z 0 false ag).ok:=⟨ok.root,ok.va,hl,hz ▸ entry_lt _ _ _,by show (0:Nat)<2 ^ 64;decide⟩
 unfold Wk.look at hk
 simp only at hk
 rw [hz,hq] at hk
 refine fnv (args:=_) mixed [] [] [] Tryz.func95 rfl (by kernel_rfl) (cw_ ?_)
 refine wr_intro (by exact p.st 12 sizB6 (by show 12<14;decide) rfl rfl) (fun h1 at_h1 ot_h1=>cw_ ?_)
 have p1:Pa h1 b o el A (Wk.mk made ⟨ln,rt,va,acc,pv,sm,mx⟩ fin lv pl en false ag).cs B:=⟨at_h1,p.len⟩
 refine wr_intro (by exact p1.st 11 sizU (by show 11<14;decide) rfl rfl) (fun h2 at_h2 ot_h2=>cw_ ?_)
 have p2:Pa h2 b o el A (Wk.mk made ⟨ln,rt,va,acc,pv,sm,mx⟩ fin lv pl 0 false ag).cs B:=⟨at_h2,p.len⟩
 refine wr_intro (by exact p2.st 9 sizI4 (by show 9<14;decide) rfl rfl) (fun h3 at_h3 ot_h3=>cw_ ?_)
 have p3:Pa h3 b o el A (Wk.mk made ⟨ln,rt,va,acc,pv,sm,mx⟩ fin l pl 0 false ag).cs B:=⟨at_h3,p.len⟩
 refine ⟨_,p3.ld 3 aggU rfl,cw_ ?_⟩
 refine ventry_x ppn va l hp hva hl ?_
 rw [hz]
 conv=>whnf
 refine wr_intro (by exact p3.st 10 sizU (by show 10<14;decide) rfl rfl) (fun h4 at_h4 ot_h4=>cw_ ?_)
 have p4:Pa h4 b o el A (Wk.mk made ⟨ln,rt,va,acc,pv,sm,mx⟩ fin l z 0 false ag).cs B:=⟨at_h4,p.len⟩
 refine whas_x p4 ok2 ?_
 rw [show hasB (Wk.mk made ⟨ln,rt,va,acc,pv,sm,mx⟩ fin l z 0 false ag).q.lines (Wk.mk made ⟨ln,rt,va,acc,pv,sm,mx⟩ fin l z 0 false ag).place=q from hq]
 have ho:∀ d,d≠b→h4 d=h d:=fun d hd=>by rw [ot_h4 d hd,ot_h3 d hd,ot_h2 d hd,ot_h1 d hd]
 cases q with
 | true =>
  conv=>whnf
  exact hk h4 p4 ho
 | false =>
  conv=>whnf
  refine wr_intro (by exact p4.st 8 sizI4 (by show 8<14;decide) rfl rfl) (fun h5 at_h5 ot_h5=>cw_ ?_)
  exact hk h5 ⟨at_h5,p.len⟩ fun d hd=>by rw [ot_h5 d hd,ho d hd]
theorem wstart_x (p:Pa h b o el A w.cs B) (ok:w.ok) (hk:∀ h',Pa h' b o el A w.start.cs B→(∀ d,d≠b→h' d=h d)→K (.tuple #[]) h'):X Tryz.prog 94 #[.pointer (some ⟨b,o,none⟩)] h K:=by
 refine fnv (args:=_) mixed [] [] [] Tryz.func94 rfl (by kernel_rfl) (cw_ ?_)
 refine ⟨_,p.ld 2 aggU rfl,cw_ ?_⟩
 refine wlook_x p ok w.q.root 2 ok.root (by decide) fun h1 p1 o1=>(cw_ ?_)
 exact hk h1 p1 o1
theorem wended_x (p:Pa h b o el A w.cs B) (hk:K (.bool w.ended) h):X Tryz.prog 83 #[.pointer (some ⟨b,o,none⟩)] h K:=by
 obtain ⟨made,q,fin,lv,pl,en,mk,ag⟩:=w
 have e:(Wk.mk made q fin lv pl en mk ag).ended=(!made || decide (fin≠0)):=rfl
 rw [e] at hk
 refine fnv (args:=_) mixed [] [] [] Tryz.func83 rfl (by kernel_rfl) (cw_ ?_)
 refine ⟨_,p.ld 0 aggB6 rfl,cw_ ?_⟩
 cases made with
 | false =>
  conv=>whnf
  exact hk
 | true =>
  conv=>whnf
  refine ⟨_,p.ld 8 aggI4 rfl,cw_ ?_⟩
  exact kq hk (bI (by rw [Bool.eq_iff_iff];simp))
theorem aggQu:isAggT Tryz.prog 123 = some true:=by kernel_rfl
theorem sizQu:sizeT Tryz.prog 123 = some 7:=by kernel_rfl
theorem wquest_x (p:Pa h b o el A w.cs B) (hk:K (.agg w.q.cs.toArray) h):X Tryz.prog 161 #[.pointer (some ⟨b,o,none⟩)] h K:=by
 refine fnv (args:=_) mixed [(2,2)] [] [] Tryz.func161 rfl (by kernel_rfl) (cw_ ?_)
 refine ⟨_,p.ldA 1 aggQu sizQu (x:=w.q.cs) rfl rfl,cw_ ?_⟩
 exact hk
theorem wmarked_x (p:Pa h b o el A w.cs B) (ok:w.ok) (hk:K (.tuple #[ux (markN w.entry w.q.access),.bool (decide (markN w.entry w.q.access≠w.entry))]) h):X Tryz.prog 84 #[.pointer (some ⟨b,o,none⟩)] h K:=by
 refine fnv (args:=_) mixed [] [] [] Tryz.func84 rfl (by kernel_rfl) (cw_ ?_)
 refine ⟨_,p.ld 11 aggU rfl,cw_ ?_⟩
 refine ⟨_,p.ld 4 aggI4 rfl,cw_ ?_⟩
 refine pmark_x w.entry w.q.access ok.entry ?_
 refine ⟨trivial,cw_ ?_⟩
 exact hk
theorem wask_x (p:Pa h b o el A w.cs B) (ok:w.ok) (hk:K (.tuple #[.agg w.ask.cs.toArray,.bool (!w.ended)]) h):X Tryz.prog 43 #[.pointer (some ⟨b,o,none⟩)] h K:=by
 unfold Wk.ask at hk
 obtain ⟨e,he⟩:∃ e,w.ended=e:=⟨_,rfl⟩
 obtain ⟨m,hm⟩:∃ m,w.mark=m:=⟨_,rfl⟩
 have l12:w.cs[12]? = some (.bool m):=by rw [← hm];rfl
 rw [he,hm] at hk
 cases e with
 | true =>
  refine X.forget ?_
  refine fnv (args:=_) mixed [] [] [] Tryz.func43 rfl (by kernel_rfl) (cw_ ?_)
  refine new_intro (o:=_) (fun z h1 n_z le_z at_z ot_z=>cw_ ?_)
  have p1:=p.le le_z
  refine wended_x p1 ?_
  rw [he]
  conv=>whnf
  refine big_by (v:=.agg Ak.zero.cs.toArray) (by kernel_rfl) (cw_ ?_)
  refine wr_intro (by exact storeA0 (z:=.agg Ak.zero.cs.toArray) sizAk at_z rfl rfl rfl) (fun h2 at_h2 ot_h2=>cw_ ?_)
  refine ⟨_,loadA0 aggAk sizAk at_h2 rfl,cw_ ?_⟩
  exact ⟨h,Hp.le_st n_z le_z ot_h2,hk⟩
 | false =>
  cases m with
  | true =>
   obtain ⟨a,ha⟩:∃ a:Ak,{ Ak.zero with kind:=8,addr:=w.place,size:=8,old:=w.entry,data:=markN w.entry w.q.access }=a:=⟨_,rfl⟩
   have hk':K (.tuple #[.agg a.cs.toArray,.bool true]) h:=ha ▸ hk
   refine X.forget ?_
   refine fnv (args:=_) mixed [] [] [] Tryz.func43 rfl (by kernel_rfl) (cw_ ?_)
   refine new_intro (o:=_) (fun z h1 n_z le_z at_z ot_z=>cw_ ?_)
   have p1:=p.le le_z
   refine wended_x p1 ?_
   rw [he]
   conv=>whnf
   refine ⟨_,p1.ld 12 aggB6 l12,cw_ ?_⟩
   refine wmarked_x p1 ok (cw_ ?_)
   refine ⟨_,p1.ld 10 aggU rfl,cw_ ?_⟩
   refine ⟨_,p1.ld 11 aggU rfl,cw_ ?_⟩
   refine big_by (v:=.agg a.cs.toArray) (by rw [← ha];kernel_rfl) (cw_ ?_)
   refine wr_intro (by exact storeA0 (z:=.agg a.cs.toArray) sizAk at_z rfl rfl (by rw [← ha];rfl)) (fun h2 at_h2 ot_h2=>cw_ ?_)
   refine ⟨trivial,cw_ ?_⟩
   refine ⟨_,loadA0 aggAk sizAk at_h2 rfl,cw_ ?_⟩
   exact ⟨h,Hp.le_st n_z le_z ot_h2,hk'⟩
  | false =>
   obtain ⟨a,ha⟩:∃ a:Ak,{ Ak.zero with kind:=7,addr:=w.place,size:=8 }=a:=⟨_,rfl⟩
   have hk':K (.tuple #[.agg a.cs.toArray,.bool true]) h:=ha ▸ hk
   refine X.forget ?_
   refine fnv (args:=_) mixed [] [] [] Tryz.func43 rfl (by kernel_rfl) (cw_ ?_)
   refine new_intro (o:=_) (fun z h1 n_z le_z at_z ot_z=>cw_ ?_)
   have p1:=p.le le_z
   refine wended_x p1 ?_
   rw [he]
   conv=>whnf
   refine ⟨_,p1.ld 12 aggB6 l12,cw_ ?_⟩
   refine ⟨_,p1.ld 10 aggU rfl,cw_ ?_⟩
   refine big_by (v:=.agg a.cs.toArray) (by rw [← ha];kernel_rfl) (cw_ ?_)
   refine wr_intro (by exact storeA0 (z:=.agg a.cs.toArray) sizAk at_z rfl rfl (by rw [← ha];rfl)) (fun h2 at_h2 ot_h2=>cw_ ?_)
   refine ⟨_,loadA0 aggAk sizAk at_h2 rfl,cw_ ?_⟩
   exact ⟨h,Hp.le_st n_z le_z ot_h2,hk'⟩
end
end
end Go.Proofs.YtdhlpighdlnohaaGreat
namespace Go.Proofs.YtdhlpighdlnohaaGreat
open Go Go.Mid Go.RowKit Go.Bits
attribute [local irreducible] mid
def Sho.cs (s:Sho):List Value:=[.bool s.req.s,.bool s.req.v,.bool s.req.a,ux s.req.va,.int .i64 s.req.asid,ux s.mask,.int .i64 s.next]
def Tn.cs (t:Tn):List Value:=[.int .i64 t.at_,ux t.lines]++(t.wk.cs++([.int .u32 t.word]++(t.x.cs++(t.e.cs++(t.ask.cs++t.shot.cs)))))
def Hd.a (H:Hd):List Value:=[.int .i64 H.id]++(H.c.cs++(wcs H.r++H.f.cs))
def Hd.z (H:Hd) (c:Nat) (s:Value):List Value:=[ux H.pc,.int .i64 H.priv,.pointer (some ⟨c,0,none⟩),.bool H.live,.bool H.parked,.int .i64 H.turns,.int .i64 H.retired]++(H.t.cs++[s])
def Hd.cs (H:Hd) (c:Nat) (s:Value):List Value:=H.a++H.z c s
structure Hd.ok (H:Hd):Prop where
 r:H.r.length=32
 rw:∀ n ∈ H.r,n<2 ^ 64
 f:H.f.ok
 pc:H.pc<2 ^ 64
theorem Hd.ok.len {H:Hd} (o:H.ok):H.a.length=62:=by simp [Hd.a,Cn.cs,o.r,cs_len o.f.len]
abbrev harT:TypeId := 138
theorem sizHar:sizeT Tryz.prog harT=some 133:=by kernel_rfl
def HaR (h:Hp) (b:Nat) (H:Hd) (c:Nat) (s:Value):Prop:=h b=some (rowO harT (H.cs c s))
section
variable {h:Hp} {b c:Nat} {H:Hd} {s:Value}
theorem HaR.z (r:HaR h b H c s) (o:H.a.length=62):Pa h b 62 harT H.a (H.z c s) []:=⟨by rw [List.append_nil];exact r,o⟩
theorem HaR.ofZ {H':Hd} {s':Value} {c':Nat} (e:H'.a=H.a) (r:Pa h b 62 harT H.a (H'.z c' s') []):HaR h b H' c' s':=by
 have:=r.row
 rw [List.append_nil,← e] at this
 exact this
theorem HaR.regs (r:HaR h b H c s):Pa h b 5 harT ([.int .i64 H.id]++H.c.cs) (wcs H.r) (H.f.cs++H.z c s):=⟨by rw [r];simp only [Hd.cs,Hd.a,List.append_assoc],by simp [Cn.cs]⟩
theorem HaR.ofRegs {x:List Nat} (r:Pa h b 5 harT ([.int .i64 H.id]++H.c.cs) (wcs x) (H.f.cs++H.z c s)):HaR h b { H with r:=x } c s:=by
 unfold HaR
 rw [r.row]
 simp only [Hd.cs,Hd.a,List.append_assoc]
 rfl
theorem HaR.file (r:HaR h b H c s) (o:H.r.length=32):Pa h b 37 harT ([.int .i64 H.id]++(H.c.cs++wcs H.r)) H.f.cs (H.z c s):=⟨by rw [r];simp only [Hd.cs,Hd.a,List.append_assoc],by simp [Cn.cs,o]⟩
theorem HaR.ofFile {x:Csf} (r:Pa h b 37 harT ([.int .i64 H.id]++(H.c.cs++wcs H.r)) x.cs (H.z c s)):HaR h b { H with f:=x } c s:=by
 unfold HaR
 rw [r.row]
 simp only [Hd.cs,Hd.a,List.append_assoc]
 rfl
end
end Go.Proofs.YtdhlpighdlnohaaGreat
namespace Go.Proofs.YtdhlpighdlnohaaGreat
open Go Go.Mid Go.RowKit Go.Bits
attribute [local irreducible] mid
section
variable {h:Hp} {K:Value→Hp→Prop}
theorem kind_leads2 {p l:Nat} (h:kindN p l=1):l≠0:=by
 intro e
 subst e
 unfold kindN at h
 split at h
 ·cases h
 ·split at h
  ·split at h <;> cases h
  ·rw [if_pos (.inl rfl)] at h;cases h
theorem kind_le (p l:Nat):kindN p l≤2:=by
 unfold kindN
 repeat' split
 all_goals decide
section
variable {b o:Nat} {el:TypeId} {A B:List Value} {w:Wk}
theorem aggPv:isAggT Tryz.prog 68 = some false:=by kernel_rfl
theorem wtell_x (p:Pa h b o el A w.cs B) (ok:w.ok) (a:An) (hd:a.data<2 ^ 64) (hk:∀ h',Pa h' b o el A (w.tell a.data a.good).cs B→(∀ d,d≠b→h' d=h d)→K (.tuple #[]) h'):X Tryz.prog 52 #[.pointer (some ⟨b,o,none⟩),.agg a.cs.toArray] h K:=by
 refine X.forget ?_
 have hk2:∀ (w':Wk) (hF:Hp),w.tell a.data a.good=w'→Pa hF b o el A w'.cs B→(∀ d x,d≠b→h d=some x→hF d=some x)→∃ g:Hp,g.le hF∧K (.tuple #[]) g:=fun w' hF e q ho=>by
  subst e
  refine ⟨h.set b _,fun d x hx=>?_,hk _ ⟨Hp.set_same _ _ _,q.len⟩ fun d hd=>Hp.set_other _ _ hd⟩
  by_cases hdb:d=b
  ·subst hdb
   rw [Hp.set_same] at hx
   rw [← hx]
   exact q.row
  ·rw [Hp.set_other _ _ hdb] at hx
   exact ho d x hdb hx
 clear hk
 unfold Wk.tell at hk2
 obtain ⟨e,he⟩:∃ e,w.ended=e:=⟨_,rfl⟩
 obtain ⟨m,hm⟩:∃ m,w.mark=m:=⟨_,rfl⟩
 obtain ⟨g,hg⟩:∃ g,a.good=g:=⟨_,rfl⟩
 obtain ⟨dat,hda⟩:∃ g,a.data=g:=⟨_,rfl⟩
 have l12:w.cs[12]? = some (.bool m):=by rw [← hm];rfl
 have g0:a.cs[0]? = some (ux dat):=by rw [← hda];rfl
 have g1:a.cs[1]? = some (.bool g):=by rw [← hg];rfl
 rw [he,hm,hg,hda] at hk2
 rw [hda] at hd
 cases e with
 | true =>
  refine fnj (args:=_) mixed [] [66] [] 0 Tryz.func52 rfl (by kernel_rfl) (by kernel_rfl) (by kernel_rfl) (by kernel_rfl) (cw_ ?_)
  refine new_intro (o:=rowO 86 a.cs) (fun z h1 n_z le_z at_z ot_z=>cw_ ?_)
  have p1:=p.le le_z
  refine wended_x p1 ?_
  rw [he]
  conv=>whnf
  exact hk2 w h1 rfl p1 fun d x _ hx=>le_z d x hx
 | false =>
  cases m with
  | true =>
   cases g with
   | false =>
    refine fnj (args:=_) mixed [] [66] [] 0 Tryz.func52 rfl (by kernel_rfl) (by kernel_rfl) (by kernel_rfl) (by kernel_rfl) (cw_ ?_)
    refine new_intro (o:=rowO 86 a.cs) (fun z h1 n_z le_z at_z ot_z=>cw_ ?_)
    have p1:=p.le le_z
    refine wended_x p1 ?_
    rw [he]
    conv=>whnf
    refine ⟨_,p1.ld 12 aggB6 l12,cw_ ?_⟩
    refine ⟨_,loadC (i:=1) aggB6 at_z g1,cw_ ?_⟩
    refine ⟨_,p1.ld 13 aggI4 rfl,cw_ ?_⟩
    refine ov_by rfl (cw_ ?_)
    refine wr_intro (by exact p1.st 13 sizI4 (by show 13<14;decide) rfl rfl) (fun h2 at_h2 ot_h2=>cw_ ?_)
    refine wstart_x (w:={ w with again:=IntKind.i64.wrap (w.again+1) }) ⟨at_h2,p.len⟩ ⟨ok.root,ok.va,ok.lev,ok.place,ok.entry⟩ fun h3 p3 o3=>(cw_ ?_)
    exact hk2 _ h3 rfl p3 fun d x hdb hx=>by rw [o3 d hdb,ot_h2 d hdb];exact le_z d x hx
   | true =>
    refine fnj (args:=_) mixed [] [66] [] 0 Tryz.func52 rfl (by kernel_rfl) (by kernel_rfl) (by kernel_rfl) (by kernel_rfl) (cw_ ?_)
    refine new_intro (o:=rowO 86 a.cs) (fun z h1 n_z le_z at_z ot_z=>cw_ ?_)
    have p1:=p.le le_z
    refine wended_x p1 ?_
    rw [he]
    conv=>whnf
    refine ⟨_,p1.ld 12 aggB6 l12,cw_ ?_⟩
    refine ⟨_,loadC (i:=1) aggB6 at_z g1,cw_ ?_⟩
    refine wmarked_x p1 ok (cw_ ?_)
    refine wr_intro (by exact p1.st 11 sizU (by show 11<14;decide) rfl rfl) (fun h2 at_h2 ot_h2=>cw_ ?_)
    have p2:Pa h2 b o el A (Wk.cs { w with entry:=markN w.entry w.q.access }) B:=⟨at_h2,p.len⟩
    refine ⟨rfl,cw_ ?_⟩
    refine wr_intro (by exact p2.st 8 sizI4 (by show 8<14;decide) rfl rfl) (fun h3 at_h3 ot_h3=>cw_ ?_)
    have p3:Pa h3 b o el A (Wk.cs { w with entry:=markN w.entry w.q.access,fin:=1 }) B:=⟨at_h3,p.len⟩
    refine wr_intro (by exact p3.st 12 sizB6 (by show 12<14;decide) rfl rfl) (fun h4 at_h4 ot_h4=>cw_ ?_)
    exact hk2 _ h4 rfl ⟨at_h4,p.len⟩ fun d x hdb hx=>by rw [ot_h4 d hdb,ot_h3 d hdb,ot_h2 d hdb];exact le_z d x hx
  | false =>
   have hkl:=kind_le dat w.level
   have okD:({ w with entry:=dat }:Wk).ok:=⟨ok.root,ok.va,ok.lev,ok.place,hd⟩
   obtain ⟨kk,hkk⟩:∃ kk,kindN dat w.level=kk:=⟨_,rfl⟩
   rw [hkk] at hkl hk2
   have c3:kk=0∨kk=1∨kk=2:=by omega
   rcases c3 with rfl | rfl | rfl
   ·refine fnj (args:=_) mixed [] [66] [] 0 Tryz.func52 rfl (by kernel_rfl) (by kernel_rfl) (by kernel_rfl) (by kernel_rfl) (cw_ ?_)
    refine new_intro (o:=rowO 86 a.cs) (fun z h1 n_z le_z at_z ot_z=>cw_ ?_)
    have p1:=p.le le_z
    refine wended_x p1 ?_
    rw [he]
    conv=>whnf
    refine ⟨_,p1.ld 12 aggB6 l12,cw_ ?_⟩
    refine ⟨_,loadC0 aggU at_z g0,cw_ ?_⟩
    refine wr_intro (by exact p1.st 11 sizU (by show 11<14;decide) rfl rfl) (fun h2 at_h2 ot_h2=>cw_ ?_)
    have p2:Pa h2 b o el A (Wk.cs { w with entry:=dat }) B:=⟨at_h2,p.len⟩
    have ho2:∀ d x,d≠b→h d=some x→h2 d=some x:=fun d x hdb hx=>by rw [ot_h2 d hdb];exact le_z d x hx
    refine ⟨_,p2.ld 11 aggU rfl,cw_ ?_⟩
    refine ⟨_,p2.ld 9 aggI4 rfl,cw_ ?_⟩
    refine pgkind_x dat w.level hd ok.lev ?_
    rw [hkk]
    refine ⟨trivial,cw_ ?_⟩
    refine wr_intro (by exact p2.st 8 sizI4 (by show 8<14;decide) rfl rfl) (fun h3 at_h3 ot_h3=>cw_ ?_)
    exact hk2 { w with entry:=dat,fin:=2 } h3 (by simp [hm]) ⟨at_h3,p.len⟩ fun d x hdb hx=>by rw [ot_h3 d hdb];exact ho2 d x hdb hx
   ·have hl0:=kind_leads2 hkk
    obtain ⟨lv,hlv⟩:∃ lv,w.level=lv+1:=⟨w.level - 1,by omega⟩
    have hok:=ok.lev
    refine fnj (args:=_) mixed [] [66] [] 0 Tryz.func52 rfl (by kernel_rfl) (by kernel_rfl) (by kernel_rfl) (by kernel_rfl) (cw_ ?_)
    refine new_intro (o:=rowO 86 a.cs) (fun z h1 n_z le_z at_z ot_z=>cw_ ?_)
    have p1:=p.le le_z
    refine wended_x p1 ?_
    rw [he]
    conv=>whnf
    refine ⟨_,p1.ld 12 aggB6 l12,cw_ ?_⟩
    refine ⟨_,loadC0 aggU at_z g0,cw_ ?_⟩
    refine wr_intro (by exact p1.st 11 sizU (by show 11<14;decide) rfl rfl) (fun h2 at_h2 ot_h2=>cw_ ?_)
    have p2:Pa h2 b o el A (Wk.cs { w with entry:=dat }) B:=⟨at_h2,p.len⟩
    have ho2:∀ d x,d≠b→h d=some x→h2 d=some x:=fun d x hdb hx=>by rw [ot_h2 d hdb];exact le_z d x hx
    refine ⟨_,p2.ld 11 aggU rfl,cw_ ?_⟩
    refine ⟨_,p2.ld 9 aggI4 rfl,cw_ ?_⟩
    refine pgkind_x dat w.level hd ok.lev ?_
    rw [hkk]
    refine ⟨trivial,cw_ ?_⟩
    refine ⟨_,p2.ld 11 aggU rfl,cw_ ?_⟩
    refine ⟨_,pgppn_x dat hd ⟨rfl,rfl⟩,cw_ ?_⟩
    refine ⟨_,p2.ld 9 aggI4 rfl,cw_ ?_⟩
    refine ov_is (show ((w.level:Nat):Int) - 1=((w.level - 1:Nat):Int) by omega) (by omega) (cw_ ?_)
    refine wlook_x p2 okD (ppnN dat) (w.level - 1) (Nat.lt_of_lt_of_le (Nat.mod_lt _ (by decide)) (by decide)) (by omega) fun h3 p3 o3=>?_
    refine ⟨trivial,cw_ ?_⟩
    exact hk2 _ h3 (by rfl) p3 fun d x hdb hx=>by rw [o3 d hdb];exact ho2 d x hdb hx
   ·obtain ⟨le,hle⟩:∃ le,letsP dat w.q.access w.q.priv w.q.sum w.q.mxr=le:=⟨_,rfl⟩
    obtain ⟨mk,hmk⟩:∃ mk,markN dat w.q.access=mk:=⟨_,rfl⟩
    rw [hle,hmk] at hk2
    refine fnj (args:=_) mixed [] [66] [] 0 Tryz.func52 rfl (by kernel_rfl) (by kernel_rfl) (by kernel_rfl) (by kernel_rfl) (cw_ ?_)
    refine new_intro (o:=rowO 86 a.cs) (fun z h1 n_z le_z at_z ot_z=>cw_ ?_)
    have p1:=p.le le_z
    refine wended_x p1 ?_
    rw [he]
    conv=>whnf
    refine ⟨_,p1.ld 12 aggB6 l12,cw_ ?_⟩
    refine ⟨_,loadC0 aggU at_z g0,cw_ ?_⟩
    refine wr_intro (by exact p1.st 11 sizU (by show 11<14;decide) rfl rfl) (fun h2 at_h2 ot_h2=>cw_ ?_)
    have p2:Pa h2 b o el A (Wk.cs { w with entry:=dat }) B:=⟨at_h2,p.len⟩
    have ho2:∀ d x,d≠b→h d=some x→h2 d=some x:=fun d x hdb hx=>by rw [ot_h2 d hdb];exact le_z d x hx
    refine ⟨_,p2.ld 11 aggU rfl,cw_ ?_⟩
    refine ⟨_,p2.ld 9 aggI4 rfl,cw_ ?_⟩
    refine pgkind_x dat w.level hd ok.lev ?_
    rw [hkk]
    refine ⟨trivial,cw_ ?_⟩
    refine ⟨_,p2.ld 11 aggU rfl,cw_ ?_⟩
    refine ⟨_,p2.ld 4 aggI4 rfl,cw_ ?_⟩
    refine ⟨_,p2.ld 5 aggPv rfl,cw_ ?_⟩
    refine ⟨_,p2.ld 6 aggB6 rfl,cw_ ?_⟩
    refine ⟨_,p2.ld 7 aggB6 rfl,cw_ ?_⟩
    refine plets_x dat w.q.access w.q.priv w.q.sum w.q.mxr hd ?_
    rw [hle]
    refine ⟨trivial,cw_ ?_⟩
    cases le with
    | false =>
     conv=>whnf
     refine wr_intro (by exact p2.st 8 sizI4 (by show 8<14;decide) rfl rfl) (fun h3 at_h3 ot_h3=>cw_ ?_)
     exact hk2 { w with entry:=dat,fin:=2 } h3 (by simp [hm]) ⟨at_h3,p.len⟩ fun d x hdb hx=>by rw [ot_h3 d hdb];exact ho2 d x hdb hx
    | true =>
     conv=>whnf
     refine wmarked_x p2 okD (cw_ ?_)
     rw [show markN (Wk.entry { w with entry:=dat }) (Wk.q { w with entry:=dat }).access=mk from hmk]
     by_cases hq:mk≠dat
     ·rw [show decide (mk≠Wk.entry { w with entry:=dat })=true from decide_eq_true hq]
      conv=>whnf
      refine wr_intro (by exact p2.st 12 sizB6 (by show 12<14;decide) rfl rfl) (fun h3 at_h3 ot_h3=>cw_ ?_)
      exact hk2 { w with entry:=dat,mark:=true } h3 (by rw [if_pos hq];rfl) ⟨at_h3,p.len⟩ fun d x hdb hx=>by rw [ot_h3 d hdb];exact ho2 d x hdb hx
     ·rw [show decide (mk≠Wk.entry { w with entry:=dat })=false from decide_eq_false hq]
      conv=>whnf
      refine wr_intro (by exact p2.st 8 sizI4 (by show 8<14;decide) rfl rfl) (fun h3 at_h3 ot_h3=>cw_ ?_)
      have p3:Pa h3 b o el A (Wk.cs { w with entry:=dat,fin:=1 }) B:=⟨at_h3,p.len⟩
      refine wr_intro (by exact p3.st 12 sizB6 (by show 12<14;decide) rfl rfl) (fun h4 at_h4 ot_h4=>cw_ ?_)
      exact hk2 { w with entry:=dat,fin:=1,mark:=false } h4 (by rw [if_neg hq];rfl) ⟨at_h4,p.len⟩ fun d x hdb hx=>by rw [ot_h4 d hdb,ot_h3 d hdb];exact ho2 d x hdb hx
theorem wend_x (p:Pa h b o el A w.cs B) (ok:w.ok) (hk:K (.tuple #[.int .i64 w.end_,.agg w.found.cs.toArray]) h):X Tryz.prog 160 #[.pointer (some ⟨b,o,none⟩)] h K:=by
 obtain ⟨m,hm⟩:∃ m,w.made=m:=⟨_,rfl⟩
 obtain ⟨f,hf⟩:∃ f,w.fin=f:=⟨_,rfl⟩
 have l0:w.cs[0]? = some (.bool m):=by rw [← hm];rfl
 have l8:w.cs[8]? = some (.int .i64 f):=by rw [← hf];rfl
 unfold Wk.end_ Wk.found at hk
 rw [hm,hf] at hk
 refine fnv (args:=_) mixed [(3,3)] [109] [] Tryz.func160 rfl (by kernel_rfl) (cw_ ?_)
 refine ⟨_,p.ld 0 aggB6 l0,cw_ ?_⟩
 cases m with
 | false =>
  conv=>whnf
  exact hk
 | true =>
  conv=>whnf
  refine ⟨_,p.ld 8 aggI4 l8,cw_ ?_⟩
  rw [if_pos rfl] at hk
  by_cases q:f=1
  ·subst q
   rw [if_pos ⟨rfl,rfl⟩] at hk
   conv=>whnf
   refine ⟨_,p.ld 3 aggU rfl,cw_ ?_⟩
   refine ⟨_,p.ld 9 aggI4 rfl,cw_ ?_⟩
   refine ⟨_,vpage_x w.q.va w.level ok.va ok.lev ⟨rfl,rfl⟩,cw_ ?_⟩
   refine ⟨_,p.ld 9 aggI4 rfl,cw_ ?_⟩
   refine ⟨_,p.ld 11 aggU rfl,cw_ ?_⟩
   exact hk
  ·rw [if_neg (fun e=>q e.2)] at hk
   conv=>whnf
   refine bt_ ?_ (by simp;exact q)
   refine ⟨_,p.ld 8 aggI4 l8,cw_ ?_⟩
   exact hk
end
theorem aggWk:isAggT Tryz.prog 125 = some true:=by kernel_rfl
theorem sizWk:sizeT Tryz.prog 125 = some 14:=by kernel_rfl
theorem wbegin_x (q:Qu) (hr:q.root<2 ^ 64) (hv:q.va<2 ^ 64) (hk:K (.agg (Wk.begin q).cs.toArray) h):X Tryz.prog 272 #[.agg q.cs.toArray] h K:=by
 refine X.forget ?_
 obtain ⟨m,hm⟩:∃ m,decide (mayN q.va)=m:=⟨_,rfl⟩
 refine fnv (args:=_) mixed [(1,1),(6,1),(2,2)] [] [] Tryz.func272 rfl (by kernel_rfl) (cw_ ?_)
 refine new_intro (o:=_) (fun b h1 n_b le_b at_b ot_b=>cw_ ?_)
 refine wr_intro (by exact storeA0 (z:=.agg (Wk.cs { Wk.zero with made:=true,q:=q }).toArray) sizWk at_b rfl rfl rfl) (fun h2 at_h2 ot_h2=>cw_ ?_)
 have p2:Pa h2 b 0 125 [] (Wk.cs { Wk.zero with made:=true,q:=q }) []:=⟨at_h2,rfl⟩
 refine pgmay_x q.va hv ?_
 rw [hm]
 unfold Wk.begin at hk
 have hZ:({ Wk.zero with made:=true,q:=q }:Wk).ok:=⟨hr,hv,by show (0:Nat)≤2;decide,by show (0:Nat)<2 ^ 64;decide,by show (0:Nat)<2 ^ 64;decide⟩
 cases m with
 | false =>
  rw [if_neg (of_decide_eq_false hm)] at hk
  conv=>whnf
  refine wr_intro (by exact p2.st 8 sizI4 (by show 8<14;decide) rfl rfl) (fun h3 at_h3 ot_h3=>cw_ ?_)
  refine ⟨_,loadA0 (n:=14) aggWk sizWk at_h3 rfl,cw_ ?_⟩
  exact ⟨h,Hp.le_st n_b le_b fun c hc=>by rw [ot_h3 c hc,ot_h2 c hc],hk⟩
 | true =>
  rw [if_pos (of_decide_eq_true hm)] at hk
  conv=>whnf
  refine wstart_x p2 hZ fun h3 p3 o3=>(cw_ ?_)
  have r3:=p3.row
  rw [List.append_nil] at r3
  refine ⟨_,loadA0 (n:=14) aggWk sizWk r3 rfl,cw_ ?_⟩
  exact ⟨h,Hp.le_st n_b le_b fun c hc=>by rw [o3 c hc,ot_h2 c hc],hk⟩
end
end Go.Proofs.YtdhlpighdlnohaaGreat
