/-
  THE MIDDLE LAYER: what an interface value holds, asserted.
-/
import Derived.Test.YtdhkjcdneidgaaaGreatDoorLinS
import Derived.RecoverIn
set_option linter.unusedSimpArgs false
set_option linter.unusedVariables false
set_option maxHeartbeats 8000000
set_option maxRecDepth 10000
set_option linter.unusedSimpArgs false
set_option linter.unusedVariables false
namespace Go.Proofs.YtdhkjcdneidgaaaGreatDoor
open Go Go.Mid Go.RowKit
attribute [local irreducible] mid
section
variable {h:Hp} {K:Value→Hp→Prop}
def opNames:List Str:=[[108,117,105],[97,117,105,112,99],[106,97,108],[106,97,108,114],[98,101,113],[98,110,101],[98,108,116],[98,103,101],[98,108,116,117],[98,103,101,117],[108,98],[108,104],[108,119],[108,100],[108,98,117],[108,104,117],[108,119,117],[115,98],[115,104],[115,119],[115,100],[97,100,100,105],[115,108,116,105],[115,108,116,105,117],[120,111,114,105],[111,114,105],[97,110,100,105],[115,108,108,105],[115,114,108,105],[115,114,97,105],[97,100,100],[115,117,98],[115,108,108],[115,108,116],[115,108,116,117],[120,111,114],[115,114,108],[115,114,97],[111,114],[97,110,100],[97,100,100,105,119],[115,108,108,105,119],[115,114,108,105,119],[115,114,97,105,119],[97,100,100,119],[115,117,98,119],[115,108,108,119],[115,114,108,119],[115,114,97,119],[102,101,110,99,101],[102,101,110,99,101,46,105],[101,99,97,108,108],[101,98,114,101,97,107],[109,117,108],[109,117,108,104],[109,117,108,104,115,117],[109,117,108,104,117],[100,105,118],[100,105,118,117],[114,101,109],[114,101,109,117],[109,117,108,119],[100,105,118,119],[100,105,118,117,119],[114,101,109,119],[114,101,109,117,119],[108,114,46,119],[115,99,46,119],[97,109,111,115,119,97,112,46,119],[97,109,111,97,100,100,46,119],[97,109,111,120,111,114,46,119],[97,109,111,97,110,100,46,119],[97,109,111,111,114,46,119],[97,109,111,109,105,110,46,119],[97,109,111,109,97,120,46,119],[97,109,111,109,105,110,117,46,119],[97,109,111,109,97,120,117,46,119],[108,114,46,100],[115,99,46,100],[97,109,111,115,119,97,112,46,100],[97,109,111,97,100,100,46,100],[97,109,111,120,111,114,46,100],[97,109,111,97,110,100,46,100],[97,109,111,111,114,46,100],[97,109,111,109,105,110,46,100],[97,109,111,109,97,120,46,100],[97,109,111,109,105,110,117,46,100],[97,109,111,109,97,120,117,46,100],[99,115,114,114,119],[99,115,114,114,115],[99,115,114,114,99],[99,115,114,114,119,105],[99,115,114,114,115,105],[99,115,114,114,99,105],[109,114,101,116],[115,114,101,116],[119,102,105],[115,102,101,110,99,101,46,118,109,97]]
def opWords:Str:=[108,117,105,32,97,117,105,112,99,32,106,97,108,32,106,97,108,114,32,98,101,113,32,98,110,101,32,98,108,116,32,98,103,101,32,98,108,116,117,32,98,103,101,117,32,108,98,32,108,104,32,108,119,32,108,100,32,108,98,117,32,108,104,117,32,108,119,117,32,115,98,32,115,104,32,115,119,32,115,100,32,97,100,100,105,32,115,108,116,105,32,115,108,116,105,117,32,120,111,114,105,32,111,114,105,32,97,110,100,105,32,115,108,108,105,32,115,114,108,105,32,115,114,97,105,32,97,100,100,32,115,117,98,32,115,108,108,32,115,108,116,32,115,108,116,117,32,120,111,114,32,115,114,108,32,115,114,97,32,111,114,32,97,110,100,32,97,100,100,105,119,32,115,108,108,105,119,32,115,114,108,105,119,32,115,114,97,105,119,32,97,100,100,119,32,115,117,98,119,32,115,108,108,119,32,115,114,108,119,32,115,114,97,119,32,102,101,110,99,101,32,102,101,110,99,101,46,105,32,101,99,97,108,108,32,101,98,114,101,97,107,32,109,117,108,32,109,117,108,104,32,109,117,108,104,115,117,32,109,117,108,104,117,32,100,105,118,32,100,105,118,117,32,114,101,109,32,114,101,109,117,32,109,117,108,119,32,100,105,118,119,32,100,105,118,117,119,32,114,101,109,119,32,114,101,109,117,119,32,108,114,46,119,32,115,99,46,119,32,97,109,111,115,119,97,112,46,119,32,97,109,111,97,100,100,46,119,32,97,109,111,120,111,114,46,119,32,97,109,111,97,110,100,46,119,32,97,109,111,111,114,46,119,32,97,109,111,109,105,110,46,119,32,97,109,111,109,97,120,46,119,32,97,109,111,109,105,110,117,46,119,32,97,109,111,109,97,120,117,46,119,32,108,114,46,100,32,115,99,46,100,32,97,109,111,115,119,97,112,46,100,32,97,109,111,97,100,100,46,100,32,97,109,111,120,111,114,46,100,32,97,109,111,97,110,100,46,100,32,97,109,111,111,114,46,100,32,97,109,111,109,105,110,46,100,32,97,109,111,109,97,120,46,100,32,97,109,111,109,105,110,117,46,100,32,97,109,111,109,97,120,117,46,100,32,99,115,114,114,119,32,99,115,114,114,115,32,99,115,114,114,99,32,99,115,114,114,119,105,32,99,115,114,114,115,105,32,99,115,114,114,99,105,32,109,114,101,116,32,115,114,101,116,32,119,102,105,32,115,102,101,110,99,101,46,118,109,97]
def splitSp:Str→List Str
 | []=>[[]]
 | c :: r=>if c=32 then [] :: splitSp r else match splitSp r with
  | []=>[[c]]
  | x :: l=>(c :: x) :: l
theorem splitSp_at:∀ (u r:Str),(∀ c ∈ u,c≠32)→splitSp (u++32 :: r)=u :: splitSp r
 | [],r,_=>by simp [splitSp]
 | c :: u,r,hu=>by
  show splitSp (c :: (u++32 :: r))=_
  rw [splitSp,if_neg (hu c (by simp)),splitSp_at u r (fun x hx=>hu x (by simp [hx]))]
theorem splitSp_last:∀ (u:Str),(∀ c ∈ u,c≠32)→splitSp u=[u]
 | [],_=>by simp [splitSp]
 | c :: u,hu=>by
  rw [splitSp,if_neg (hu c (by simp)),splitSp_last u (fun x hx=>hu x (by simp [hx]))]
theorem opWords_split:splitSp opWords=opNames:=by decide +kernel
theorem opWords_len:opWords.length=558:=by decide +kernel
theorem opNames_len:opNames.length=98:=by decide +kernel
theorem opWords_ascii:∀ c ∈ opWords,c.toNat<128:=by decide +kernel
theorem dec_ascii {l:Str} {i:Nat} {c:UInt8} (hc:l[i]? = some c) (ha:c.toNat<128):Utf8.decode (bs l) i=(c.toNat,1):=by
 obtain ⟨hi,e⟩:=List.getElem?_eq_some_iff.1 hc
 have e0:((bs l).get! (i+0)).toNat=c.toNat:=by
  congr 1
  show (bs l).data[i+0]! = c
  rw [Nat.add_zero,getElem!_pos (bs l).data i (by show i<l.toArray.size;simpa using hi)]
  show l.toArray[i]=c
  rw [List.getElem_toArray];exact e
 unfold Utf8.decode
 simp only [e0]
 rw [if_pos (by omega)]
theorem aggY0:isAggT Tryz.prog 87=some false:=by kernel_rfl
theorem nextW {h:Hp} {it p:Nat} {l:Str} {c:UInt8} (hi:h it=some (.stringIter (bs l) p)) (hc:l[p]? = some c) (ha:c.toNat<128) :
  nextH h (.pointer (some ⟨it,0,none⟩))=some (.tuple #[.bool true,.int .i64 p,.int .i32 c.toNat],some (it,.stringIter (bs l) (p+1))):=by
 unfold nextH
 simp only [hi,dec_ascii hc ha]
 rw [if_pos (by rw [bs_size];exact (List.getElem?_eq_some_iff.1 hc).1)]
theorem nextE {h:Hp} {it:Nat} {l:Str} (hi:h it=some (.stringIter (bs l) l.length)):nextH h (.pointer (some ⟨it,0,none⟩))=some (.tuple #[.bool false],none):=by
 unfold nextH
 simp only [hi]
 rw [if_neg (by rw [bs_size];omega)]
attribute [irreducible] opNames
theorem all1_x (y:Value)
  (hs:∀ it,h it=none→∃ I:Nat→Hp→Prop,(∀ o,I 0 (h.set it o))∧(∀ i h' o,I i h'→I i (h'.set it o)) ∧
   (∀ i x h',opNames[i]? = some x→I i h'→YV Tryz.prog y [.int .i64 (i+1:Nat),sv x] h' fun v h''=>∃ go:Bool,v=.bool go∧(go=true→I (i+1) h''∧h'' it=h' it)∧(go=false→K (.tuple #[]) h''))∧(∀ h',I 98 h'→K (.tuple #[]) h')):X Tryz.prog 221 #[y] h K:=by
 have hasc:∀ (i:Nat) (c:UInt8),opWords[i]? = some c→c.toNat<128:=fun i c hc=>opWords_ascii c (List.mem_of_getElem? hc)
 have hlen:=opWords_len
 have hnl:=opNames_len
 have hspl:=opWords_split
 refine fnv (args:=_) mixed [] [] [] Tryz.func221 rfl (by kernel_rfl) (cw_ ?_)
 intro it hit
 obtain ⟨I,i0,i1,i2,i3⟩:=hs it hit
 have hi0:=i0 (.stringIter (bs opWords) 0)
 clear i0
 refine loop_at [2,3] [] (fun r vs _ h'=>∃ p f k:Nat,h' it=some (.stringIter (bs opWords) p)∧p≤558∧f≤p∧r=558 - p∧vs=[.v (.int .i64 (k+1:Nat)),.v (.int .i64 f)]∧opNames.drop k=splitSp (opWords.drop f)∧(∀ c ∈ (opWords.take p).drop f,c≠32)∧I k h') 558 ⟨0,0,0,Hp.set_same _ _ _,by omega,by omega,by omega,rfl,by rw [List.drop_zero,List.drop_zero,hspl],by simp,hi0⟩ ?_
 rintro r vs cs mm bx h1 ⟨p,f,k,hI,hp,hf,rfl,rfl,hsp,hno,hIk⟩
 by_cases hpl:p=558
 ·subst hpl
  rw [show (558:Nat)=opWords.length from hlen.symm] at hI
  have hu:(opWords.take 558).drop f=opWords.drop f:=by rw [List.take_of_length_le (Nat.le_of_eq hlen)]
  rw [hu] at hno
  rw [splitSp_last _ hno] at hsp
  have hk1:k+1=98:=by
   have:=congrArg List.length hsp
   simp [hnl] at this
   omega
  have hnk:opNames[k]? = some (opWords.drop f):=by
   have:=congrArg (fun l=>l[0]?) hsp
   simpa using this
  have hyk:=i2 k _ h1 hnk hIk
  conv=>whnf
  refine io_none (nextE hI) (cw_ ?_)
  refine n_ ?_ (hc:=by exact ⟨by omega,by show _≤((558:Nat):Int);omega⟩)
  refine sub_by (l:=opWords) (m:=opWords.drop f) (by rw [show ((f:Int)).toNat=f by omega];exact hu) (cw_ ?_)
  refine aRunK_yv rfl rfl rfl (hyk.mono ?_)
  rintro v h2 ⟨go,rfl,g1,g2⟩
  cases go with
  | true =>
   conv=>whnf
   exact i3 _ (by rw [← hk1];exact (g1 rfl).1)
  | false =>
   conv=>whnf
   exact g2 rfl
 ·obtain ⟨c,hc⟩:∃ c,opWords[p]? = some c:=⟨_,List.getElem?_eq_getElem (by omega)⟩
  have hsplit:opWords.drop f=(opWords.take p).drop f++c :: opWords.drop (p+1):=by
   obtain ⟨hp2,rfl⟩:=List.getElem?_eq_some_iff.1 hc
   rw [← List.drop_eq_getElem_cons hp2,← List.drop_append_of_le_length (by rw [List.length_take];omega),List.take_append_drop]
  conv=>whnf
  refine io_intro (by exact nextW hI hc (hasc p c hc)) (fun h2 at_h2 ot_h2=>cw_ ?_)
  have e2:=Hp.eq_set at_h2 ot_h2
  have hI2:I k h2:=by rw [e2];exact i1 _ _ _ hIk
  refine br_ (fun q1=>?_) fun q1=>?_
  ·have hc32:c≠32:=fun e=>by subst e;exact q1 rfl
   conv=>whnf
   refine ⟨558 - (p+1),by omega,p+1,f,k,at_h2,by omega,by omega,rfl,rfl,hsp,fun d hd=>?_,hI2⟩
   rw [List.take_add_one,hc,List.drop_append_of_le_length (by rw [List.length_take];omega)] at hd
   rcases List.mem_append.1 hd with hd | hd
   ·exact hno d hd
   ·simp at hd;subst hd;exact hc32
  ·have hc32:c=32:=by
    apply UInt8.toNat_inj.1
    show c.toNat=32
    omega
   subst hc32
   rw [hsplit,splitSp_at _ _ hno] at hsp
   have hnk:opNames[k]? = some ((opWords.take p).drop f):=by
    have:=congrArg (fun l=>l[0]?) hsp
    simpa using this
   have hyk:=i2 k _ h2 hnk hI2
   have hsp2:opNames.drop (k+1)=splitSp (opWords.drop (p+1)):=by
    have:=congrArg (fun l=>l.drop 1) hsp
    simpa [List.drop_drop] using this
   have hk98:k<98:=by
    have:=(List.getElem?_eq_some_iff.1 hnk).1
    omega
   conv=>whnf
   refine n_ ?_ (hc:=by exact ⟨by omega,by show _≤((558:Nat):Int);omega⟩)
   refine n_ ?_
   refine sub_by (l:=opWords) (m:=(opWords.take p).drop f) (by rw [show ((f:Int)).toNat=f by omega,show ((p:Int)).toNat=p by omega]) (cw_ ?_)
   refine aRunK_yv rfl rfl rfl (hyk.mono ?_)
   rintro v h3 ⟨go,rfl,g1,g2⟩
   cases go with
   | true =>
    obtain ⟨g3,g4⟩:=g1 rfl
    conv=>whnf
    refine n_ ?_
    refine n_ ?_
    refine ⟨558 - (p+1),by omega,p+1,p+1,k+1,g4.trans at_h2,by omega,by omega,rfl,rfl,hsp2,fun d hd=>?_,g3⟩
    rw [List.drop_eq_nil_of_le (by rw [List.length_take];omega)] at hd
    cases hd
   | false =>
    conv=>whnf
    exact g2 rfl
theorem all_x (hk:K (.func (.func 221) #[] #[]) h):X Tryz.prog 206 #[] h K:=by
 refine fnv (args:=_) mixed [] [] [] Tryz.func206 rfl (by kernel_rfl) (cw_ ?_)
 exact hk
def opName (n:Int):Str:=if 1≤n∧n≤98 then opNames.getD (n.toNat - 1) [] else []
theorem aggSt:isAggT Tryz.prog 9=some false:=by kernel_rfl
end
end Go.Proofs.YtdhkjcdneidgaaaGreatDoor
namespace Go.Mid
open Go Go.RowKit
def isDef (o:Oper):Bool:=match o.op with
 | .defer _=>true
 | _=>false
def anyL {α:Type} (f:α→Bool):List α→Bool
 | []=>false
 | x :: r=>match f x with
  | true=>true
  | false=>anyL f r
noncomputable def hasDef (c:Code):Bool :=
 Code.rec (motive:=fun _=>Bool) false (fun _ ops _=>anyL isDef ops.toList) (fun _ _ a b=>match a with
  | true=>true
  | false=>b) (fun _ _ _ a b=>match a with
  | true=>true
  | false=>b) (fun _ _ a=>a) (fun _ a=>a) (fun _ _ _ _ a b=>match a with
  | true=>true
  | false=>b) (fun _=>false) (fun _ a=>a) (fun _=>false) (fun _=>false) false (fun _=>false) c
abbrev DK:=Exit→ME→Hp→List Deferred→Prop
abbrev DC:=ME→Hp→List Deferred→DK→Prop
def fstep (P:Program) (rf:RF) (ops:Array Oper) (o:Oper) (ih:DC) (e:ME) (h:Hp) (ds:List Deferred) (K:DK):Prop :=
 vguard ops o e fun b e1=>match b with
  | true=>match o.op with
   | .defer c=>match c.callee with
    | .value x=>match ev e1 x with
     | .v (.func fn first cap)=>(allV e1 o.op && noSel o.op)=true∧ih ((dstU o.dst (.v undef)).app rf e1) h ({ target:=.fn fn cap,args:=(first.toList++c.args.toList.map (vals e1)).toArray } :: ds) K
     | _=>False
    | _=>False
   | _=>planK P rf o e1 fun pl=>runK P rf o pl e1 h fun e' h'=>ih e' h' ds K
  | false=>ih ((dstU o.dst (.v undef)).app rf e1) h ds K
def flist (P:Program) (rf:RF) (ops:Array Oper) (l:List Oper):DC :=
 List.rec (motive:=fun _=>DC) (fun e h ds K=>K .normal e h ds) (fun o _ ih=>fstep P rf ops o ih) l
def vD (P:Program) (rf:RF) (cl:Nat→Oper→Cl) (pm:List (Nat×List Nat)) (c:Code):DC:=fun e h ds K=>vcode P rf cl pm c e h fun ex e' h'=>K ex e' h' ds
noncomputable def dif (c:Code) (A B:DC):DC:=fun e h ds K=>match hasDef c with
 | true=>A e h ds K
 | false=>B e h ds K
noncomputable def dcode (P:Program) (rf:RF) (cl:Nat→Oper→Cl) (pm:List (Nat×List Nat)) (c:Code):DC :=
 Code.rec (motive:=fun _=>DC)
  (fun e h ds K=>K .normal e h ds)
  (fun id ops draw=>dif (.region id ops draw) (match draw with
   | true=>fun _ _ _ _=>False
   | false=>flist P rf ops ops.toList) (vD P rf cl pm (.region id ops draw)))
  (fun a b A B=>dif (.seq a b) (fun e h ds K=>A e h ds fun ex e' h' ds'=>match ex with
   | .normal=>B e' h' ds' K
   | ex=>K ex e' h' ds') (vD P rf cl pm (.seq a b)))
  (fun c a b _ _=>dif (.cond c a b) (fun _ _ _ _=>False) (vD P rf cl pm (.cond c a b)))
  (fun id b _=>dif (.block id b) (fun _ _ _ _=>False) (vD P rf cl pm (.block id b)))
  (fun b _=>dif (.loop b) (fun _ _ _ _=>False) (vD P rf cl pm (.loop b)))
  (fun g ps a b _ _=>dif (.rangeFunc g ps a b) (fun _ _ _ _=>False) (vD P rf cl pm (.rangeFunc g ps a b)))
  (fun id e h ds K=>K (.exit id) e h ds)
  (fun b A=>dif (.scope b) (fun e h ds K=>A e h ds fun ex e' h' ds'=>match ex with
   | .goto _=>False
   | ex=>K ex e' h' ds') (vD P rf cl pm (.scope b)))
  (fun _ e h ds K=>K .normal e h ds)
  (fun l e h ds K=>K (.goto l) e h ds)
  (fun e h ds K=>K .ret e h ds)
  (fun _ _ _ _ _=>False) c
def GoesD (rf:RF) (N:Nat) (w0:World) (h0:Hp) (we:World) (K:DK) (ex:Exit) (a:Go.Act) (w:World):Prop:=∃ e h ds,At rf N ⟨ds,false⟩ w0 h0 we e h a w∧K ex e h ds
section
variable {P:Program} {rf:RF} {ops:Array Oper} {N:Nat}
theorem opD_sound {nn:Nat} {w0:World} {h0:Hp} {we:World} {dz:List Deferred} {e:ME} {h:Hp} {a:Go.Act} {w:World} {o:Oper} {ih:DC} {K:DK} {Q:Exit→Go.Act→World→Prop} {i:Nat} (hi:ops[i]? = some o) (hd:∀ k,o.dst=some k→k<N) (s:At rf N ⟨dz,false⟩ w0 h0 we e h a w) (hr:fstep P rf ops o ih e h dz K) :
  wpOpIn (FW none) nn P ops Q i (fun a' w'=>∃ e' h' ds',At rf N ⟨ds',false⟩ w0 h0 we e' h' a' w'∧ih e' h' ds' K) a w:=by
 have hr:vguard ops o e fun b e1=>match b with
  | true=>match o.op with
   | .defer c=>match c.callee with
    | .value x=>match ev e1 x with
     | .v (.func fn first cap)=>(allV e1 o.op && noSel o.op)=true∧ih ((dstU o.dst (.v undef)).app rf e1) h ({ target:=.fn fn cap,args:=(first.toList++c.args.toList.map (vals e1)).toArray } :: dz) K
     | _=>False
    | _=>False
   | _=>planK P rf o e1 fun pl=>runK P rf o pl e1 h fun e' h'=>ih e' h' dz K
  | false=>ih ((dstU o.dst (.v undef)).app rf e1) h dz K:=hr
 obtain ⟨b,hw,hr⟩:=vguard_elim hr
 have reg:∀ {KK:ME→Hp→Prop},run1 P rf o (planG P rf ops o e) e h KK→(∀ e' h',KK e' h'→ih e' h' dz K)→wpOpIn (FW none) nn P ops Q i (fun a' w'=>∃ e' h' ds',At rf N ⟨ds',false⟩ w0 h0 we e' h' a' w'∧ih e' h' ds' K) a w :=
  fun hh hk=>wpOpIn_mono (fun a' w' ⟨e',h',s',k⟩=>⟨e',h',dz,s',hk _ _ k⟩) (op_sound hi hd s hh)
 cases b with
 | false =>
  refine reg (KK:=fun e' h'=>ih e' h' dz K) ?_ fun _ _ k=>k
  unfold planG
  rw [hw]
  exact hr
 | true =>
  simp only at hr
  split at hr
  ·rename_i c hc
   split at hr
   ·rename_i x hx
    split at hr
    ·rename_i fn first cap hf
     obtain ⟨hv,hr⟩:=hr
     unfold wpOpIn
     rw [hi]
     simp only [want_sound s hw,if_true]
     refine ⟨fun _ _=>trivial,?_⟩
     have hex:=s.exec hv
     have hvx:vals e x=.func fn first cap:=by
      unfold vals;rw [hf];rfl
     have hrun:(execOp (vals e) o).run P w=.ok (.defer { target:=.fn fn cap,args:=(first.toList++c.args.toList.map (vals e)).toArray }) w:=by
      unfold execOp
      rw [hc]
      have:(first.toList++c.args.toList.map (vals e)).toArray=first++c.args.map (vals e):=by apply Array.ext';simp
      rw [this]
      simp [resolve,hx,hvx,Deferred.ofValue]
     rw [← hex] at hrun
     have hrun2:(o.semAt (FW none).round a.eval).run P w=.ok (.defer { target:=.fn fn cap,args:=(first.toList++c.args.toList.map (vals e)).toArray }) w:=hrun
     rw [hrun2]
     obtain ⟨bs,hm,hn,hb⟩:=s.defers
     have s2:At rf N ⟨{ target:=.fn fn cap,args:=(first.toList++c.args.toList.map (vals e)).toArray } :: dz,false⟩ w0 h0 we e h { a with defers:={ target:=.fn fn cap,args:=(first.toList++c.args.toList.map (vals e)).toArray } :: a.defers } w:=⟨s.size,⟨bs,⟨.right hm.1,fun hh=>by cases hh⟩,hn,hb⟩,s.ext,s.rel⟩
     exact ⟨_,h,_,s2.slot hd undef _ (.inl rfl),hr⟩
    ·exact hr.elim
   ·exact hr.elim
  ·obtain ⟨pl,hp,hk⟩:=planK_elim hr
   refine reg (KK:=fun e' h'=>ih e' h' dz K) ?_ fun _ _ k=>k
   unfold planG
   rw [hw]
   simp only [if_true,hp]
   exact runK_elim hk
theorem flist_sound {nn:Nat} {w0:World} {h0:Hp} {we:World} {K:DK} (hd:∀ (i:Nat) o,ops[i]? = some o→∀ k,o.dst=some k→k<N):∀ (l:List Oper) (k:Nat) (e:ME) (h:Hp) (dz:List Deferred) (a:Go.Act) (w:World),(∀ j,l[j]? = ops[k+j]?)→flist P rf ops l e h dz K→At rf N ⟨dz,false⟩ w0 h0 we e h a w →
  wpOpsIn (FW none) nn P ops (GoesD rf N w0 h0 we K) (List.range' k l.length) a w
 | [],_,e,h,dz,a,w,_,hm,s=>⟨e,h,dz,s,hm⟩
 | o :: l,k,e,h,dz,a,w,hl,hm,s=>by
  have h0':ops[k]? = some o:=by simpa using (hl 0).symm
  simp only [List.length_cons,List.range'_succ]
  rw [wpOpsIn_cons]
  refine wpOpIn_mono ?_ (opD_sound (ih:=flist P rf ops l) h0' (hd k o h0') s hm)
  rintro a' w' ⟨e',h',ds',s',hm'⟩
  exact flist_sound hd l (k+1) e' h' ds' a' w' (fun j=>by have:=hl (j+1);simpa [Nat.add_assoc,Nat.add_comm 1 j] using this) hm' s'
theorem dif_alt {c:Code} {A B:DC} {e:ME} {h:Hp} {dz:List Deferred} {K:DK} (hh:dif c A B e h dz K):A e h dz K∨B e h dz K:=by
 unfold dif at hh
 split at hh
 ·exact .inl hh
 ·exact .inr hh
attribute [local irreducible] dif in
theorem dcode_sound {cl:Nat→Oper→Cl} {pm:List (Nat×List Nat)} (hmix:P.follows .mixedOrders=true):∀ (c:Code) {nn:Nat} {dz:List Deferred} {w0:World} {h0:Hp} {we:World} {e:ME} {h:Hp} {a:Go.Act} {w:World} {K:DK},okC N rf cl pm c=true→dcode P rf cl pm c e h dz K→At rf N ⟨dz,false⟩ w0 h0 we e h a w →
  c.wpIn (FW none) nn P (GoesD rf N w0 h0 we K) a w:=by
 have plain:∀ (c:Code) {nn:Nat} {dz:List Deferred} {w0:World} {h0:Hp} {we:World} {e:ME} {h:Hp} {a:Go.Act} {w:World} {K:DK},okC N rf cl pm c=true→vD P rf cl pm c e h dz K→At rf N ⟨dz,false⟩ w0 h0 we e h a w→c.wpIn (FW none) nn P (GoesD rf N w0 h0 we K) a w :=
  fun c _ dz _ _ _ e h _ _ _ hok hm s=>wpIn_mono (mcode_sound hmix c (.inl rfl) (fun hh=>by cases hh) (vcode_elim c hok hm) s) fun ex a' w' ⟨e',h',s',k⟩=>⟨e',h',dz,s',k⟩
 intro c
 induction c with
 | skip=>intro nn dz w0 h0 we e h a w K _ hm s;exact wpIn_skip ⟨e,h,dz,s,hm⟩
 | label l=>intro nn dz w0 h0 we e h a w K _ hm s;exact wpIn_label ⟨e,h,dz,s,hm⟩
 | region id ops draw =>
  intro nn dz w0 h0 we e h a w K hok hm s
  rcases dif_alt hm with hm | hm
  ·cases draw with
   | true=>exact hm.elim
   | false =>
    have hok':okR N rf (cl id) pm id ops false=true:=by simp only [okC,Bool.and_eq_true] at hok;exact hok.1
    simp only [okR,Bool.and_eq_true] at hok'
    refine wpIn_region ?_
    rw [List.range_eq_range',← Array.length_toList]
    exact flist_sound (okDst_spec hok'.1) ops.toList 0 e h dz a w (by simp) hm s
  ·exact plain _ hok hm s
 | seq x y ihx ihy =>
  intro nn dz w0 h0 we e h a w K hok hm s
  rcases dif_alt hm with hm | hm
  ·simp only [okC,Bool.and_eq_true] at hok
   refine wpIn_seq (wpIn_mono (ihx hok.1 hm s) ?_)
   rintro ex a1 w1 ⟨e1,h1,ds1,s1,hk⟩
   cases ex with
   | normal=>exact ihy hok.2 hk s1
   | _=>exact ⟨e1,h1,ds1,s1,hk⟩
  ·exact plain _ hok hm s
 | cond c x y ihx ihy=>intro nn dz w0 h0 we e h a w K hok hm s;exact plain _ hok ((dif_alt hm).resolve_left (fun hh=>hh)) s
 | block id b ih=>intro nn dz w0 h0 we e h a w K hok hm s;exact plain _ hok ((dif_alt hm).resolve_left (fun hh=>hh)) s
 | loop b ih=>intro nn dz w0 h0 we e h a w K hok hm s;exact plain _ hok ((dif_alt hm).resolve_left (fun hh=>hh)) s
 | rangeFunc g ps x y ihx ihy=>intro nn dz w0 h0 we e h a w K hok hm s;exact plain _ hok ((dif_alt hm).resolve_left (fun hh=>hh)) s
 | scope b ih =>
  intro nn dz w0 h0 we e h a w K hok hm s
  rcases dif_alt hm with hm | hm
  ·refine wpIn_wide.2 (wp_scope_straight (wp_mono (wpIn_wide.1 (ih (nn:=nn) (by simpa only [okC] using hok) hm s)) ?_))
   rintro ex a1 w1 ⟨e1,h1,ds1,s1,hk⟩
   cases ex with
   | goto l=>exact hk.elim
   | _=>exact ⟨e1,h1,ds1,s1,hk⟩
  ·exact plain _ hok hm s
 | exit id=>intro nn dz w0 h0 we e h a w K _ hm s;exact wpIn_exit ⟨e,h,dz,s,hm⟩
 | goto l=>intro nn dz w0 h0 we e h a w K _ hm s;exact wpIn_goto ⟨e,h,dz,s,hm⟩
 | ret=>intro nn dz w0 h0 we e h a w K _ hm s;exact wpIn_ret ⟨e,h,dz,s,hm⟩
 | refuse why=>intro nn dz w0 h0 we e h a w K _ hm s;exact hm.elim
def dEnd (P:Program) (rf:RF) (fn:Func) (e:ME) (K:Value→Hp→Prop) (E:List PanicEntry→Hp→Prop) (u:FrameMode) (h:Hp):Prop:=match u with
 | .returning=>resK P rf e h fn.results.toList fun vs=>K (shut vs) h
 | .panicking ch=>E ch h
 | .run=>False
def endsD (P:Program) (rf:RF) (fn:Func) (K:Value→Hp→Prop) (E:List PanicEntry→Hp→Prop):DK:=fun ex e h ds=>match ex with
 | .normal | .ret=>DLeave P (dEnd P rf fn e K E) ds .returning h
 | .panic ch=>DLeave P (dEnd P rf fn e K E) ds (.panicking ch) h
 | _=>False
theorem fnd {f:FuncId} {F:Func} {c:Code} {args:List Value} {h:Hp} {K:Value→Hp→Prop} {E:List PanicEntry→Hp→Prop} (hmix:P.follows .mixedOrders=true) (rf:RF) (pf dr:List Nat) (pm:List (Nat×List Nat)) (hf:P.funcs[f]? = some F) (hb:F.body=some c)
  (hok:okC (args.length+(F.ntmps - args.length)) rf (clOf P rf pf dr) pm c=true)
  (hm:dcode P rf (clOf P rf pf dr) pm c ⟨env0 args,fun _=>none⟩ h [] (endsD P rf F K E)):XE P f args.toArray h K E:=by
 refine ⟨fun w0 w hs=>?_⟩
 refine (callsIn_wide (n:=0)).1 (callsIn_of_wp_marks (F:=FW none) hf hb trivial ?_)
 have hat:At rf (args.length+(F.ntmps - args.length)) ⟨[],false⟩ w0 h w ⟨env0 args,fun _=>none⟩ h { tmps:=args.toArray++Array.replicate (F.ntmps - args.toArray.size) undef,defers:=[] } w:=by
  refine ⟨by simp,Marks.nil,Ext.refl hs,fun _=>0,fun s=>?_,fun t cs hb=>(by cases hb),fun t u cs ds hb=>(by cases hb),fun s off b he=>(by cases he)⟩
  show (args.toArray++Array.replicate (F.ntmps - args.toArray.size) undef).getD s undef=args.getD s undef
  simp only [Array.getD_eq_getD_getElem?,List.getD_eq_getElem?_getD,Array.getElem?_append]
  split
  ·simp
  ·rename_i hge
   simp at hge
   rw [List.getElem?_eq_none hge]
   cases hx:(Array.replicate (F.ntmps - args.toArray.size) undef)[s - args.toArray.size]? with
   | none=>rfl
   | some x =>
    obtain ⟨hlt,hx⟩:=Array.getElem?_eq_some_iff.1 hx
    simp at hx;simp [← hx]
 have leave:∀ (u:FrameMode) (e1:ME) (h1:Hp) (ds:List Deferred) (a1:Go.Act) (w1:World),u≠.run→At rf (args.length+(F.ntmps - args.length)) ⟨ds,false⟩ w0 h w e1 h1 a1 w1→DLeave P (dEnd P rf F e1 K E) ds u h1 →
   LeavesInM (FW none) 0 P F a1.tmps (fun e w'=>(∃ v h',e=.returned v∧Ext w0 h w h' w'∧K v h')∨∃ ch h',e=.panicked ch∧Ext w0 h w h' w'∧E ch h') a1.defers u w1:=by
  intro u e1 h1 ds a1 w1 hu s1 hl
  refine leaves_D (fun u' h' w' s' hu' hk=>?_) a1.defers ds u h1 w1 hu s1 hl
  cases u' with
  | run=>exact (hu' rfl).elim
  | returning =>
   obtain ⟨vs,hvs,hk⟩:=resK_elim _ (show resK P rf e1 h' F.results.toList _ from hk)
   exact ⟨shut vs,results_run s' hvs,.inl ⟨shut vs,h',rfl,s'.ext,hk⟩⟩
  | panicking ch=>exact .inr ⟨ch,h',rfl,s'.ext,hk⟩
 refine wpIn_mono (dcode_sound hmix c hok hm hat) ?_
 rintro ex a1 w1 ⟨e1,h1,ds,s1,hk⟩
 cases ex with
 | normal=>exact leave .returning e1 h1 ds a1 w1 (by simp) s1 hk
 | ret=>exact leave .returning e1 h1 ds a1 w1 (by simp) s1 hk
 | panic ch=>exact leave (.panicking ch) e1 h1 ds a1 w1 (by simp) s1 hk
 | exit id=>exact hk.elim
 | goto l=>exact hk.elim
 | outgrown=>exact hk.elim
end
end Go.Mid
namespace Go.Mid
open Go Go.RowKit
def recM:FrameMode→Value×FrameMode
 | .panicking ({ v,recovered:=false,goexit:=false } :: older)=>(v,.panicking ({ v,recovered:=true } :: older))
 | u=>(.nilIface,u)
theorem recD (c₀:Frame) (u:FrameMode) (cs:List Frame):(∃ v,recoverD ({ c₀ with mode:=u } :: cs)=some (v,{ c₀ with mode:=(recM u).2 } :: cs)∧(recM u).1=v)∨(recoverD ({ c₀ with mode:=u } :: cs)=none∧recM u=(.nilIface,u)):=by
 cases u with
 | run=>exact .inr ⟨rfl,rfl⟩
 | returning=>exact .inr ⟨rfl,rfl⟩
 | panicking ch =>
  cases ch with
  | nil=>exact .inr ⟨rfl,rfl⟩
  | cons x r =>
   obtain ⟨v,rc,gx⟩:=x
   cases rc <;> cases gx <;> first
    | exact .inl ⟨v,rfl,rfl⟩
    | exact .inr ⟨rfl,rfl⟩
abbrev RC:=ME→FrameMode→(ME→FrameMode→Prop)→Prop
def rstep (rf:RF) (ops:Array Oper) (o:Oper) (ih:RC) (e:ME) (u:FrameMode) (K:ME→FrameMode→Prop):Prop :=
 vguard ops o e fun b e1=>match b with
  | true=>match o.op with
   | .call c=>match c.callee with
    | .builtin .recover=>ih ((dstU o.dst (.v (recM u).1)).app rf e1) (recM u).2 K
    | _=>False
   | .assign x=>match ev e1 x with
    | .v y=>ih ((dstU o.dst (.v y)).app rf e1) u K
    | _=>False
   | _=>False
  | false=>False
def rlist (rf:RF) (ops:Array Oper) (l:List Oper):RC :=
 List.rec (motive:=fun _=>RC) (fun e u K=>K e u) (fun o _ ih=>rstep rf ops o ih) l
section
variable {P:Program} {rf:RF} {ops:Array Oper} {N:Nat}
theorem rlist_sound {n:Nat} {dz:DZ} {w0:World} {h0 h:Hp} {we:World} {c₀:Frame} {cs:List Frame} {K:ME→FrameMode→Prop} {Q:Exit→Go.Act→List Frame→World→Prop} (hd:∀ (i:Nat) o,ops[i]? = some o→∀ k,o.dst=some k→k<N)
  (hQ:∀ e u a w,At rf N dz w0 h0 we e h a w→K e u→Q .normal a ({ c₀ with mode:=u } :: cs) w):∀ (l:List Oper) (k:Nat) (e:ME) (u:FrameMode) (a:Go.Act) (w:World),(∀ j,l[j]? = ops[k+j]?)→rlist rf ops l e u K→At rf N dz w0 h0 we e h a w →
  wpOpsSIn (FW none) n P ops Q (List.range' k l.length) a ({ c₀ with mode:=u } :: cs) w
 | [],_,e,u,a,w,_,hm,s=>hQ _ _ _ _ s hm
 | o :: l,k,e,u,a,w,hl,hm,s=>by
  have h0':ops[k]? = some o:=by simpa using (hl 0).symm
  have hl':∀ j,l[j]? = ops[k+1+j]? := fun j=>by have:=hl (j+1);simpa [Nat.add_assoc,Nat.add_comm 1 j] using this
  simp only [List.length_cons,List.range'_succ]
  have hm:vguard ops o e fun b e1=>match b with
   | true=>match o.op with
    | .call c=>match c.callee with
     | .builtin .recover=>rlist rf ops l ((dstU o.dst (.v (recM u).1)).app rf e1) (recM u).2 K
     | _=>False
    | .assign x=>match ev e1 x with
     | .v y=>rlist rf ops l ((dstU o.dst (.v y)).app rf e1) u K
     | _=>False
    | _=>False
   | false=>False:=hm
  obtain ⟨b,hw,hm⟩:=vguard_elim hm
  cases b with
  | false=>exact hm.elim
  | true =>
   simp only at hm
   unfold wpOpsSIn
   rw [h0']
   refine ⟨fun _ _=>trivial,?_⟩
   rw [if_pos (want_sound s hw)]
   split at hm
   ·rename_i c hc
    split at hm
    ·rename_i hb
     have hrun:(execOp a.eval o).run P w=.ok .recover w:=by
      unfold execOp
      rw [hc]
      simp [resolve,hb,invoke,builtin]
     rw [hrun]
     simp only
     rcases recD c₀ u cs with ⟨v,h1,h2⟩ | ⟨h1,h2⟩
     ·rw [h1]
      simp only
      rw [h2] at hm
      exact rlist_sound hd hQ l (k+1) _ _ _ w hl' hm (s.slot (hd k o h0') v _ (.inl rfl))
     ·rw [h1]
      simp only
      rw [h2] at hm
      exact rlist_sound hd hQ l (k+1) _ _ _ w hl' hm (s.slot (hd k o h0') .nilIface _ (.inl rfl))
    ·exact hm.elim
   ·rename_i x hx
    split at hm
    ·rename_i y hy
     have hrun:(execOp a.eval o).run P w=.ok (.value y) w:=by
      unfold execOp
      rw [hx]
      simp [s.eval hy]
     rw [hrun]
     exact rlist_sound hd hQ l (k+1) _ _ _ w hl' hm (s.slot (hd k o h0') y _ (.inl rfl))
    ·exact hm.elim
   ·exact hm.elim
theorem xd_of {f:FuncId} {F:Func} {id:Nat} {rest:Code} {args:List Value} {u:FrameMode} {h:Hp} {K:FrameMode→Hp→Prop} (hmix:P.follows .mixedOrders=true) (rf:RF) (pf dr:List Nat) (pm:List (Nat×List Nat)) (hf:P.funcs[f]? = some F) (hb:F.body=some (.seq (.region id ops false) rest))
  (hok:okC (args.length+(F.ntmps - args.length)) rf (clOf P rf pf dr) pm (.seq (.region id ops false) rest)=true) (hflat:flat rest=true)
  (hm:rlist rf ops ops.toList ⟨env0 args,fun _=>none⟩ u fun e u'=>vcode P rf (clOf P rf pf dr) pm rest e h fun ex e' h'=>match ex with
   | .normal | .ret=>resK P rf e' h' F.results.toList fun _=>K u' h'
   | _=>False):XD P f args.toArray u h K:=by
 refine ⟨fun n w0 w hs=>?_⟩
 simp only [okC,Bool.and_eq_true] at hok
 have hok1:okR (args.length+(F.ntmps - args.length)) rf (clOf P rf pf dr id) pm id ops false=true:=hok.1.1
 simp only [okR,Bool.and_eq_true] at hok1
 have hat:At rf (args.length+(F.ntmps - args.length)) ⟨[],true⟩ w0 h w ⟨env0 args,fun _=>none⟩ h { tmps:=args.toArray++Array.replicate (F.ntmps - args.toArray.size) undef,defers:=[] } w:=by
  refine ⟨by simp,Marks.nil,Ext.refl hs,fun _=>0,fun s=>?_,fun t cs hb=>(by cases hb),fun t u cs ds hb=>(by cases hb),fun s off b he=>(by cases he)⟩
  show (args.toArray++Array.replicate (F.ntmps - args.toArray.size) undef).getD s undef=args.getD s undef
  simp only [Array.getD_eq_getD_getElem?,List.getD_eq_getElem?_getD,Array.getElem?_append]
  split
  ·simp
  ·rename_i hge
   simp at hge
   rw [List.getElem?_eq_none hge]
   cases hx:(Array.replicate (F.ntmps - args.toArray.size) undef)[s - args.toArray.size]? with
   | none=>rfl
   | some x =>
    obtain ⟨hlt,hx⟩:=Array.getElem?_eq_some_iff.1 hx
    simp at hx;simp [← hx]
 refine callsDIn_of_wpSIn hf hb trivial fun c₀ cs hu=>?_
 have hc0:c₀={ c₀ with mode:=u }:=by subst hu;rfl
 have endd:∀ {e1:ME} {h1:Hp} {a1:Go.Act} {w1:World},At rf (args.length+(F.ntmps - args.length)) ⟨[],true⟩ w0 h w e1 h1 a1 w1→a1.defers=[]:=by
  intro e1 h1 a1 w1 s1
  obtain ⟨bs,⟨hm,hbare⟩,_,_⟩:=s1.defers
  have:=hbare rfl
  subst this
  have:=hm.alone
  simpa using this
 refine wpSIn_seq (wpSIn_region ?_)
 rw [List.range_eq_range',← Array.length_toList]
 have key:=rlist_sound (P:=P) (n:=n) (dz:=⟨[],true⟩) (w0:=w0) (h0:=h) (we:=w) (h:=h) (c₀:=c₀) (cs:=cs) (Q:=Exit.thenS (rest.wpSIn (FW none) n P (bodyPostS P F c₀ cs fun e u' w'=>∃ v h',e=.returned v∧Ext w0 h w h' w'∧K u' h')) (bodyPostS P F c₀ cs fun e u' w'=>∃ v h',e=.returned v∧Ext w0 h w h' w'∧K u' h')) (okDst_spec hok1.1) (fun e u' a w1 s hk=>by
   show rest.wpSIn (FW none) n P _ a _ w1
   refine wpSIn_of_wpIn rfl (wpIn_mono (mcode_sound hmix rest (.inl rfl) (fun _=>hflat) (vcode_elim rest hok.2 hk) s) ?_)
   rintro ex a2 w2 ⟨e2,h2,s2,hk2⟩
   cases ex with
   | normal =>
    obtain ⟨vs,hvs,hk2⟩:=resK_elim _ hk2
    exact ⟨endd s2,u',rfl,shut vs,results_run s2 hvs,shut vs,h2,rfl,s2.ext,hk2⟩
   | ret =>
    obtain ⟨vs,hvs,hk2⟩:=resK_elim _ hk2
    exact ⟨endd s2,u',rfl,shut vs,results_run s2 hvs,shut vs,h2,rfl,s2.ext,hk2⟩
   | panic ch=>exact hk2.elim
   | exit id=>exact hk2.elim
   | goto l=>exact hk2.elim
   | outgrown=>exact hk2.elim) ops.toList 0 _ u _ w (by simp) hm hat
 rw [← hc0] at key
 exact key
end
end Go.Mid
namespace Go.Mid
open Go Go.RowKit
theorem sem_ta {P:Program} {xt asserted:TypeId} {v:Value} {u:TypeDesc} (hu:P.underlying asserted=some u) (hni:∀ ms,u≠.interface ms)
  {ρ:Operand→Value} {o:Oper} {x:Operand} {h:Hp} {K:Next→Hp→Prop} (ho:o.op=.typeAssert x xt asserted true) (hx:ρ x=.iface asserted v) (hk:K (.value (.tuple #[v,.bool true])) h):semK P (execOp ρ o) h K:=by
 refine ⟨?_⟩
 have e:execOp ρ o=(Instr.typeAssert (.iface asserted v) xt asserted true >>= fun v=>Pure.pure (Next.value v)):=by
  unfold execOp
  simp only [ho,hx]
 rw [e]
 refine mid_bind2 ?_
 unfold Instr.typeAssert
 refine mid_bind2 (mid_underlying hu ?_)
 cases u <;> first
  | exact (hni _ rfl).elim
  | (simp only [if_true];exact hk)
theorem XD.arg {P:Program} {f:FuncId} {args args':Array Value} {u:FrameMode} {h:Hp} {K:FrameMode→Hp→Prop} (e:args=args') (x:XD P f args' u h K):XD P f args u h K:=e ▸ x
theorem settle_ret:settle .returning≠.run:=by simp [settle]
theorem settle_rec {v:Value} {r:List PanicEntry} (hr:r.dropWhile (!·.goexit)=[]):settle (.panicking ({ v:=v,recovered:=true } :: r))=.returning:=by
 unfold settle
 simp [hr]
end Go.Mid
