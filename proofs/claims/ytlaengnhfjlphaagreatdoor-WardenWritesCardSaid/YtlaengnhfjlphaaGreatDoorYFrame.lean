/- CONTRACTS of warden.written and Write: the book of lines. -/
import Derived.Test.YtlaengnhfjlphaaGreatDoorZHear
import Derived.Test.YtlaengnhfjlphaaGreatDoorYTOpen
import Derived.Test.YtlaengnhfjlphaaGreatDoorRows
import Derived.HandedShaped
import Derived.Handed
import Derived.Lib.LaidU8
import Derived.Shelf.Vars
import Derived.Lay
import Derived.MakeChecks
set_option linter.unusedVariables false
set_option linter.unusedSimpArgs false
set_option maxRecDepth 100000
set_option maxHeartbeats 8000000
namespace Go.Proofs.YtlaengnhfjlphaaGreatDoor
open Lib (hid)
open Go.RowKit Go.Proofs
attribute [local go_sem ↓] Go.wp_at_zero Go.wp_at_succ
theorem infoByte:(Tryz.prog.info? 5).map (fun i=>(i.zero,i.size,i.bytes))=some (some (.int .u8 0),1,1):=by kernel_rfl
def linesB (LL:List ByteArray):List (List UInt8):=LL.map (·.data.toList)
theorem linesB_at {LL:List ByteArray}{j:Nat}{p:ByteArray}(h:LL[j]?=some p):(linesB LL)[j]?=some p.data.toList:=by unfold linesB;rw[List.getElem?_map,h];rfl
theorem fold_take {l:List (List UInt8)}{j c:Nat}{s:List UInt8}(h:l[j]?=some s):(l.take (j+1)).foldl chkW c=chkW ((l.take j).foldl chkW c) s:=by
 rw[List.take_add_one,h,Option.toList_some,List.foldl_append];rfl
theorem book_bd:∀(l:List (List UInt8)) (c:Nat),(∀ s∈l,s.length≤1000)→(bookW l c).length≤1014 * l.length
 | [],_,_=>by simp[bookW]
 | s :: l,c,h=>by
  have h1:=book_bd l (chkW c s) fun t ht=>h t (List.mem_cons.2 (.inr ht));have h2:=h s (List.mem_cons.2 (.inl rfl));rw[bookW,List.length_append,rec_len,List.length_cons];omega
theorem own_lower {w:World}{b b':Nat}{e:TypeId}{size n:Nat}{v:Value}{xs:List Value}(h:w.ownsRow b e size v n xs)(hb:b'≤b):w.ownsRow b' e size v n xs :=
 ⟨h.1,h.2.imp id fun⟨g,cap,cur,e1,h1,r⟩=>⟨g,cap,cur,e1,Nat.le_trans hb h1,r⟩⟩
theorem written_c {A:Option Addr}{n c:Nat}{LL:List ByteArray}{w:World}(h:Rd encStr 1 w A n LL)(hn:n≤1000)(hs:∀ p∈LL,p.size≤1000) :
 Calls Tryz.prog 25 #[.slice A n c] w fun e w'=>∃ v,e=.returned v∧w'.ownsRow w.heap.size 5 1 v (bookW (linesB LL) 5).length ((bookW (linesB LL) 5).map u8V)∧Below w.heap.size w w':=by
 have H:=hid h;have HLEN:=hid h.len;have HS:=hid hs;have HB:=hid (Below.refl w.heap.size w);obtain⟨i0,hi0,hz0,hz1,hz2⟩:=info_parts infoByte;have HI:=hid hi0;have HZ0:=hid hz0;have HZ1:=hid hz1;have HZ2:=hid hz2;clear hi0 hz0 hz1 hz2 h hs
 go_enter Tryz.func25,Tryz.ntmps25
 go_wp2_with fail
 go_loopw [2,3,10] (fun ov kv iv wr=>∃(j:Nat) (B:List UInt8) (k:Nat) (v:Value),v=ov∧j≤n∧iv=.int .i64 j∧B=bookW ((linesB LL).take j) 5∧k=((linesB LL).take j).foldl chkW 5∧kv=.int .i64 (k:Nat)∧wr.ownsRow w.heap.size 5 1 v B.length (B.map u8V)∧Below w.heap.size w wr) (fun _ _ iv _=>n - (intOf iv).toNat)
 case atStart=>exact⟨0,[],5,_,rfl,Nat.zero_le _,rfl,rfl,rfl,rfl,World.ownsRow_nil _ _ _ _,HB.out⟩
 case round =>
  obtain⟨j,B,k,ov,rfl,hj,rfl,hB,hk,rfl,hown,hb⟩:=hrel;have HBK:=hid hB;have HK:=hid hk;have HOWN:=hid hown;clear HB;have HB:=hid hb;clear hB hk hown hb
  by_cases hlt:j < n
  · obtain⟨b,o,p,rfl,hp,c0⟩:=str_at (H.out.below HB.out) hlt
    have HP:=hid hp
    have hi1:(j:Int) < (n:Int):=by omega
    have hi0:(0:Int)≤(j:Int):=by omega
    have hps:=HS.out p (List.mem_of_getElem? hp)
    have hkl:k < 11881357:=by rw[HK.out];exact fold_lt _ (by decide)
    have hbl:B.length≤1014 * 1000:=by
     have:=book_bd ((linesB LL).take j) 5 fun s hs=>by
      obtain⟨q,hq,rfl⟩:=List.mem_map.1 (List.mem_of_mem_take hs);exact HS.out q hq
     rw[HBK.out]
     have h2:((linesB LL).take j).length≤1000:=by rw[List.length_take];omega
     omega
    have hrl:(recW p.data.toList k).length=14+p.size:=by rw[rec_len];rfl
    have HRL:=hid hrl;have HBL:=hid hbl;have HRC:=hid (fun W=>record_c p k W hps hkl);have HPS:=hid hps;clear hp hrl hbl hps hkl
    go_wp2_with fail
    refine(HRC.out _).mono ?_;rintro e w2 ⟨rfl,hb9⟩;replace HB:=hdT HB hb9;replace HOWN:=hid (own_mono HOWN.out hb9);clear hb9 ;clear c0
    go_wp2_with (at_builtin;go_must (refine Lib.wpList_append_own_string _ rfl _ _ 23 9 rfl w.heap.size 5 i0 Tryz.underlying23 Tryz.underlying9 HI.out HZ0.out HZ1.out HZ2.out ov B.length (B.map u8V) rfl HOWN.out ⟨(recW p.data.toList k).toArray⟩ rfl (by have h1:=HBL.out;have h2:=HRL.out;have h3:=HPS.out;show B.length+(recW p.data.toList k).length≤_;unfold maxLen;omega) (by have h1:=HBL.out;have h2:=HRL.out;have h3:=HPS.out;show B.length+(recW p.data.toList k).length≤_;omega) HB.out.size ?_;intro v' w3 hown hgr hnil))
    have hx:=linesB_at HP.out;have hb3:=HB.out.trans ((Fr.of_grown hgr (E:=fun g=>ov.ownBlock=some g) fun g e _=>e).below HB.out.size fun q e=>(HOWN.out.lt q e).1);refine⟨⟨j+1,B++recW p.data.toList k,_,v',rfl,by omega,by go_num,?_,rfl,?_,?_,hb3⟩,by simp[intOf];omega⟩
    · rw[book_succ hx,← HBK.out,← HK.out]
    · rw[fold_take hx,← HK.out]
    · rw[List.length_append,List.map_append]
      exact hown
  · obtain rfl:j=n:=by omega
    have hall:(linesB LL).take j=linesB LL:=by rw[List.take_of_length_le (by unfold linesB;rw[List.length_map,HLEN.out];exact Nat.le_refl _)]
    have hfin:=HBK.out;rw[hall] at hfin;have HF:=hid hfin;clear hfin hall
    go_wp2_with fail
    go_ret
    exact⟨ov,rfl,by rw[← HF.out];exact HOWN.out,HB.out⟩
theorem Write_c {A:Option Addr}{n c:Nat}{LL:List ByteArray}{w:World}(h:Rd encStr 1 w A n LL) :
 Calls Tryz.prog 8 #[.slice A n c] w fun e w'=>∃ v,e=.returned (.tuple #[v,.int .i64 (checkL LL)]) ∧
  (checkL LL=0→w'.ownsRow w.heap.size 5 1 v (bookW (linesB LL) 5).length ((bookW (linesB LL) 5).map u8V))∧(checkL LL≠0→v=.slice none 0 0)∧Below w.heap.size w w':=by
 have H:=hid h;have HB:=hid (Below.refl w.heap.size w);have HLEN:=hid h.len;have hck:=fun W (hW:Below w.heap.size w W)=>chkL_c (c:=c) (h.below hW);have HCK:=hid hck;clear h hck;obtain⟨E,hE⟩:∃ E,E=checkL LL:=⟨_,rfl⟩;rw[← hE] at HCK ⊢
 go_enter Tryz.func8,Tryz.ntmps8
 go_wp2_with fail
 go_at_call 24;refine(HCK.out _ HB.out).mono ?_;rintro e w1 ⟨rfl,hb9⟩;replace HB:=hdT HB hb9;clear hb9 
 by_cases h0:E=0
 · subst h0
   have hn:n≤60∧∀ p∈LL,p.size≤300:=by
    unfold checkL at hE
    split at hE
    · cases hE
    · split at hE
      · rename_i h1 h2;exact⟨by have:=HLEN.out;omega,h2⟩
      · cases hE
   have hwr:=fun W (hW:Below w.heap.size w W)=>written_c (c:=c) (H.out.below hW) (by omega) (fun p hp=>by have:=hn.2 p hp;omega);have HWR:=hid hwr;clear hwr hn hE
   go_wp2_with fail
   go_at_call 25;refine(HWR.out _ HB.out).mono ?_;rintro e w2 ⟨v,rfl,hown,hb9⟩;have hown:=own_lower hown HB.out.size;replace HB:=hdT HB hb9;have HOWN:=hid hown;clear hb9 hown
   go_wp2_with fail
   go_ret2
   exact⟨v,rfl,HOWN.out,HB.out⟩
 · have hne:(E == 0)=false:=by simpa using h0
   clear hE
   go_wp2_with fail
   (try rw[Exit.noGoto_ret])
   go_ret2
   exact⟨_,rfl,fun h=>absurd h h0,fun _=>rfl,HB.out⟩
def rightP (LL:List ByteArray):Prop:=(∀ p∈LL,p.size≤300)∧LL.length≤60
instance (LL:List ByteArray):Decidable (rightP LL):=by unfold rightP;infer_instance
theorem right_check {LL:List ByteArray}(h:rightP LL):checkL LL=0:=by
 unfold checkL;rw[if_neg (by have:=h.2;omega),if_pos h.1]
theorem wrong_check {LL:List ByteArray}(h:¬ rightP LL):checkL LL=3:=by
 unfold checkL
 by_cases h1:60 < LL.length
 · rw[if_pos h1]
 · rw[if_neg h1,if_neg (fun h2=>h ⟨h2,by omega⟩)]
theorem rightR_c {A:Option Addr}{n c:Nat}{LL:List ByteArray}{w:World}(h:Rd encStr 1 w A n LL)(hn:n≤9223372036854775807) :
 Calls Tryz.prog 11 #[.slice A n c] w fun e w'=>e=.returned (.bool (decide (rightP LL)))∧Below w.heap.size w w':=by
 have H:=hid h;have HLEN:=hid h.len;clear h
 go_enter Tryz.func11,Tryz.ntmps11
 go_wp2_with fail
 go_loopw [3] (fun i wr=>∃ k:Nat,k≤n∧i=.int .i64 k∧(∀ p∈LL.take k,p.size≤300)∧wr=w) (fun i _=>n - (intOf i).toNat)
 case atStart=>exact⟨0,Nat.zero_le _,rfl,by simp,rfl⟩
 case round =>
  obtain⟨k,hk,rfl,hall,rfl⟩:=hrel;have HALL:=hid hall;clear hall
  by_cases hlt:k < n
  · obtain⟨b,o,p,rfl,hp,c0⟩:=str_at H.out hlt
    have HP:=hid hp
    have hi1:(k:Int) < (n:Int):=by omega
    have hi0:(0:Int)≤(k:Int):=by omega
    clear hp
    by_cases hps:p.size≤300
    · have hqp:¬(300:Int) < (p.size:Int):=by omega
      go_wp2_with fail
      go_roundw
      case rel =>
       refine⟨k+1,by omega,by go_num,fun q hq9=>?_,by trivial⟩;rw[List.take_add_one,HP.out] at hq9
       rcases List.mem_append.1 hq9 with h9 | h9
       · exact HALL.out q h9
       · obtain rfl:q=p:=by simpa using h9
         exact hps
      case measure=>simp[intOf] <;> omega
    · have hqp:(300:Int) < (p.size:Int):=by omega
      have hno:decide (rightP LL)=false:=decide_eq_false fun h9=>hps (h9.1 p (List.mem_of_getElem? HP.out));have HNO:=hid hno;clear hno
      go_wp2_with fail
      (try rw[Exit.noGoto_ret])
      go_ret
      exact⟨by rw[HNO.out];rfl,Below.refl _ _⟩
  · obtain rfl:k=n:=by omega
    have hall:∀ p∈LL,p.size≤300:=fun p hp=>HALL.out p (by rw[← HLEN.out,List.take_length];exact hp)
    by_cases h25:k≤60
    · have hyes:decide (rightP LL)=true:=decide_eq_true ⟨hall,by have:=HLEN.out;omega⟩
      have HY:=hid hyes
      have hq2:(k:Int)≤60:=by omega
      clear hyes hall
      go_wp2_with fail
      go_ret
      exact⟨by rw[HY.out];rfl,Below.refl _ _⟩
    · have hno:decide (rightP LL)=false:=decide_eq_false fun h9=>by have:=h9.2;have:=HLEN.out;omega
      have HNO:=hid hno
      have hq2:¬(k:Int)≤60:=by omega
      clear hno hall
      go_wp2_with fail
      go_ret
      exact⟨by rw[HNO.out];rfl,Below.refl _ _⟩
end Go.Proofs.YtlaengnhfjlphaaGreatDoor
namespace Go.Proofs.YtlaengnhfjlphaaGreatDoor
open Lib (hid)
open Go.RowKit Go.Proofs
def ckA (LL:List ByteArray)(i:Nat):Nat:=((linesB LL).take i).foldl chkW 5
theorem ckA_lt (LL:List ByteArray)(i:Nat):ckA LL i < 11881357:=fold_lt _ (by decide)
theorem ckA_succ {LL:List ByteArray}{i:Nat}{p:ByteArray}(h:LL[i]?=some p):ckA LL (i+1)=chkW (ckA LL i) p.data.toList:=by
 unfold ckA;rw[List.take_add_one,linesB_at h,Option.toList_some,List.foldl_append]
 rfl
attribute [local go_sem ↓] Go.wp_at_zero Go.wp_at_succ
theorem bk_size {LL:List ByteArray}(hs:∀ p∈LL,p.size≤300)(hn:LL.length≤60)(i:Nat):(bookW ((linesB LL).take i) 5).length≤60 * 314:=by
 have h1:∀(l:List (List UInt8)) (c:Nat),(∀ s∈l,s.length≤300)→(bookW l c).length≤314 * l.length:=by
  intro l
  induction l with
  | nil=>intro c _;simp[bookW]
  | cons s l ih =>
   intro c hs;have e1:=ih (chkW c s) fun t ht=>hs t (List.mem_cons.2 (.inr ht));have e2:=hs s (List.mem_cons.2 (.inl rfl));rw[bookW,List.length_append,rec_len,List.length_cons];omega
 have h2:=h1 ((linesB LL).take i) 5 fun s hs'=>by
  obtain⟨p,hp,rfl⟩:=List.mem_map.1 (List.mem_of_mem_take hs');exact hs p hp
 have h3:((linesB LL).take i).length≤60:=by rw[List.length_take];unfold linesB;rw[List.length_map];omega
 have:=Nat.mul_le_mul_left 314 h3;omega
theorem bookR_c {A:Option Addr}{n c:Nat}{LL:List ByteArray}{w:World}(h:Rd encStr 1 w A n LL)(hs:∀ p∈LL,p.size≤300)(hn:n≤60) :
 Calls Tryz.prog 12 #[.slice A n c] w fun e w'=>e=.returned (str (bookW (linesB LL) 5))∧Below w.heap.size w w':=by
 have HR:=hid h;have HLEN:=hid h.len;have HS:=hid hs;clear h hs
 go_enter Tryz.func12,Tryz.ntmps12
 have hs0:Value.string ⟨#[]⟩=str []:=rfl
 go_wp2_with fail
 rw[hs0];clear hs0
 go_loopw [3,4,5] (fun ov cv iv wr=>∃ i:Nat,i≤n∧iv=.int .i64 i∧cv=.int .i64 (ckA LL i:Nat)∧ov=str (bookW ((linesB LL).take i) 5)∧Below w.heap.size w wr) (fun _ _ iv _=>n - (intOf iv).toNat)
 case atStart=>exact⟨0,Nat.zero_le _,rfl,rfl,rfl,Below.refl _ _⟩
 case round =>
  obtain⟨i,hi,rfl,rfl,rfl,hb⟩:=hrel;have HB:=hid hb;clear hb
  by_cases hlt:i < n
  · have hi1:(i:Int) < (n:Int):=by omega
    have hi0:(0:Int)≤(i:Int):=by omega
    obtain⟨b,o,p,rfl,hp,c0⟩:=str_at (HR.out.below HB.out) hlt
    have hp3:p.size≤1000:=by have:=HS.out p (List.mem_of_getElem? hp);omega
    have hst:=book_succ (c:=5) (linesB_at hp);have hck:=ckA_succ hp;have hsz:=bk_size HS.out (by rw[HLEN.out];exact hn) (i+1);rw[hst,List.length_append] at hsz;obtain⟨B,hB⟩:∃ B,B=bookW ((linesB LL).take i) 5:=⟨_,rfl⟩;obtain⟨r,hr⟩:∃ r,r=recW p.data.toList (ckA LL i):=⟨_,rfl⟩
    have hst:bookW ((linesB LL).take (i+1)) 5=B++r:=by rw[hst,hB,hr];rfl
    have hsz:B.length+r.length≤60 * 314:=by rw[hB,hr];exact hsz
    have HC1:=hid (fun W=>recordR_c p (ckA LL i) W hp3 (ckA_lt LL i));have HC2:=hid (fun W=>chkR_c p (ckA LL i) W hp3 (ckA_lt LL i));rw[← hck] at HC2;rw[← hr] at HC1;rw[← hB];have a1:=fun W=>add_strs B r (by omega) W;have HST:=hid hst;have HP:=hid hp;clear hst hck hsz hB hr hp
    go_wp2_with fail
    go_at_call 27;refine(HC1.out _).mono ?_;rintro e w2 ⟨rfl,hb9⟩;replace HB:=hdT HB hb9;clear hb9 
    have c1:w2.cell? ⟨b,o+i,none⟩=some (.string p):=by
     obtain⟨b1,o1,p1,e1,hp1,c1⟩:=str_at (HR.out.below HB.out) hlt;cases e1;rw[HP.out] at hp1;cases hp1;exact c1
    go_wp2_with fail
    clear a1;go_at_call 16;refine(HC2.out _).mono ?_;rintro e w3 ⟨rfl,hb9⟩;replace HB:=hdT HB hb9;clear hb9 
    go_wp2_with fail
    go_roundw
    case rel=>exact⟨i+1,by omega,by go_num,rfl,by rw[HST.out],HB.out⟩
    case measure=>simp[intOf] <;> omega
  · obtain rfl:i=n:=by omega
    have hi1:¬(i:Int) < (i:Int):=by omega
    have hall:(linesB LL).take i=linesB LL:=List.take_of_length_le (by unfold linesB;rw[List.length_map,HLEN.out];exact Nat.le_refl _);rw[hall];clear hall hlt hi
    go_wp2_with fail
    go_ret
    exact⟨rfl,HB.out⟩
end Go.Proofs.YtlaengnhfjlphaaGreatDoor
namespace Go.Proofs.YtlaengnhfjlphaaGreatDoor
open Lib (hid)
open Go.RowKit Go.Proofs Go.ChangeShapes Go.WideShapes Go.Deep
theorem wrap_both {H:Type}{enc:TypeId × Value→H}{a:Assume}{C:Checked}{os:Os}{f:FuncId}{fn:Func}{s:ChangeSpec}{conds:List PathCond}{apart fresh handsOn again:Bool}{X:World→Array Value→Prop}
 (hX:∀(w w':World) (args:Array Value),w.heap=w'.heap→X w args→X w' args)
 (own:ownKnob C.prog.godebug=none) (started:os.Started) (noInit:C.prog.inits.idxOf? f=none) (hfn:C.prog.funcs[f]?=some fn)
 (witness:∃(w:World) (tape:Tape) (i:Input),w.os=os∧(w.forCall tape i).Shaped C.prog∧i.vars=[]∧Input.okWide C.prog (w.forCall tape i) .any w.heap.size f i ∧
  ((s.pre enc C.prog fn conds apart (w.forCall tape i).memory i.args∧X (w.forCall tape i).memory i.args)∧sizedMet enc C.prog fn (OpenSpec.ofChange s) apart (w.forCall tape i).memory i.args)∧a.holds C.prog (lone (Frame.enter C.prog f i.args .normal) [] (w.forCall tape i)))
 (contract:∀(W:World) (base:Nat) (args:Array Value) (ds gs:List (DataW H)) (before:List MemPlace),
  (∀(j:Nat) t v,fn.params[j]?=some t→args[j]?=some v→Value.okWide C.prog W .any base t v) →
  DataW.Whole enc C.prog fn.params.toList s.vars apart W args.toList ds gs before →
  conds.all (PathCond.test C.prog ⟨fn.params.toList,ds,s.plain.varTypes C.prog,gs⟩)=true →
  (DataW.weightsEach C.prog (fn.params.toList++s.plain.varTypes C.prog) (ds++gs)).all (·≤reachBytes)=true→X W args→W.ShapedOpen C.prog →
  a.holds C.prog (lone (Frame.enter C.prog f args .normal) [] W) →
  Calls C.prog f args W fun e W'=>∃ v,e=.returned v∧s.post enc C.prog fn apart fresh handsOn again W args v W') :
 ReturnsInHanded a C os f .any (fun w args=>(s.pre enc C.prog fn conds apart w args∧X w args)∧sizedMet enc C.prog fn (OpenSpec.ofChange s) apart w args) (s.post enc C.prog fn apart fresh handsOn again):=by
 refine returnsInHanded_of_calls own started noInit witness ?_;intro w tape i _ hsh _ hok hpre hholds;obtain⟨_,_,_,fn',hfn',_,_,_,_,hval⟩:=hok;have e:fn'=fn:=Option.some.inj (hfn'.symm.trans hfn);subst e;obtain⟨⟨⟨ds,gs,before,hw,hc⟩,hx⟩,hz⟩:=hpre;have hw':=DataW.Whole.of_heap (w':=w.forCall tape i) (by rfl) hw;refine(contract (w.forCall tape i) w.heap.size i.args ds gs before hval hw' hc (hz.weights hw) (hX _ _ _ (by rfl) hx) hsh hholds).mono fun e W' ⟨v,he,hp⟩=>?_;subst he;exact ChangeSpec.post_blind hp
section
variable {H:Type} {enc:TypeId × Value→H} {P:Program} {w:World} {base:Nat} {spare:Nat→Bool} {held:Bool}
theorem el_str {t:TypeId}(ht:P.underlying t=some .string)(fuel:Nat)(cs:List Value)(x:DataW H × List MemPlace)(h:DataW.trod enc P w base spare held fuel t cs=some x) :
 ∃ s:ByteArray,encStr s=cs∧True:=by
 obtain⟨s,e,_,_⟩:=DataW.trod_string ht h;exact⟨s,e.symm,trivial⟩
theorem rd_texts_of {t e:TypeId}{A:Option Addr}{len cap:Nat}{d:DataW H}{p:List MemPlace}(ht:P.underlying t=some (.slice e))(he:P.underlying e=some .string)(hc:P.cellsOf e=1)(h:DataW.Trod enc P w base spare held t (.slice A len cap) d p) :
 ∃ l:List ByteArray,Rd encStr 1 w A len l∧len≤cap∧cap≤maxLen:=by
 obtain⟨fuel,hf⟩:=h;obtain⟨A',len',cap',l,e,h1,h2,h3,h4⟩:=rd_gen (en:=encStr) ht hc (by decide) (el_str he) hf;simp[Value.cells] at e;obtain⟨rfl,rfl,rfl⟩:=e;exact⟨l,h1,h2,h3⟩
theorem iface_of {t:TypeId}{m:Array (String × TypeId)}{fuel:Nat}{cs:List Value}{x:DataW H × List MemPlace}(ht:P.underlying t=some (.interface m))(h:DataW.trod enc P w base spare held fuel t cs=some x):∃ v,cs=[v]∧ErrV v:=by
 cases fuel with
 | zero=>simp[DataW.trod] at h
 | succ n =>
  unfold DataW.trod at h;rw[ht] at h
  split at h <;> first
   | (rename_i h1;cases h1;done)
   | skip
  all_goals first
   | exact⟨_,rfl,.inl rfl⟩
   | exact⟨_,rfl,.inr ⟨_,_,rfl⟩⟩
   | cases h
end
theorem gsz:Tryz.prog.globals.size≤9:=of_decide_eq_true (by kernel_rfl)
theorem bsz:9 < (begin Tryz.prog (fun _ _=>0) default).world.heap.size:=of_decide_eq_true (by kernel_rfl)
theorem g_syn:Tryz.prog.globalNamed "strconv.ErrSyntax"=some 1:=by kernel_rfl
theorem g_rng:Tryz.prog.globalNamed "strconv.ErrRange"=some 2:=by kernel_rfl
theorem g_err (i:Nat)(h:i=1∨i=2):(Tryz.prog.globals[i]?).map (·.type)=some 115:=by rcases h with rfl | rfl <;> kernel_rfl
theorem u_err:∃ m,Tryz.prog.underlying 115=some (.interface m):=by
 have h:(match Tryz.prog.underlying 115 with | some (.interface _)=>true | _=>false)=true:=by kernel_rfl
 split at h
 · next m hm=>exact⟨m,hm⟩
 · cases h
theorem err_of {W:World}{n:String}{d:DataW Unit}{g:Nat}(h:Lib.VarReads Tryz.prog W n d)(hg:Tryz.prog.globalNamed n=some g)(h12:g=1∨g=2):∃ v,W.cell? ⟨g,0,none⟩=some v∧ErrV v:=by
 obtain⟨g',t,cs,fuel,p,hg',ht,hv,hd⟩:=h;obtain rfl:=Option.some.inj (hg.symm.trans hg');obtain rfl:=Option.some.inj ((g_err g h12).symm.trans ht);obtain⟨m,hm⟩:=u_err;obtain⟨v,hcs,hev⟩:=iface_of hm hd;have:=World.var?_cell hg hv 0
 have hc:cs=#[v]:=by cases cs;simp at hcs;simp[hcs]
 rw[hc] at this;exact⟨v,by simpa using this,hev⟩
theorem tab_of {W:World}{k:IntKind}{zs:List Int}{n:String}{g:Nat}{t e:TypeId}{m:Nat}(hg:Tryz.prog.globalNamed n=some g)(hty:(Tryz.prog.globals[g]?).map (·.type)=some t)(ht:Tryz.prog.underlying t=some (.array m e))(he:Tryz.prog.underlying e=some (.int k))(hce:Tryz.prog.cellsOf e=1)(hct:Tryz.prog.cellsOf t=m)
 (h:Lib.VarReads Tryz.prog W n (Lib.tabData k zs)):Lib.TabIs Tryz.prog W n k zs:=by
 obtain⟨g',t',cs,fuel,p,hg',ht',hv,hd⟩:=h;obtain rfl:=Option.some.inj (hg.symm.trans hg');obtain rfl:=Option.some.inj (hty.symm.trans ht');unfold Lib.TabIs;rw[hv,← Lib.cells_of_tab ht he hce hct hd]
theorem g_pow:∃ g,Tryz.prog.globalNamed "internal/strconv.uint64pow10"=some g∧(Tryz.prog.globals[g]?).map (·.type)=some 288:=by
 refine⟨_,rfl,?_⟩
 kernel_rfl
theorem max_of {W:World}(hs:W.ShapedOpen Tryz.prog):∃ m,W.cell? ⟨0,0,none⟩=some (.int .i64 m) :=
 cell_of_shapedOpen_int (P:=Tryz.prog) (g:=0) (t:=3) (zero:=#[.int .i64 0]) hs (of_decide_eq_true (by kernel_rfl)) (by kernel_rfl) rfl (by kernel_rfl) (by kernel_rfl) Tryz.underlying3
theorem size_of {W:World}(hs:W.ShapedOpen Tryz.prog):10≤W.heap.size:=by
 obtain⟨o,_,ho,_⟩:=hs.2 9 gsz bsz;have:=(Array.getElem?_eq_some_iff.1 ho).1;omega
theorem lay_of {W:World}{L:List (String × DataW Unit)}(h:laidMet Tryz.prog L W)(hs:W.ShapedOpen Tryz.prog){d1 d2:DataW Unit}(h1:("strconv.ErrSyntax",d1)∈L) (h2:("strconv.ErrRange",d2)∈L) (h5:("internal/strconv.uint64pow10",Lib.tabData .u64 Lib.pow10Tab)∈L):Lay W:=by
 obtain⟨g,hg,hty⟩:=g_pow;exact⟨size_of hs,max_of hs,err_of (Lib.laidMet.reads h h1) g_syn (.inl rfl),err_of (Lib.laidMet.reads h h2) g_rng (.inr rfl),tab_of hg hty Tryz.underlying288 Tryz.underlying254 (by kernel_rfl) (by kernel_rfl) (Lib.laidMet.reads h h5)⟩
end Go.Proofs.YtlaengnhfjlphaaGreatDoor
