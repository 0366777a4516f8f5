/- METHOD: hear. -/
import Derived.Test.YtkhcliibilkefaaGreatDoorConcat
import Derived.Test.YtkhcliibilkefaaGreatDoorYMGround
import Derived.Test.YtkhcliibilkefaaGreatDoorYMLink
import Derived.Test.YtkhcliibilkefaaGreatDoorYMBuy
import Derived.Test.YtkhcliibilkefaaGreatDoorYMWeath
set_option linter.unusedVariables false
set_option linter.unusedSimpArgs false
set_option maxRecDepth 100000
set_option maxHeartbeats 8000000
namespace Go.Proofs.YtkhcliibilkefaaGreatDoor
open Lib (hid)
open Go.RowKit Go.Proofs
attribute [local go_sem ↓] Go.wp_at_zero Go.wp_at_succ
theorem hear_m {s:Nat}{x:SAd}{b:Sess}{now line more:Int}{t:ByteArray}{w:World}(g:Nat)(h:SAt w s x b now line more)(hok:SOk b)(ht:t.size≤1000) :
 Calls Tryz.prog 84 #[.pointer (some ⟨s,0,none⟩),.string t] w fun e w'=>MethN w.heap.size x s g now line more (sHear Ga.readOf b t.data.toList) w e w':=by
 have HA:=hid h;have HB:=hid (Below.refl w.heap.size w);have HRN:=hid (show x.rd.n≤200 by have:=h.rows.rd.len;have:=hok.rdsN;omega);have HRL:=hid h.rows.rd.len;have hws:=hid h.blk.lt;obtain⟨R,hR⟩:∃ R,R=sHear Ga.readOf b t.data.toList:=⟨_,rfl⟩;rw[← hR];unfold sHear at hR;have hdc:=digits_c t ht w;have htl:t.data.toList.length=t.size:=rfl;obtain⟨T,hT⟩:∃ T,T=t.data.toList:=⟨_,rfl⟩;rw[← hT] at hR hdc htl
 cases hw:wireP T with
 | none =>
  rw[hw] at hR hdc;dsimp only at hR;have HD:=hid hdc;have HR:=hid hR;clear h hok ht hR hdc hT htl hw
  go_enter Tryz.func84,Tryz.ntmps84
  go_wp2_with fail
  go_at_call 112;refine(HD.out).mono ?_;rintro e w1 ⟨A0,n0,c0,rfl,_,hb9⟩;replace HB:=hdT HB hb9;clear hb9 ;clear HD
  go_wp2_with fail
  go_at_call 54;refine(ask_f 4 _).mono ?_;rintro e w1 ⟨rfl,hb9⟩;replace HB:=hdT HB hb9;clear hb9 
  go_wp2_with fail
  rw[HR.out];exact⟨rfl,MethN.no (E:=4) (by decide) (HA.out.below HB.out) (FrS.of_below HB.out)⟩
 | some o =>
  rw[hw] at hR hdc;dsimp only at hR;rw[show o.map UInt8.ofNat=bytesW o from rfl] at hR
  have hon:(bytesW o).length≤1000:=by
   rcases Nat.mod_two_eq_zero_or_one T.length with e | e
   · have:=((wire_iff (T.length / 2) T o (by omega)).1 hw).1
     simp only[bytesW,List.length_map];omega
   · rw[wire_odd (T.length / 2) T (by omega)] at hw;cases hw
  obtain⟨L,hL⟩:∃ L,L=Ga.readOf (bytesW o):=⟨_,rfl⟩;rw[← hL] at hR;have HON:=hid hon;have HL:=hid hL;have HD:=hid hdc;have HR:=hid hR;clear h hok ht hR hdc hT htl hw hon hL
  go_enter Tryz.func84,Tryz.ntmps84
  go_wp2_with fail
  go_at_call 112;refine(HD.out).mono ?_;rintro e w1 ⟨A0,n0,c0,rfl,hwr,hb9⟩;obtain⟨hwc,hwr⟩:=hwr o rfl;have HWC:=hid hwc;clear hwc;replace HB:=hdT HB hb9;have HWR:=hid hwr;clear hb9 hwr;clear HD
  go_wp2_with fail
  go_at_call 54;refine(ask_t 4 _).mono ?_;rintro e w1 ⟨rfl,hb9⟩;replace HB:=hdT HB hb9;replace HWR:=hid (HWR.out.below hb9);clear hb9 
  go_wp2_with fail
  go_at_call 11;refine((Ga.Read_c HWR.out HWC.out (by have:=HWR.out.len;have:=HON.out;omega))).mono ?_;rintro e w1 ⟨A1,n1,c1,A2,n2,c2,rfl,hc1,hc2,hr1,hr2,hb9⟩;rw[← HL.out] at hr1;have HC1:=hid hc1;clear hc1 hc2 hr2;have HLN:=hid hr1.len;replace HB:=hdT HB hb9;replace HWR:=hid (HWR.out.below hb9);have HR1:=hid hr1;clear hb9 hr1
  go_wp2_with fail
  go_at_call 93;refine(must_t _).mono ?_;rintro e w1 ⟨rfl,hb9⟩;replace HB:=hdT HB hb9;replace HWR:=hid (HWR.out.below hb9);replace HR1:=hid (HR1.out.below hb9);clear hb9 
  rcases Nat.eq_zero_or_pos n1 with h1 | h1
  · have hq:L.length=0:=by rw[HLN.out];exact h1
    rw[if_pos hq] at HR;rw[h1];clear h1 hq
    go_wp2_with fail
    go_at_call 54;refine(ask_f 7 _).mono ?_;rintro e w1 ⟨rfl,hb9⟩;replace HB:=hdT HB hb9;replace HWR:=hid (HWR.out.below hb9);replace HR1:=hid (HR1.out.below hb9);clear hb9 
    go_wp2_with fail
    rw[HR.out];exact⟨rfl,MethN.no (E:=7) (by decide) (HA.out.below HB.out) (FrS.of_below HB.out)⟩
  · have hq:¬ L.length=0:=by rw[HLN.out];omega
    rw[if_neg hq] at HR;clear hq
    go_wp2_with fail
    go_at_call 54;refine(ask_t 7 _).mono ?_;rintro e w1 ⟨rfl,hb9⟩;replace HB:=hdT HB hb9;replace HWR:=hid (HWR.out.below hb9);replace HR1:=hid (HR1.out.below hb9);clear hb9 ;rw[HRL.out,HLN.out] at HR
    have hn1:n1≤maxLen∧n1≤100000:=by
     have h5:L.length≤(bytesW o).length:=by
      have:=Ga.scan_len (bs:=bytesW o) (bytesW o).length 0 (by omega);rw[HL.out];unfold Ga.readOf;rw[List.length_map];omega
     have:=HLN.out;have:=HON.out;unfold maxLen;omega
    have hrn:=HRN.out;have hw1:IntKind.i64.wrap ((x.rd.n:Int)+(n1:Int))=(x.rd.n:Int)+(n1:Int):=wi (by omega);have d21:=(HA.out.below HB.out).blk.cell 21;simp[sessV] at d21
    by_cases h2:200<x.rd.n+n1
    · rw[if_pos h2] at HR
      have hq1:¬(x.rd.n:Int)+(n1:Int)≤200:=by omega
      have hq2:decide ((x.rd.n:Int)+(n1:Int)≤200)=false:=decide_eq_false hq1
      go_wp2_with fail
      go_at_call 54;refine(ask_f 3 _).mono ?_;rintro e w1 ⟨rfl,hb9⟩;replace HB:=hdT HB hb9;replace HWR:=hid (HWR.out.below hb9);replace HR1:=hid (HR1.out.below hb9);clear hb9 
      go_wp2_with fail
      rw[HR.out];exact⟨rfl,MethN.no (E:=3) (by decide) (HA.out.below HB.out) (FrS.of_below HB.out)⟩
    · rw[if_neg h2] at HR
      have hq1:(x.rd.n:Int)+(n1:Int)≤200:=by omega
      go_wp2_with fail
      go_at_call 54;refine(ask_t 3 _).mono ?_;rintro e w1 ⟨rfl,hb9⟩;replace HB:=hdT HB hb9;replace HWR:=hid (HWR.out.below hb9);replace HR1:=hid (HR1.out.below hb9);clear hb9 ;clear d21 hq1 hw1;have HM:=hid hn1;have HH1:=hid h1;have H200:=hid h2;clear hn1 h1 h2 hrn;have d21:=(HA.out.below HB.out).blk.cell 21;simp[sessV] at d21
      go_wp2_with fail
      have hb9:=(Below.refl w1.heap.size w1).alloc (Nat.le_refl _) (.cells #[.slice x.rd.A x.rd.n x.rd.c,.slice A1 n1 c1] 40);have hn:=Blk.new w1 40 #[.slice x.rd.A x.rd.n x.rd.c,.slice A1 n1 c1];replace HB:=hdT HB hb9;replace HWR:=hid (HWR.out.below hb9);replace HR1:=hid (HR1.out.below hb9);have HX:=hid hn;clear hb9 hn;revert HB HWR HR1 HX;generalize hggx:w1.heap.size=gx;generalize (World.alloc w1 (.cells #[.slice x.rd.A x.rd.n x.rd.c,.slice A1 n1 c1] 40))=w8;intro HB HWR HR1 HX;clear hggx;clear d21
      have hll:Ga.RdLL w8 (some ⟨gx,0,none⟩) 2 [⟨x.rd.A,x.rd.n,x.rd.c,b.rds⟩,⟨A1,n1,c1,L⟩]:=by
       refine⟨Rd.of_blkE (k:=1) encL_len HX.out (l:=[⟨x.rd.A,x.rd.n,x.rd.c,b.rds⟩,⟨A1,n1,c1,L⟩]) rfl rfl,fun i y hy=>?_⟩;have hr:=(HA.out.below HB.out).rows.rd
       match i,hy with
       | 0,hy=>obtain rfl:=Option.some.inj hy;exact⟨hr.rd,by have:=HRN.out;unfold maxLen;dsimp only;omega,hr.cap⟩
       | 1,hy=>obtain rfl:=Option.some.inj hy;exact⟨HR1.out,HM.out.1,HC1.out⟩
       | k+2,hy=>simp at hy
      have hcc:=Ga.concat_c (c:=2) hll (by omega) (fun y hy=>by
       have h3:=HRN.out;have h4:=H200.out
       rcases List.mem_cons.1 hy with rfl | hy
       · dsimp only;omega
       · rw[List.mem_singleton.1 hy];dsimp only;omega)
      rw[show Ga.catL [(⟨x.rd.A,x.rd.n,x.rd.c,b.rds⟩:Lst),⟨A1,n1,c1,L⟩]=b.rds++L by simp[Ga.catL]] at hcc;have HCC:=hid hcc;clear hcc hll
      go_wp2_with fail
      go_at_call 113;refine(HCC.out).mono ?_;rintro e w9 ⟨v,rfl,hown,hb9⟩;obtain⟨m,hm⟩:∃ m,m=(b.rds++L).length:=⟨_,rfl⟩;rw[← hm] at hown;obtain⟨g2,c2,rfl,hg2,hc2,hrw⟩:=RowW.of_own encR_len (by decide) hown hm.symm (by rw[hm,List.length_append,HLN.out];have:=HH1.out;omega);have HGE:=hid (Nat.le_trans HB.out.size hg2);have HC2:=hid hc2;clear hown hg2 hc2 hm;replace HB:=hdT HB hb9;replace HWR:=hid (HWR.out.below hb9);replace HR1:=hid (HR1.out.below hb9);replace HX:=hdB HX hb9;have HRW:=hid hrw;clear hb9 hrw;clear HCC;have hA1:=(HA.out.below HB.out).blk;have d21:=hA1.cell 21;have f21:=hA1.frozen 21;simp[sessV] at d21;clear hA1
      go_wp2_with fail
      go_end0
      rw[HR.out];have hA1:=HA.out.below HB.out;have hf:FrS s w (w9.setCell ⟨s,21,none⟩ (.slice (some ⟨g2,0,none⟩) m c2)):=(FrS.of_below HB.out).set _;have hr:=HA.out.rows.fr hf
      have hne:g2≠s:=by have:=hws.out;have:=HGE.out;omega
      have hrow:=HRW.out.fr ((FrS.refl s w9).set (i:=21) (.slice (some ⟨g2,0,none⟩) m c2)) hne;exact MethN.good (x:={ x with rd:=⟨some ⟨g2,0,none⟩,m,c2⟩ }) ⟨by simpa[sessV] using hA1.blk.set_ 21 (.slice (some ⟨g2,0,none⟩) m c2),⟨hr.co,hr.col,hr.cbed,hr.li,hr.ce,hr.da,hr.le,hr.pa,hr.sl,hr.slc,hr.sway,hr.bo,⟨hrow.rd,HC2.out,fun ad e=>by cases e;exact hne⟩⟩⟩ hf (fun G hG h=>{ h with rd:=fun ad e=>by cases e;have:=HGE.out;dsimp only;omega })
end Go.Proofs.YtkhcliibilkefaaGreatDoor
namespace Go.Proofs.YtkhcliibilkefaaGreatDoor
open Lib (hid)
open Go.RowKit Go.Proofs
theorem do_m {wd:Wd}(hw:wd≠.hear){s:Nat}{x:SAd}{b:Sess}{now line more:Int}{g c:Nat}{l:List Int}{w0 w:World}(h:SAt w0 s x b now line more)(hok:SOk b)(hb:Below w0.heap.size w0 w)(hg:w0.heap.size≤g)(hl:NumsAt w s g wd.many l)(hg2:∃ cur,Blk w g 3 cur)(hmo:0≤more∧more≤1000) :
 Calls Tryz.prog (wordFn wd) #[.pointer (some ⟨s,0,none⟩),.slice (some ⟨g,0,none⟩) wd.many c] w fun e w'=>MethN w.heap.size x s g now line more (sWord Ga.readOf b (moreAt now line more) wd l) w e w':=by
 have h1:=h.below hb
 cases wd with
 | bed=>exact bed_m h1 hok hl
 | least=>exact least_m h1 hok hl
 | ground=>exact ground_m h1 hok hl
 | cell=>exact cell_m h1 hok hl
 | link=>exact link_m h1 hok hl
 | alarm=>exact alarm_m h1 hl
 | weather=>exact weather_m h hok hb hg hl hg2 hmo
 | parcel=>exact parcel_m h1 hok hl
 | steps=>exact steps_m h1 hok hl
 | slide=>exact slide_m h1 hok hl
 | way=>exact way_m h1 hok hl
 | evidence=>exact evidence_m h1 hok hl
 | buy=>exact buy_m h1 hok hl
 | hear=>exact absurd rfl hw
theorem wordV_num {wd:Wd}(hw:wd≠.hear):wordV wd=.agg #[.int .i64 wd.many,.func (.func (wordFn wd)) #[] #[],.nilFunc]:=by
 cases wd<;>first | rfl | exact absurd rfl hw
theorem many_bd {wd:Wd}(hw:wd≠.hear):1≤wd.many∧wd.many≤8:=by
 cases wd<;>first | decide | exact absurd rfl hw
theorem mem_words (wd:Wd):wd∈Wd.all:=by cases wd<;>decide
theorem wordOf_key {p:ByteArray}{wd:Wd}(h:wordOf p.data.toList=some wd):wordK wd=.string p:=by
 unfold wordOf at h;have h1:=List.find?_some h;have h2:wd.name=p.data.toList:=of_decide_eq_true h1;unfold wordK;rw[h2]
theorem nums_snoc:∀ {l:List (List UInt8)} {ns:List Int} {p:List UInt8} {v:Int},numsP l=some ns→wholeP p=some v→numsP (l++[p])=some (ns++[v])
 | [],ns,p,v,h,hv=>by simp[numsP] at h;subst h;simp[numsP,hv]
 | q::l,ns,p,v,h,hv=>by
  rw[numsP] at h
  cases hq:wholeP q with
  | none=>rw[hq] at h;cases h
  | some y =>
   cases hr:numsP l with
   | none=>rw[hq,hr] at h;cases h
   | some r =>
    rw[hq,hr] at h;obtain rfl:=Option.some.inj h;rw[List.cons_append,numsP,hq,nums_snoc hr hv];rfl
theorem nums_none:∀ {l:List (List UInt8)} {p:List UInt8},p∈l→wholeP p=none→numsP l=none
 | q::l,p,h,hv=>by
  rw[numsP]
  rcases List.mem_cons.1 h with rfl | h
  · rw[hv]
  · rw[nums_none h hv]
    cases wholeP q<;>rfl
theorem cmd_num {p:List UInt8}{ps:List (List UInt8)}{wd:Wd}(hw:wd≠.hear)(h:wordOf p=some wd):cmdOf (p::ps)=if ps.length=wd.many then (match numsP ps with | some l=>Cmd.nums wd l | none=>.bad) else .bad:=by
 simp only[cmdOf,h]
 cases wd<;>first | rfl | exact absurd rfl hw
theorem call_word {wd:Wd}(hw:wd≠.hear)(args:Array Value)(W:World):(callFunc (wordFn wd) args).run Tryz.prog W=.ok (.enter (wordFn wd) args) W:=by
 cases wd<;>first | exact absurd rfl hw | kernel_rfl
theorem cmd_bad {p:List UInt8}{ps:List (List UInt8)}{wd:Wd}(hw:wd≠.hear)(h:wordOf p=some wd)(hn:numsP ps=none):cmdOf (p::ps)=.bad:=by
 rw[cmd_num hw h,hn];split<;>rfl
theorem nums_bd:∀ {l:List (List UInt8)} {ns:List Int},numsP l=some ns→ns.length=l.length∧∀ x∈ns,-999999999≤x∧x≤999999999
 | [],ns,h=>by simp[numsP] at h;subst h;simp
 | q::l,ns,h=>by
  rw[numsP] at h
  cases hq:wholeP q with
  | none=>rw[hq] at h;cases h
  | some y =>
   cases hr:numsP l with
   | none=>rw[hq,hr] at h;cases h
   | some r =>
    rw[hq,hr] at h;obtain rfl:=Option.some.inj h;obtain⟨h1,h2⟩:=nums_bd hr;refine⟨by simp[h1],fun x hx=>?_⟩
    rcases List.mem_cons.1 hx with rfl | hx
    · exact(whole_itoa hq).2
    · exact h2 x hx
theorem ifV_bad {b t:Sess}(h:(ifV b t).2≠0):(ifV b t).1=b:=by
 unfold ifV at h ⊢
 split
 · rfl
 · next h9=>rw[if_neg h9] at h;exact absurd rfl h
theorem sWord_bad {F:List UInt8→List Rdg}{b:Sess}{m:Int}{wd:Wd}{l:List Int}(h:(sWord F b m wd l).2≠0):(sWord F b m wd l).1=b:=by
 cases wd<;>simp only[sWord,sBed,sLeast,sGround,sCell,sLink,sAlarm,sWeather,sParcel,sSteps,sSlide,sWay,sEvid,sBuy] at h ⊢<;>(repeat' split)<;>first
  | rfl
  | (simp_all [done,refuse];done)
  | (simp_all;exact ifV_bad h)
theorem sHear_bad {F:List UInt8→List Rdg}{b:Sess}{t:List UInt8}(h:(sHear F b t).2≠0):(sHear F b t).1=b:=by
 unfold sHear at h ⊢
 (repeat' split)<;>first | rfl | (simp_all [done,refuse];done)
theorem setCell_same {W:World}{E:Nat}{t:TypeId}{v:Value}(h:Blk W E t #[v]):W.setCell ⟨E,0,none⟩ v=W:=by
 have h1:W.heap[E]?=some (.cells #[v] t (0,0)):=h;have h2:E<W.heap.size:=(Array.getElem?_eq_some_iff.1 h1).1;have h3:W.heap[E]=.cells #[v] t (0,0):=(Array.getElem?_eq_some_iff.1 h1).2
 have h4:W.heap.modify E (fun | .cells c elem frozen=>.cells (if (none:Option Nat).isSome then c else c.setIfInBounds 0 v) elem frozen | o=>o)=W.heap:=by
  apply Array.ext_getElem?
  intro i;rw[Array.getElem?_modify]
  split
  · next e=>subst e;rw[h1];simp
  · rfl
 show({ W with heap:=_ }:World)=W;cases W;simp only at h4 ⊢
 congr 1
end Go.Proofs.YtkhcliibilkefaaGreatDoor
