/- THE WALK of WardenFirst: the line that raises to a level is the first weather line with at least this level. -/
import Derived.Test.YtlaengnhfjlphaaGreatDoorYFew
set_option linter.unusedVariables false
set_option linter.unusedSimpArgs false
set_option maxRecDepth 100000
set_option maxHeartbeats 8000000
namespace Go.Proofs.YtlaengnhfjlphaaGreatDoor
open Lib (hid)
open Go.RowKit Go.Proofs
attribute [local go_sem ↓] Go.wp_at_zero Go.wp_at_succ
theorem raisedP_snoc {n:Int}:∀ {ix:List Nat} {lv:List Int} {i:Nat} {v:Int},lv[ix.length]?=some v→raisedP n (ix++[i]) lv=(match raisedP n ix lv with | some j=>some j | none=>if n≤v then some i else none)
 | [],[],_,_,h=>by simp at h
 | [],u :: lv,i,v,h=>by
  simp at h;subst h;simp[raisedP]
 | j :: ix,[],_,_,h=>by simp at h
 | j :: ix,u :: lv,i,v,h=>by
  rw[List.cons_append,raisedP,raisedP]
  split
  · rfl
  · exact raisedP_snoc (by simpa using h)
theorem weathI_len:∀(l:List (List UInt8)) (es:List Int) (i:Nat),(weathI i l es).length≤l.length
 | [],es,i=>by cases es <;> simp[weathI]
 | s :: l,[],i=>by simp[weathI]
 | s :: l,e :: es,i=>by
  have:=weathI_len l es (i+1);rw[weathI]
  split <;> simp <;> omega
def firstV:Option Nat→Int
 | some j=>(j:Int)
 | none=>-1
def pairV:Option Nat→Int × Int
 | some j=>((j:Int),0)
 | none=>(0,7)
theorem raisedR_val {LL:List ByteArray}{m:Int}(hck:checkL LL=0)(hm:1≤m∧m≤3):raisedR LL m=pairV (raisedP m (weathI 0 (linesB LL) (runP Ga.readOf (-1) 0 begS 0 (linesB LL)).2) (runP Ga.readOf (-1) 0 begS 0 (linesB LL)).1.levels):=by
 unfold raisedR;rw[if_neg (fun h=>h hck),if_neg (fun h=>h hm)]
 split <;> next h=>rw[h];rfl
theorem WardenFirst_w {A:Option Addr}{n c lv:Nat}{LL:List ByteArray}{w:World}(h:Rd encStr 1 w A n LL)(hs:∀ p∈LL,p.size≤1048576)(hn:n≤1048576)(hl:Lay w)(hlv:lv < 256) :
 Calls Tryz.prog 6 #[.slice A n c,.int .u8 lv] w fun e w'=>e=.returned (.bool true)∧Below w.heap.size w w':=by
 have HR:=hid h;have HL:=hid hl;have HB:=hid (Below.refl w.heap.size w);have HLEN:=hid h.len;have HS:=hid hs;clear h hl hs
 go_enter Tryz.func6,Tryz.ntmps6
 go_wp2_with fail
 go_at_call 17;refine((ready_c HR.out HS.out hn)).mono ?_;rintro e w1 ⟨bR,rfl,hbr,hb9⟩;replace HB:=hdT HB hb9;replace HR:=hid (HR.out.below hb9);clear hb9 
 cases bR with
 | false =>
  clear hbr
  go_wp2_with fail
  go_wp2_with fail
  go_at_call 7;refine((wakes_ok _ (HL.out.below HB.out))).mono ?_;rintro e v2 ⟨rfl,hb9⟩;replace HB:=hdT HB hb9;replace HR:=hid (HR.out.below hb9);clear hb9 
  go_wp2_with fail
  (try rw[Exit.noGoto_ret])
  go_ret
  exact⟨rfl,HB.out⟩
 | true =>
  have hr:=hbr rfl;have hck:=right_check hr
  have hn60:n≤60:=by have:=hr.2;have:=HLEN.out;omega
  obtain⟨m,hm⟩:∃ m,m=lv % 3:=⟨_,rfl⟩
  have hm3:m < 3:=by rw[hm];exact Nat.mod_lt _ (by decide)
  have hw0:IntKind.i64.wrap (lv:Int)=(lv:Int):=wi (by omega)
  have hrem:(lv:Int).tmod 3=(m:Int):=by rw[hm,Int.tmod_eq_emod_of_nonneg (by omega)];exact(Int.natCast_emod _ _).symm
  have hw1:IntKind.i64.wrap (1+(m:Int))=1+(m:Int):=wi (by omega);have HCK:=hid hck;have HRT:=hid hr;clear hbr hck hr hm
  go_wp2_with fail
  go_wp2_with fail
  go_at_call 9;refine((list_c HR.out (by omega))).mono ?_;rintro e w2 ⟨A2,c2,rfl,hown2,hr2,hc2,hb9⟩;replace HB:=hdT HB hb9;replace HR:=hid (HR.out.below hb9);have HR2:=hid hr2;clear hb9 hr2;clear hown2 hc2 hw0 hrem
  go_wp2_with fail
  go_at_call 18;refine(Run_c HR2.out (HL.out.below HB.out)).mono ?_;rintro e w3 ⟨s,x,b,mm,ve,es,rfl,hrows,hown,hem,hok,_,hb9⟩;obtain⟨hbb,hes⟩:=hok HCK.out;have hlen:=runP_len Ga.readOf (-1) 0 (linesB LL) begS 0;rw[← hes,show(linesB LL).length=n from by unfold linesB;rw[List.length_map,HLEN.out]] at hlen
  obtain rfl:mm=n:=by omega
  obtain⟨EA,ec,rfl,_⟩:=own_form hown;rw[HCK.out];have her:Rd enc1 1 w3 EA mm es:=Rd.of_own enc1_len hown hem;have hle:=hrows.le.rd;obtain⟨LV,hLV⟩:∃ LV,LV=b.levels:=⟨_,rfl⟩;obtain⟨IX,hIX⟩:∃ IX,IX=weathI 0 (linesB LL) es:=⟨_,rfl⟩;rw[← hLV] at hle
  have hix:LV.length=IX.length:=by
   have:=run_lv Ga.readOf (-1) 0 (linesB LL) begS 0 0;rw[← hbb,← hes,← hIX,← hLV] at this
   simpa[begS] using this
  have hll:x.le.n=LV.length:=hle.len.symm;rw[hll] at hle;have hR1:=raisedR_val (m:=1+(m:Int)) HCK.out (by omega);have hR2:=fun h9=>raisedR_val (m:=1+(m:Int)+1) HCK.out h9;rw[← hbb,← hes,← hIX,← hLV] at hR1 hR2;have HR1:=hid hR1;have HRX:=hid hR2;have HIX:=hid hIX;have HLX:=hid hix;have HLL:=hid hll;have HEL:=hid hlen;clear HR2 hrows hown hok hem hbb hes hlen hLV hIX hix hll hR1 hR2;have hb2:=below_tr HB.out hb9;have hrb:=HR.out.below hb9;clear HB HR hb9;have HR:=hid hrb;clear hrb;have HTH:=hid (show World.there (w3.alloc (.cells (stateL ad0 zeroS).toArray 57)) w3.heap.size 0 22 from there_of_blk (cs:=stateL ad0 zeroS) (Blk.new w3 57 (stateL ad0 zeroS).toArray));obtain⟨cs,hcs⟩:∃ cs,cs=(stateL x b).toArray:=⟨_,rfl⟩
  have hcn:cs.size=22:=by rw[hcs];rfl
  have hc1:cs.all (·.oneCell')=true:=by rw[hcs];exact stateL_one x b
  rw[← hcs];have HCS:=hid hcs;have HCN:=hid hcn;have HC1:=hid hc1;clear hcs hcn hc1
  go_upto_region 5 with (refine wpList_store_mid rfl 57 (.tmp 6) (.tmp 28) rfl w3.heap.size 0 cs rfl rfl (by rw[HCN.out];exact HTH.out) (by rw[HCN.out];exact stateN) HC1.out ?_)
  have hblk:=blk_cells (stateL x b) 0 (w3.alloc (.cells (stateL ad0 zeroS).toArray 57)) [] (stateL ad0 zeroS) (Blk.new w3 57 (stateL ad0 zeroS).toArray) rfl rfl
  have hb3:Below w3.heap.size w3 ((w3.alloc (.cells (stateL ad0 zeroS).toArray 57)).setCells w3.heap.size 0 (stateL x b)) :=
   (((Below.refl w3.heap.size w3).alloc (Nat.le_refl _) (.cells (stateL ad0 zeroS).toArray 57)).trans ((grown_cells (g:=w3.heap.size) (stateL x b) 0 _).below (by simp) fun q e=>Nat.le_of_eq e.symm))
  generalize hw4:(World.setCells _ w3.heap.size 0 cs.toList)=w4
  have e9:(w3.alloc (.cells (stateL ad0 zeroS).toArray 57)).setCells w3.heap.size 0 (stateL x b)=w4:=by rw[← hw4,HCS.out];rfl
  rw[e9] at hblk hb3
  have hbk:Blk w4 w3.heap.size 57 (stateL x b).toArray:=by simpa using hblk
  clear hw4 e9 hblk HTH HCN HC1;have HB:=hid (below_tr hb2 hb3);have HER:=hid (her.below hb3);have HLE:=hid (hle.below hb3);have HST:=hid hbk;have hrb:=HR.out.below hb3;clear hb2 hb3 her hle hbk HCS HR;have HR:=hid hrb;clear hrb;obtain⟨S0,hS0⟩:∃ S0,S0=w3.heap.size:=⟨_,rfl⟩;rw[← hS0] at HST ⊢;clear hS0
  go_wp2_with fail
  go_at_call 9;refine((list_c HR.out (by omega))).mono ?_;rintro e w5 ⟨A5,c5,rfl,hown5,hr5,hc5,hb9⟩;replace HB:=hdT HB hb9;replace HR:=hid (HR.out.below hb9);replace HER:=hid (HER.out.below hb9);replace HLE:=hid (HLE.out.below hb9);replace HST:=hdB HST hb9;have HR5:=hid hr5;clear hb9 hr5;clear hown5 hc5
  go_wp2_with fail
  go_at_call 19;refine((Raised_c HR5.out (HL.out.below HB.out))).mono ?_;rintro e w6 ⟨rfl,hb9⟩;rw[HR1.out];replace HB:=hdT HB hb9;replace HR:=hid (HR.out.below hb9);replace HER:=hid (HER.out.below hb9);replace HLE:=hid (HLE.out.below hb9);replace HST:=hdB HST hb9;replace HR5:=hid (HR5.out.below hb9);clear hb9 ;clear HR5;obtain⟨P1,hP1⟩:∃ P1,P1=raisedP (1+(m:Int)) IX LV:=⟨_,rfl⟩;rw[← hP1];have HP1:=hid hP1;clear hP1;obtain⟨f1,hf1⟩:∃ f1,f1=(pairV P1).1:=⟨_,rfl⟩;obtain⟨g1,hg1⟩:∃ g1,g1=(pairV P1).2:=⟨_,rfl⟩;rw[← hf1,← hg1];have HF1:=hid hf1;have HG1:=hid hg1;clear hf1 hg1
  have en:((mm:Int) != (mm:Int))=false:=by simp
  go_wp2_with fail
  clear en
  go_loopw [11,12,13] (fun dv fv iv wr=>∃ i:Nat,i≤mm∧iv=.int .i64 i∧dv=.int .i64 (weathI 0 ((linesB LL).take i) (es.take i)).length∧fv=.int .i64 (firstV (raisedP (1+(m:Int)) (weathI 0 ((linesB LL).take i) (es.take i)) LV))∧Below w6.heap.size w6 wr) (fun _ _ iv _=>mm - (intOf iv).toNat)
  case atStart=>exact⟨0,Nat.zero_le _,rfl,by simp[weathI],by simp[weathI,raisedP,firstV],Below.refl _ _⟩
  case round =>
   obtain⟨i,hi,rfl,rfl,rfl,hbw⟩:=hrel;replace HB:=hdT HB hbw;replace HR:=hid (HR.out.below hbw);replace HER:=hid (HER.out.below hbw);replace HLE:=hid (HLE.out.below hbw);replace HST:=hdB HST hbw;have HBW:=hid hbw;clear hbw
   have hls:(linesB LL).length=mm:=by unfold linesB;rw[List.length_map,HLEN.out]
   obtain⟨I0,hI0⟩:∃ I0,I0=weathI 0 ((linesB LL).take i) (es.take i):=⟨_,rfl⟩;have hpre:=weathI_pre (l:=linesB LL) (es:=es) i (by rw[HEL.out,hls]);rw[← HIX.out,← hI0] at hpre;rw[← hI0]
   have hI60:I0.length≤60:=by
    have h9:=weathI_len ((linesB LL).take i) (es.take i) 0;rw[← hI0,List.length_take] at h9;omega
   have hIlen:I0.length≤IX.length:=by obtain⟨t,ht⟩:=hpre;rw[ht,List.length_append];omega
   by_cases hlt:i < mm
   · obtain⟨p,hp⟩:∃ p,LL[i]?=some p:=⟨_,List.getElem?_eq_getElem (by rw[HLEN.out];exact hlt)⟩
     obtain⟨x0,hx⟩:∃ x0,es[i]?=some x0:=⟨_,List.getElem?_eq_getElem (by rw[HEL.out];exact hlt)⟩;have htk:=weathI_take (l:=linesB LL) (es:=es) (j:=i) (s:=p.data.toList) (e:=x0) (by rw[HEL.out,hls]) (linesB_at hp) hx;rw[← hI0] at htk
     have hi1:(i:Int) < (mm:Int):=by omega
     have HWC:=hid (weather_c (c:=c) (ec:=ec) HR.out HER.out hp hx (HS.out p (List.mem_of_getElem? hp)));obtain⟨B,hB⟩:∃ B,B=(isW p.data.toList && decide (x0=0)):=⟨_,rfl⟩;rw[← hB] at HWC htk;have HTK:=hid htk;clear hp hx htk hB hI0
     go_wp2_with fail
     go_at_call 20;refine(HWC.out).mono ?_;rintro e w7 ⟨rfl,hb9⟩;replace HB:=hdT HB hb9;replace HR:=hid (HR.out.below hb9);replace HER:=hid (HER.out.below hb9);replace HLE:=hid (HLE.out.below hb9);replace HST:=hdB HST hb9;replace HBW:=hdT HBW hb9;clear hb9 ;clear HWC
     cases B with
     | false =>
      have htk:=HTK.out;simp only[Bool.false_eq_true,if_false,List.append_nil] at htk;have HT:=hid htk;clear htk HTK
      go_wp2_with fail
      go_roundw
      case rel=>exact⟨i+1,by omega,by go_num,by rw[HT.out],by rw[HT.out],HBW.out⟩
      case measure=>simp[intOf] <;> omega
     | true =>
      have htk:=HTK.out;simp only[if_true] at htk
      have hIlt:I0.length < LV.length:=by
       have hpre2:=weathI_pre (l:=linesB LL) (es:=es) (i+1) (by rw[HEL.out,hls]);obtain⟨t,ht⟩:=hpre2;rw[← HIX.out,htk] at ht;rw[HLX.out,ht];simp
      obtain⟨v,hv⟩:∃ v,LV[I0.length]?=some v:=⟨_,List.getElem?_eq_getElem hIlt⟩;have hsn:=raisedP_snoc (n:=1+(m:Int)) (ix:=I0) (lv:=LV) (i:=i) hv;rw[← htk] at hsn
      have hsl:(weathI 0 ((linesB LL).take (i+1)) (es.take (i+1))).length=I0.length+1:=by rw[htk];simp
      have HSN:=hid hsn;have HSL:=hid hsl;obtain⟨P0,hP0⟩:∃ P0,P0=raisedP (1+(m:Int)) I0 LV:=⟨_,rfl⟩;rw[← hP0] at HSN ⊢;have p13:=HST.out.cell 13;simp[stateL] at p13;rw[HLL.out] at p13
      have hd1:¬(I0.length:Int) ≥ (LV.length:Int):=by omega
      have hd2:(I0.length:Int) < (LV.length:Int):=by omega
      have hd3:(0:Int)≤(I0.length:Int):=by omega
      have hwd:IntKind.i64.wrap ((I0.length:Int)+1)=(I0.length:Int)+1:=wi (by omega);clear htk hsn hsl hIlt hIlen hpre hls hP0
      cases P0 with
      | some j =>
       have HS2:=hid (show raisedP (1+(m:Int)) (weathI 0 ((linesB LL).take (i+1)) (es.take (i+1))) LV=some j from HSN.out);have hf:firstV (some j)=(j:Int):=rfl;rw[hf]
       have hj:¬(j:Int) < 0:=by omega
       clear hf HSN
       go_wp2_with fail
       go_roundw
       case rel=>exact⟨i+1,by omega,by go_num,by rw[HSL.out];go_num,by rw[HS2.out];rfl,HBW.out⟩
       case measure=>simp[intOf] <;> omega
      | none =>
       have hf:firstV none=-1:=rfl;rw[hf];obtain⟨g,o,y,hA,_,hy,hc⟩:=HLE.out.at_ (i:=I0.length) (by omega);rw[hA] at p13
       obtain rfl:v=y:=by rw[hv] at hy;exact(Option.some.inj hy)
       have x0:w7.cell? ⟨g,o+I0.length,none⟩=some (.int .i64 v):=by simpa using hc 0 _ rfl
       clear hf hA hy hc
       by_cases hge:1+(m:Int)≤v
       · have HS2:=hid (show raisedP (1+(m:Int)) (weathI 0 ((linesB LL).take (i+1)) (es.take (i+1))) LV=some i from by rw[HSN.out];exact if_pos hge)
         clear HSN
         go_wp2_with fail
         go_roundw
         case rel=>exact⟨i+1,by omega,by go_num,by rw[HSL.out];go_num,by rw[HS2.out];rfl,HBW.out⟩
         case measure=>simp[intOf] <;> omega
       · have HS2:=hid (show raisedP (1+(m:Int)) (weathI 0 ((linesB LL).take (i+1)) (es.take (i+1))) LV=none from by rw[HSN.out];exact if_neg hge)
         clear HSN
         go_wp2_with fail
         go_roundw
         case rel=>exact⟨i+1,by omega,by go_num,by rw[HSL.out];go_num,by rw[HS2.out];rfl,HBW.out⟩
         case measure=>simp[intOf] <;> omega
   · obtain rfl:i=mm:=by omega
     have hi1:¬(i:Int) < (i:Int):=by omega
     have hI1:I0=IX:=by
      rw[hI0,HIX.out,List.take_of_length_le (by rw[hls];exact Nat.le_refl _),List.take_of_length_le (by rw[HEL.out];exact Nat.le_refl _)]
     rw[hI1,← HP1.out];have hIl:IX.length=LV.length:=HLX.out.symm;rw[hIl];have p13:=HST.out.cell 13;simp[stateL] at p13;rw[HLL.out] at p13
     have en:((LV.length:Int) != (LV.length:Int))=false:=by simp
     clear hI1 hIl hI0 hIlen hpre hls hlt hi hI60
     cases P1 with
     | none =>
      have h1:f1=0:=HF1.out;have h2:g1=7:=HG1.out;subst h1 h2;have hf:firstV none=-1:=rfl;rw[hf];clear hf
      go_wp2_with fail
      go_at_call 7;refine((wakes_ok _ (HL.out.below HB.out))).mono ?_;rintro e v2 ⟨rfl,hb9⟩;replace HB:=hdT HB hb9;replace HR:=hid (HR.out.below hb9);replace HER:=hid (HER.out.below hb9);replace HLE:=hid (HLE.out.below hb9);replace HST:=hdB HST hb9;replace HBW:=hdT HBW hb9;clear hb9 
      go_wp2_with fail
      (try rw[Exit.noGoto_ret])
      go_ret
      exact⟨rfl,HB.out⟩
     | some j =>
      have h1:f1=(j:Int):=HF1.out;have h2:g1=0:=HG1.out;subst h1 h2;have hf:firstV (some j)=(j:Int):=rfl;rw[hf];clear hf
      have hj:¬(j:Int) < 0:=by omega
      have ej:((j:Int) != (j:Int))=false:=by simp
      by_cases hm2:m=2
      · subst hm2
        go_wp2_with fail
        go_at_call 7;refine((wakes_ok _ (HL.out.below HB.out))).mono ?_;rintro e v2 ⟨rfl,hb9⟩;replace HB:=hdT HB hb9;replace HR:=hid (HR.out.below hb9);clear hb9 
        go_wp2_with fail
        (try rw[Exit.noGoto_ret])
        go_ret
        exact⟨rfl,HB.out⟩
      · have e3:((1+(m:Int)) == 3)=false:=beq_eq_false_iff_ne.2 (by omega)
        have hw2:IntKind.i64.wrap (1+(m:Int)+1)=1+(m:Int)+1:=wi (by omega);have HR2:=hid (HRX.out (by omega))
        go_wp2_with fail
        clear e3 ej hj en p13;go_at_call 9;refine((list_c HR.out (by omega))).mono ?_;rintro e w8 ⟨A8,c8,rfl,hown8,hr8,hc8,hb9⟩;replace HB:=hdT HB hb9;replace HR:=hid (HR.out.below hb9);have HR8:=hid hr8;clear hb9 hr8;clear hown8 hc8
        go_wp2_with fail
        go_at_call 19;refine((Raised_c HR8.out (HL.out.below HB.out))).mono ?_;rintro e w9 ⟨rfl,hb9⟩;rw[HR2.out];replace HB:=hdT HB hb9;replace HR:=hid (HR.out.below hb9);replace HR8:=hid (HR8.out.below hb9);clear hb9 ;obtain⟨P2,hP2⟩:∃ P2,P2=raisedP (1+(m:Int)+1) IX LV:=⟨_,rfl⟩;rw[← hP2];have HP2:=hid hP2;clear hP2
        cases P2 with
        | none =>
         have hf:pairV none=(0,7):=rfl;rw[hf];clear hf
         go_wp2_with fail
         go_at_call 7;refine((wakes_ok _ (HL.out.below HB.out))).mono ?_;rintro e v2 ⟨rfl,hb9⟩;replace HB:=hdT HB hb9;replace HR:=hid (HR.out.below hb9);clear hb9 
         go_wp2_with fail
         (try rw[Exit.noGoto_ret])
         go_ret
         exact⟨rfl,HB.out⟩
        | some j2 =>
         have hf:pairV (some j2)=((j2:Int),0):=rfl;rw[hf];clear hf
         have hjj:j≤j2:=by
          have hasc:IX.Pairwise (· < ·):=by rw[HIX.out];exact weathI_asc _ _ _
          obtain⟨j3,h3,h4⟩:=raised_mono (n:=1+(m:Int)) (by omega) IX LV hasc HP2.out.symm;rw[← HP1.out] at h3;cases h3;exact h4
         have hge:(j2:Int) ≥ (j:Int):=by omega
         clear hjj
         go_wp2_with fail
         go_at_call 7;refine((wakes_ok _ (HL.out.below HB.out))).mono ?_;rintro e v2 ⟨rfl,hb9⟩;replace HB:=hdT HB hb9;replace HR:=hid (HR.out.below hb9);clear hb9 
         go_wp2_with fail
         (try rw[Exit.noGoto_ret])
         go_ret
         exact⟨rfl,HB.out⟩
end Go.Proofs.YtlaengnhfjlphaaGreatDoor
