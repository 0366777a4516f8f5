/- METHOD: weather. -/
import Derived.Test.YtkhcliibilkefaaGreatDoorYLevel
import Derived.Test.YtkhcliibilkefaaGreatDoorZHear
import Derived.Test.YtkhcliibilkefaaGreatDoorRows
import Derived.HandedShaped
import Derived.Handed
import Derived.Lib.LaidU8
import Derived.Shelf.Vars
import Derived.Lay
import Derived.MakeChecks
import Derived.Deep.DeepHandedRow
set_option linter.unusedVariables false
set_option linter.unusedSimpArgs false
set_option maxRecDepth 100000
set_option maxHeartbeats 8000000
namespace Go.Proofs.YtkhcliibilkefaaGreatDoor
open Lib (hid)
open Go.RowKit Go.Proofs
attribute [local go_sem ↓] Go.wp_at_zero Go.wp_at_succ
theorem methN_no {B0 s g:Nat}{now line more:Int}{b:Sess}{w w':World}{x:SAd}{E:Int}(hE:E≠0)(h:SAt w' s x b now line more)(hf:FrS g w w'):MethN B0 x s g now line more (refuse b E) w (.panicked [{ v:=refV E,recovered:=false }]) w' :=
 MethN.no hE h hf
theorem methN_good {B0 s g:Nat}{now line more:Int}{b:Sess}{w w':World}{x0 x:SAd}(h:SAt w' s x b now line more)(hf:Fr (fun i=>i=s∨i=g) w w')(ha:∀ G,G<B0→Away x0 G→Away x G):MethN B0 x0 s g now line more (done b) w (.returned (.tuple #[])) w' :=
 ⟨fun _=>rfl,fun h=>absurd rfl h,⟨x,h,ha⟩,hf,fun h=>absurd rfl h⟩
theorem weather_m {s:Nat}{x:SAd}{b:Sess}{now line more:Int}{g c:Nat}{l:List Int}{w0 w:World}(h:SAt w0 s x b now line more)(hok:SOk b)(hb:Below w0.heap.size w0 w)(hg:w0.heap.size≤g)(hl:NumsAt w s g 3 l)(hg2:∃ cur,Blk w g 3 cur)(hmo:0≤more∧more≤1000) :
 Calls Tryz.prog 77 #[.pointer (some ⟨s,0,none⟩),.slice (some ⟨g,0,none⟩) 3 c] w fun e w'=>MethN w.heap.size x s g now line more (sWeather b (moreAt now line more) l) w e w':=by
 have hlen:b.cols.length=x.co.n:=by rw[← h.rows.col,List.length_map,h.rows.co.len]
 have hcel:=h.rows.ce.len;have hday:=h.rows.da.len;have hlev:=h.rows.le.len;obtain⟨M,hM⟩:∃ M,M=nth l 1+moreAt now line more:=⟨_,rfl⟩;obtain⟨d,hd⟩:∃ d:Dy,d=⟨nth l 0,M,nth l 2⟩:=⟨_,rfl⟩;obtain⟨R,hR⟩:∃ R,R=sWeather b (moreAt now line more) l:=⟨_,rfl⟩;rw[← hR];unfold sWeather at hR;rw[← hM,← hd,hlen,hcel] at hR;have HA:=hid h;have HB:=hid hb;have HL:=hid hl;have HOK:=hid hok;have HG:=hid hg;have HF:=hid (FrS.refl g w);have HM:=hid hM;have HD:=hid hd;have HG2:=hid hg2;have HMO:=hid hmo;have HN:=hid (And.intro hlen (And.intro hcel (And.intro hday hlev)));have hA1:=h.below hb;have d3:=hA1.blk.cell 3;have d0:=hA1.blk.cell 0;simp[sessV] at d3 d0;clear h hok hb hg hl hM hd hA1 hlen hcel hday hlev hg2 hmo
 by_cases hc:x.ce.n=0
 · rw[if_pos (.inl hc)] at hR
   rw[hc] at d3;have HR:=hid hR;clear hR hc
   go_enter Tryz.func77,Tryz.ntmps77
   go_wp2_with fail
   go_at_call 54;refine(ask_f 8 _).mono ?_;rintro e w1 ⟨rfl,hb9⟩;replace HB:=hdT HB hb9;replace HF:=hid (HF.out.trans (Fr.of_below hb9 _));clear hb9 
   go_wp2_with fail
   rw[HR.out];exact⟨rfl,methN_no (E:=8) (by decide) (HA.out.below HB.out) HF.out⟩
 · have hc1:(0:Int)<(x.ce.n:Int):=by omega
   by_cases ho:x.co.n=0
   · rw[if_pos (.inr ho)] at hR
     rw[ho] at d0;have HR:=hid hR;clear hR hc ho
     go_enter Tryz.func77,Tryz.ntmps77
     go_wp2_with fail
     go_at_call 54;refine(ask_f 8 _).mono ?_;rintro e w1 ⟨rfl,hb9⟩;replace HB:=hdT HB hb9;replace HF:=hid (HF.out.trans (Fr.of_below hb9 _));clear hb9 
     go_wp2_with fail
     rw[HR.out];exact⟨rfl,methN_no (E:=8) (by decide) (HA.out.below HB.out) HF.out⟩
   · have ho1:(0:Int)<(x.co.n:Int):=by omega
     have ho2:0<x.co.n:=by omega
     rw[if_neg (by omega)] at hR;have HR:=hid hR;have HC0:=hid hc;have HO0:=hid ho;clear hR hc ho
     go_enter Tryz.func77,Tryz.ntmps77
     have HBW:=hid (Below.refl w.heap.size w)
     go_wp2_with fail
     go_at_call 54;refine(ask_t 8 _).mono ?_;rintro e w1 ⟨rfl,hb9⟩;replace HB:=hdT HB hb9;replace HF:=hid (HF.out.trans (Fr.of_below hb9 _));replace HBW:=hdT HBW hb9;clear hb9 ;clear d3 d0 hc1 ho1 ho2;have hA1:=HA.out.below HB.out;have d22:=hA1.blk.cell 22;have d23:=hA1.blk.cell 23;simp[sessV] at d22 d23;clear hA1
     go_upto_region 1 with fail
     refine wp_region_till [] (fun U=>U.cell? ⟨s,22,none⟩=some (.int .i64 now)∧U.cell? ⟨s,23,none⟩=some (.int .i64 line)) (by kernel_rfl) (by exact⟨d22,d23⟩) (fun hHeld=>?_);have hb9:=(Below.refl w1.heap.size w1).drew;replace HB:=hdT HB hb9;replace HF:=hid (HF.out.trans (Fr.of_below hb9 _));replace HBW:=hdT HBW hb9;clear hb9;revert hHeld HB HF HBW;generalize w1.drew=w0;intro hHeld HB HF HBW;refine tk 0 0 ?_;refine tk 0 1 ?_;refine tk 0 2 ?_;refine tk 0 3 ?_;refine tk 0 4 ?_;refine tk 0 5 ?_;refine tk 0 6 ?_;refine tk 0 7 ?_;refine tk 0 8 ?_;refine td ?_;(try clear hHeld);clear d22 d23;have hA1:=HA.out.below HB.out;have d24:=hA1.blk.cell 24;simp[sessV] at d24;have hL1:=HL.out.below HBW.out;have n0:=hL1.cell (i:=0) (by decide);have n1:=hL1.cell (i:=1) (by decide);have n2:=hL1.cell (i:=2) (by decide);clear hA1 hL1
     by_cases hq:now=line
     · skip
       have hqb:(now == line)=true:=by simpa using hq
       go_upto_region 2 with fail
       have hm9:M=nth l 1+more:=by rw[HM.out];unfold moreAt;rw[if_pos hq]
       clear hq hqb;have hb9:=HL.out.nb 1;have hmo:=HMO.out
       have hwr:IntKind.i64.wrap (nth l 1+more)=M:=by rw[hm9];exact wi (by omega)
       have HWR:=hid hm9;have HGL:=hid (show g<w.heap.size from HL.out.lt (by decide));clear hm9 hb9 hmo;refine wp_region_till [9] (fun U=>U.cell? ⟨g,1,none⟩=some (.int .i64 (nth l 1))∧U.cell? ⟨s,24,none⟩=some (.int .i64 more)) (by kernel_rfl) (by exact⟨n1,d24⟩) (fun hHeld=>?_);have hb9:=(Below.refl w0.heap.size w0).drew;replace HB:=hdT HB hb9;replace HF:=hid (HF.out.trans (Fr.of_below hb9 _));replace HBW:=hdT HBW hb9;clear hb9;revert hHeld HB HF HBW;generalize w0.drew=w0;intro hHeld HB HF HBW;refine tk 0 0 ?_;refine tk 0 1 ?_;refine tk 0 2 ?_;refine tk 0 3 ?_;refine tk 0 4 ?_;refine tk 0 5 ?_;refine tk 0 6 ?_;refine tk 0 7 ?_;refine tk 0 8 ?_;refine ar [9] (al (fun K hK=>?_) an)
       have fg:w0.frozen? ⟨g,1,none⟩=false:=by(obtain⟨cur,hcur⟩:=HG2.out;exact(hcur.below HBW.out hcur.lt).frozen 1)
       go_simp;(try clear hHeld);refine hK.out _ _ ?_;clear hK K;refine pt ?_;refine td ?_;(try clear hHeld);clear n0 n1 n2 d24 fg hwr;have hL1:=HL.out.below HBW.out;have m0:=hL1.cell (i:=0) (by decide);have m1:=hL1.cell (i:=1) (by decide);have m2:=hL1.cell (i:=2) (by decide);have hb5:=HB.out.setCell (p:=⟨g,1,none⟩) HG.out (.int .i64 M);have hf5:=Fr.setAt HF.out (p:=⟨g,1,none⟩) (.inl rfl) (.int .i64 M);clear HB HF HBW hL1;have HB:=hid hb5;have HF:=hid hf5;clear hb5 hf5;have n0:=(World.cell?_setCell_other w0 ⟨g,1,none⟩ ⟨g,0,none⟩ (.int .i64 M) (fun e=>by injection e with _ e2;omega)).trans m0;have n2:=(World.cell?_setCell_other w0 ⟨g,1,none⟩ ⟨g,2,none⟩ (.int .i64 M) (fun e=>by injection e with _ e2;omega)).trans m2;have n1:=World.cell?_setCell_same w0 ⟨g,1,none⟩ (.int .i64 M) m1;clear m0 m1 m2
       go_upto_region 3 with fail
       revert HB HF n0 n2 n1;generalize (w0.setCell ⟨g,1,none⟩ (.int .i64 M))=w5;intro HB HF n0 n2 n1;have hA1:=HA.out.below HB.out;have d9:=hA1.blk.cell 9;simp[sessV] at d9;clear hA1;refine wp_region_till [16] (fun U=>U.cell? ⟨s,9,none⟩=some (.slice x.da.A x.da.n x.da.c)∧U.cell? ⟨g,0,none⟩=some (.int .i64 (nth l 0))∧U.cell? ⟨g,1,none⟩=some (.int .i64 M)∧U.cell? ⟨g,2,none⟩=some (.int .i64 (nth l 2))) (by kernel_rfl) (by exact⟨d9,n0,n1,n2⟩) (fun hHeld=>?_);have hb9:=(Below.refl w5.heap.size w5).drew;replace HB:=hdT HB hb9;replace HF:=hid (HF.out.trans (Fr.of_below hb9 _));clear hb9;revert hHeld HB HF;generalize w5.drew=w0;intro hHeld HB HF;refine tk 4 0 ?_;refine tk 3 1 ?_;refine tk 2 2 ?_;refine tk 1 3 ?_;refine tk 0 4 ?_;refine tk 4 5 ?_;refine tk 3 6 ?_;refine tk 2 7 ?_;refine tk 4 8 ?_;refine tk 3 9 ?_;refine tk 2 10 ?_;refine tk 1 11 ?_;refine tk 3 12 ?_;refine tk 2 13 ?_;refine tk 1 14 ?_;refine tk 0 15 ?_;refine ar [16] (al (fun K hK=>?_) an);go_simp;go_at_call 99;refine((withDay_c ⟨nth l 0,M,nth l 2⟩ (HA.out.below HB.out).rows.da.rd (by have:=HN.out;have:=HOK.out.dayN;omega))).mono ?_;rintro e w6 ⟨g2,cap2,rfl,hcap,hge,hrd,hb9⟩;rw[← HD.out] at hrd;have HGW2:=hid (Nat.le_trans HF.out.size hge);have HGE:=hid (Nat.le_trans HB.out.size hge);have HCAP:=hid hcap;clear hge hcap;replace HB:=hdT HB hb9;replace HF:=hid (HF.out.trans (Fr.of_below hb9 _));have HRD:=hid hrd;clear hb9 hrd;(try go_wp2_with fail);(try clear hHeld);refine hK.out _ _ ?_;clear hK K;refine pt ?_
       refine te 17 ?_;refine td ?_;(try clear hHeld);clear d9 n0 n1 n2;have hA1:=HA.out.below HB.out;have d3:=hA1.blk.cell 3;have d4:=hA1.blk.cell 4;have d5:=hA1.blk.cell 5;have d6:=hA1.blk.cell 6;have d7:=hA1.blk.cell 7;have d8:=hA1.blk.cell 8;simp[sessV] at d3 d4 d5 d6 d7 d8;clear hA1
       by_cases hfa:faultW b.cells b.sn0 b.sn1 b.so0 b.so1 b.melt (b.days++[d])=0
       · have HFA:=hid hfa
         have e:=HR.out;rw[if_neg (fun h=>h hfa)] at e;clear HR hfa;have HR:=hid e;clear e
         go_wp2_with fail
         go_at_call 100;refine((Levels_ok (CS:=x.ce) (DS:=⟨some ⟨g2,0,none⟩,x.da.n+1,cap2⟩) HFA.out (HA.out.below HB.out).rows.ce.rd HRD.out (by dsimp only;omega))).mono ?_;rintro e w7 ⟨LA,lc,vsl,gs,rfl,_,_,_,hb9⟩;replace HB:=hdT HB hb9;replace HF:=hid (HF.out.trans (Fr.of_below hb9 _));replace HRD:=hid (HRD.out.below hb9);clear hb9 ;clear d3 d4 d5 d6 d7 d8
         go_wp2_with fail
         go_at_call 93;refine(must_t _).mono ?_;rintro e w8 ⟨rfl,hb9⟩;replace HB:=hdT HB hb9;replace HF:=hid (HF.out.trans (Fr.of_below hb9 _));replace HRD:=hid (HRD.out.below hb9);clear hb9 ;have hA1:=(HA.out.below HB.out).blk;have d9:=hA1.cell 9;have f9:=hA1.frozen 9;simp[sessV] at d9;clear hA1
         go_upto_region 7 with fail
         have hS:SAt (w8.setCell ⟨s,9,none⟩ (.slice (some ⟨g2,0,none⟩) (x.da.n+1) cap2)) s { x with da:=⟨some ⟨g2,0,none⟩,x.da.n+1,cap2⟩ } (wetDay b d) now line more:=by
          have hA1:=HA.out.below HB.out;have hf:FrS s w8 (w8.setCell ⟨s,9,none⟩ (.slice (some ⟨g2,0,none⟩) (x.da.n+1) cap2)):=(FrS.refl s w8).set _;have hr:=hA1.rows.fr hf
          have hne:g2≠s:=by have:=HA.out.blk.lt;have:=HGE.out;omega
          have hrow:=SRow.fr (x:=⟨some ⟨g2,0,none⟩,x.da.n+1,cap2⟩) ⟨HRD.out,HCAP.out,fun ad e=>by cases e;exact hne⟩ hf;exact⟨by simpa[sessV,wetDay] using hA1.blk.set_ 9 (.slice (some ⟨g2,0,none⟩) (x.da.n+1) cap2),⟨hr.co,hr.col,hr.cbed,hr.li,hr.ce,hrow,hr.le,hr.pa,hr.sl,hr.slc,hr.sway,hr.bo,hr.rd⟩⟩
         have HS:=hid hS;have HF9:=hid (Fr.setAt (HF.out.wide (E':=fun i=>i=s∨i=g) fun i _ e=>.inr e) (p:=⟨s,9,none⟩) (.inl (.inl rfl)) (.slice (some ⟨g2,0,none⟩) (x.da.n+1) cap2));have HSL:=hid HA.out.blk.lt;clear hS HF HB HRD d9 f9;revert HS HF9;generalize (w8.setCell ⟨s,9,none⟩ (.slice (some ⟨g2,0,none⟩) (x.da.n+1) cap2))=w9;intro HS HF9;have HB9:=hid (Below.refl w9.heap.size w9);have HSO:=hid (show slopeOk b.cols b.least=true from slopeOk_iff.2 ⟨⟨by have:=HN.out;have:=HO0.out;omega,HOK.out.colN⟩,HOK.out.least,HOK.out.bed⟩);have hlc:=fun(W:World) (hW:Below w9.heap.size w9 W)=>level_c (HS.out.below hW) HFA.out (by simp[wetDay]) HOK.out.linkN HOK.out.link HSO.out;have HLC:=hid hlc;have d13:=HS.out.blk.cell 13;simp[sessV,wetDay] at d13;clear hlc;refine wp_region_till [8] (fun U=>U.cell? ⟨s,13,none⟩=some (.slice x.le.A x.le.n x.le.c)) (by kernel_rfl) (by exact d13) (fun hHeld=>?_);have hb9:=(Below.refl w9.heap.size w9).drew;replace HB9:=hdT HB9 hb9;replace HF9:=hid (HF9.out.trans (Fr.of_below hb9 _));clear hb9;revert hHeld HB9 HF9;generalize w9.drew=w0;intro hHeld HB9 HF9;refine tp 0 ?_;refine tk 4 1 ?_;refine tk 3 2 ?_;refine tk 2 3 ?_;refine tk 1 4 ?_;refine tk 0 5 ?_;refine tk 1 6 ?_;refine ar [7] (ac (fun K hK=>?_) an);go_simp;go_at_call 101;refine(HLC.out _ HB9.out).mono ?_;rintro e w10 ⟨rfl,hb9⟩;replace HB9:=hdT HB9 hb9;replace HF9:=hid (HF9.out.trans (Fr.of_below hb9 _));clear hb9 ;have d13:=(HS.out.below HB9.out).blk.cell 13;simp[sessV,wetDay] at d13
         (try go_wp2_with fail);(try clear hHeld);refine hK.out _ _ (by(try dsimp only);exact d13) (fun hHeld=>?_);clear hK K;refine pt ?_;refine ar [8] (al (fun K hK=>?_) an);go_simp;go_at_call 95;refine((withInt_c (levelP (wetDay b d)) (HS.out.below HB9.out).rows.le.rd (by have:=HN.out;have:=HOK.out.dayN;have:=HOK.out.levN;dsimp only;omega))).mono ?_;rintro e w11 ⟨g3,cap3,rfl,hcap,hge,hrd,hb9⟩;have HGW3:=hid (Nat.le_trans HF9.out.size hge);have HGE3:=hid (Nat.le_trans HB9.out.size hge);have HCAP3:=hid hcap;clear hge hcap;replace HB9:=hdT HB9 hb9;replace HF9:=hid (HF9.out.trans (Fr.of_below hb9 _));have HLV:=hid hrd;clear hb9 hrd;(try go_wp2_with fail);(try clear hHeld);refine hK.out _ _ ?_;clear hK K;refine pt ?_;refine te 9 ?_;refine te 10 ?_;refine te 11 ?_;refine ar [12] (al (fun K hK=>?_) an);have z:=(HS.out.below HB9.out).blk;have z0:=z.cell 13;have y0:=z.frozen 13;simp[sessV,wetDay] at z0;clear z;go_simp;(try clear hHeld);refine hK.out _ _ ?_;clear hK K;refine pt ?_;refine td ?_;(try clear hHeld);clear z0 y0 d13
         go_wp2_with fail
         go_end0
         rw[HR.out];have hA1:=HS.out.below HB9.out;have hf:FrS s w11 (w11.setCell ⟨s,13,none⟩ (.slice (some ⟨g3,0,none⟩) (x.le.n+1) cap3)):=(FrS.refl s w11).set _;have hr:=hA1.rows.fr hf
         have hne:g3≠s:=by have:=HS.out.blk.lt;have:=HGE3.out;omega
         have hrow:=SRow.fr (x:=⟨some ⟨g3,0,none⟩,x.le.n+1,cap3⟩) ⟨HLV.out,HCAP3.out,fun ad e=>by cases e;exact hne⟩ hf;exact methN_good (x:={ x with da:=⟨some ⟨g2,0,none⟩,x.da.n+1,cap2⟩,le:=⟨some ⟨g3,0,none⟩,x.le.n+1,cap3⟩ }) ⟨by simpa[sessV,wetDay] using hA1.blk.set_ 13 (.slice (some ⟨g3,0,none⟩) (x.le.n+1) cap3),⟨hr.co,hr.col,hr.cbed,hr.li,hr.ce,hr.da,hrow,hr.pa,hr.sl,hr.slc,hr.sway,hr.bo,hr.rd⟩⟩ (Fr.setAt HF9.out (p:=⟨s,13,none⟩) (.inl (.inl rfl)) _) (fun G hG h=>{ h with da:=fun ad e=>by cases e;have:=HGW2.out;dsimp only;omega,le:=fun ad e=>by cases e;have:=HGW3.out;dsimp only;omega })
       · have HFA:=hid hfa
         have e:=HR.out;rw[if_pos hfa] at e;clear HR;have HR:=hid e;clear e hfa
         go_wp2_with fail
         go_at_call 100;refine((Levels_bad (CS:=x.ce) (DS:=⟨some ⟨g2,0,none⟩,x.da.n+1,cap2⟩) HFA.out (HA.out.below HB.out).rows.ce.rd (by have:=HN.out;have:=HOK.out.cellN;unfold maxLen;omega) HRD.out (by have:=HN.out;have:=HOK.out.dayN;unfold maxLen;dsimp only;omega))).mono ?_;rintro e w7 ⟨rfl,hb9⟩;replace HB:=hdT HB hb9;replace HF:=hid (HF.out.trans (Fr.of_below hb9 _));replace HRD:=hid (HRD.out.below hb9);clear hb9 ;clear d3 d4 d5 d6 d7 d8
         go_wp2_with fail
         go_at_call 93;refine((must_f HFA.out _)).mono ?_;rintro e w8 ⟨rfl,hb9⟩;replace HB:=hdT HB hb9;replace HF:=hid (HF.out.trans (Fr.of_below hb9 _));replace HRD:=hid (HRD.out.below hb9);clear hb9 
         go_wp2_with fail
         rw[HR.out];exact⟨rfl,methN_no HFA.out (HA.out.below HB.out) HF.out⟩
     · skip
       have hqb:(now == line)=false:=by simpa using hq
       have hm9:M=nth l 1:=by rw[HM.out];unfold moreAt;rw[if_neg hq];omega
       rw[← hm9] at n1;clear d24 hm9 hq
       go_upto_region 3 with fail
       clear hqb;revert HB HF HBW n0 n1 n2;generalize w0=w5;intro HB HF HBW n0 n1 n2;clear HBW;have hA1:=HA.out.below HB.out;have d9:=hA1.blk.cell 9;simp[sessV] at d9;clear hA1;refine wp_region_till [16] (fun U=>U.cell? ⟨s,9,none⟩=some (.slice x.da.A x.da.n x.da.c)∧U.cell? ⟨g,0,none⟩=some (.int .i64 (nth l 0))∧U.cell? ⟨g,1,none⟩=some (.int .i64 M)∧U.cell? ⟨g,2,none⟩=some (.int .i64 (nth l 2))) (by kernel_rfl) (by exact⟨d9,n0,n1,n2⟩) (fun hHeld=>?_);have hb9:=(Below.refl w5.heap.size w5).drew;replace HB:=hdT HB hb9;replace HF:=hid (HF.out.trans (Fr.of_below hb9 _));clear hb9;revert hHeld HB HF;generalize w5.drew=w0;intro hHeld HB HF;refine tk 4 0 ?_;refine tk 3 1 ?_;refine tk 2 2 ?_;refine tk 1 3 ?_;refine tk 0 4 ?_;refine tk 4 5 ?_;refine tk 3 6 ?_;refine tk 2 7 ?_;refine tk 4 8 ?_;refine tk 3 9 ?_;refine tk 2 10 ?_;refine tk 1 11 ?_;refine tk 3 12 ?_;refine tk 2 13 ?_;refine tk 1 14 ?_;refine tk 0 15 ?_;refine ar [16] (al (fun K hK=>?_) an);go_simp;go_at_call 99;refine((withDay_c ⟨nth l 0,M,nth l 2⟩ (HA.out.below HB.out).rows.da.rd (by have:=HN.out;have:=HOK.out.dayN;omega))).mono ?_;rintro e w6 ⟨g2,cap2,rfl,hcap,hge,hrd,hb9⟩;rw[← HD.out] at hrd;have HGW2:=hid (Nat.le_trans HF.out.size hge);have HGE:=hid (Nat.le_trans HB.out.size hge);have HCAP:=hid hcap;clear hge hcap;replace HB:=hdT HB hb9;replace HF:=hid (HF.out.trans (Fr.of_below hb9 _));have HRD:=hid hrd;clear hb9 hrd;(try go_wp2_with fail);(try clear hHeld);refine hK.out _ _ ?_;clear hK K;refine pt ?_;refine te 17 ?_
       refine td ?_;(try clear hHeld);clear d9 n0 n1 n2;have hA1:=HA.out.below HB.out;have d3:=hA1.blk.cell 3;have d4:=hA1.blk.cell 4;have d5:=hA1.blk.cell 5;have d6:=hA1.blk.cell 6;have d7:=hA1.blk.cell 7;have d8:=hA1.blk.cell 8;simp[sessV] at d3 d4 d5 d6 d7 d8;clear hA1
       by_cases hfa:faultW b.cells b.sn0 b.sn1 b.so0 b.so1 b.melt (b.days++[d])=0
       · have HFA:=hid hfa
         have e:=HR.out;rw[if_neg (fun h=>h hfa)] at e;clear HR hfa;have HR:=hid e;clear e
         go_wp2_with fail
         go_at_call 100;refine((Levels_ok (CS:=x.ce) (DS:=⟨some ⟨g2,0,none⟩,x.da.n+1,cap2⟩) HFA.out (HA.out.below HB.out).rows.ce.rd HRD.out (by dsimp only;omega))).mono ?_;rintro e w7 ⟨LA,lc,vsl,gs,rfl,_,_,_,hb9⟩;replace HB:=hdT HB hb9;replace HF:=hid (HF.out.trans (Fr.of_below hb9 _));replace HRD:=hid (HRD.out.below hb9);clear hb9 ;clear d3 d4 d5 d6 d7 d8
         go_wp2_with fail
         go_at_call 93;refine(must_t _).mono ?_;rintro e w8 ⟨rfl,hb9⟩;replace HB:=hdT HB hb9;replace HF:=hid (HF.out.trans (Fr.of_below hb9 _));replace HRD:=hid (HRD.out.below hb9);clear hb9 ;have hA1:=(HA.out.below HB.out).blk;have d9:=hA1.cell 9;have f9:=hA1.frozen 9;simp[sessV] at d9;clear hA1
         go_upto_region 7 with fail
         have hS:SAt (w8.setCell ⟨s,9,none⟩ (.slice (some ⟨g2,0,none⟩) (x.da.n+1) cap2)) s { x with da:=⟨some ⟨g2,0,none⟩,x.da.n+1,cap2⟩ } (wetDay b d) now line more:=by
          have hA1:=HA.out.below HB.out;have hf:FrS s w8 (w8.setCell ⟨s,9,none⟩ (.slice (some ⟨g2,0,none⟩) (x.da.n+1) cap2)):=(FrS.refl s w8).set _;have hr:=hA1.rows.fr hf
          have hne:g2≠s:=by have:=HA.out.blk.lt;have:=HGE.out;omega
          have hrow:=SRow.fr (x:=⟨some ⟨g2,0,none⟩,x.da.n+1,cap2⟩) ⟨HRD.out,HCAP.out,fun ad e=>by cases e;exact hne⟩ hf;exact⟨by simpa[sessV,wetDay] using hA1.blk.set_ 9 (.slice (some ⟨g2,0,none⟩) (x.da.n+1) cap2),⟨hr.co,hr.col,hr.cbed,hr.li,hr.ce,hrow,hr.le,hr.pa,hr.sl,hr.slc,hr.sway,hr.bo,hr.rd⟩⟩
         have HS:=hid hS;have HF9:=hid (Fr.setAt (HF.out.wide (E':=fun i=>i=s∨i=g) fun i _ e=>.inr e) (p:=⟨s,9,none⟩) (.inl (.inl rfl)) (.slice (some ⟨g2,0,none⟩) (x.da.n+1) cap2));have HSL:=hid HA.out.blk.lt;clear hS HF HB HRD d9 f9;revert HS HF9;generalize (w8.setCell ⟨s,9,none⟩ (.slice (some ⟨g2,0,none⟩) (x.da.n+1) cap2))=w9;intro HS HF9;have HB9:=hid (Below.refl w9.heap.size w9);have HSO:=hid (show slopeOk b.cols b.least=true from slopeOk_iff.2 ⟨⟨by have:=HN.out;have:=HO0.out;omega,HOK.out.colN⟩,HOK.out.least,HOK.out.bed⟩);have hlc:=fun(W:World) (hW:Below w9.heap.size w9 W)=>level_c (HS.out.below hW) HFA.out (by simp[wetDay]) HOK.out.linkN HOK.out.link HSO.out;have HLC:=hid hlc;have d13:=HS.out.blk.cell 13;simp[sessV,wetDay] at d13;clear hlc;refine wp_region_till [8] (fun U=>U.cell? ⟨s,13,none⟩=some (.slice x.le.A x.le.n x.le.c)) (by kernel_rfl) (by exact d13) (fun hHeld=>?_);have hb9:=(Below.refl w9.heap.size w9).drew;replace HB9:=hdT HB9 hb9;replace HF9:=hid (HF9.out.trans (Fr.of_below hb9 _));clear hb9;revert hHeld HB9 HF9;generalize w9.drew=w0;intro hHeld HB9 HF9;refine tp 0 ?_;refine tk 4 1 ?_;refine tk 3 2 ?_;refine tk 2 3 ?_;refine tk 1 4 ?_;refine tk 0 5 ?_;refine tk 1 6 ?_;refine ar [7] (ac (fun K hK=>?_) an);go_simp;go_at_call 101;refine(HLC.out _ HB9.out).mono ?_;rintro e w10 ⟨rfl,hb9⟩;replace HB9:=hdT HB9 hb9;replace HF9:=hid (HF9.out.trans (Fr.of_below hb9 _));clear hb9 ;have d13:=(HS.out.below HB9.out).blk.cell 13;simp[sessV,wetDay] at d13
         (try go_wp2_with fail);(try clear hHeld);refine hK.out _ _ (by(try dsimp only);exact d13) (fun hHeld=>?_);clear hK K;refine pt ?_;refine ar [8] (al (fun K hK=>?_) an);go_simp;go_at_call 95;refine((withInt_c (levelP (wetDay b d)) (HS.out.below HB9.out).rows.le.rd (by have:=HN.out;have:=HOK.out.dayN;have:=HOK.out.levN;dsimp only;omega))).mono ?_;rintro e w11 ⟨g3,cap3,rfl,hcap,hge,hrd,hb9⟩;have HGW3:=hid (Nat.le_trans HF9.out.size hge);have HGE3:=hid (Nat.le_trans HB9.out.size hge);have HCAP3:=hid hcap;clear hge hcap;replace HB9:=hdT HB9 hb9;replace HF9:=hid (HF9.out.trans (Fr.of_below hb9 _));have HLV:=hid hrd;clear hb9 hrd;(try go_wp2_with fail);(try clear hHeld);refine hK.out _ _ ?_;clear hK K;refine pt ?_;refine te 9 ?_;refine te 10 ?_;refine te 11 ?_;refine ar [12] (al (fun K hK=>?_) an);have z:=(HS.out.below HB9.out).blk;have z0:=z.cell 13;have y0:=z.frozen 13;simp[sessV,wetDay] at z0;clear z;go_simp;(try clear hHeld);refine hK.out _ _ ?_;clear hK K;refine pt ?_;refine td ?_;(try clear hHeld);clear z0 y0 d13
         go_wp2_with fail
         go_end0
         rw[HR.out];have hA1:=HS.out.below HB9.out;have hf:FrS s w11 (w11.setCell ⟨s,13,none⟩ (.slice (some ⟨g3,0,none⟩) (x.le.n+1) cap3)):=(FrS.refl s w11).set _;have hr:=hA1.rows.fr hf
         have hne:g3≠s:=by have:=HS.out.blk.lt;have:=HGE3.out;omega
         have hrow:=SRow.fr (x:=⟨some ⟨g3,0,none⟩,x.le.n+1,cap3⟩) ⟨HLV.out,HCAP3.out,fun ad e=>by cases e;exact hne⟩ hf;exact methN_good (x:={ x with da:=⟨some ⟨g2,0,none⟩,x.da.n+1,cap2⟩,le:=⟨some ⟨g3,0,none⟩,x.le.n+1,cap3⟩ }) ⟨by simpa[sessV,wetDay] using hA1.blk.set_ 13 (.slice (some ⟨g3,0,none⟩) (x.le.n+1) cap3),⟨hr.co,hr.col,hr.cbed,hr.li,hr.ce,hr.da,hrow,hr.pa,hr.sl,hr.slc,hr.sway,hr.bo,hr.rd⟩⟩ (Fr.setAt HF9.out (p:=⟨s,13,none⟩) (.inl (.inl rfl)) _) (fun G hG h=>{ h with da:=fun ad e=>by cases e;have:=HGW2.out;dsimp only;omega,le:=fun ad e=>by cases e;have:=HGW3.out;dsimp only;omega })
       · have HFA:=hid hfa
         have e:=HR.out;rw[if_pos hfa] at e;clear HR;have HR:=hid e;clear e hfa
         go_wp2_with fail
         go_at_call 100;refine((Levels_bad (CS:=x.ce) (DS:=⟨some ⟨g2,0,none⟩,x.da.n+1,cap2⟩) HFA.out (HA.out.below HB.out).rows.ce.rd (by have:=HN.out;have:=HOK.out.cellN;unfold maxLen;omega) HRD.out (by have:=HN.out;have:=HOK.out.dayN;unfold maxLen;dsimp only;omega))).mono ?_;rintro e w7 ⟨rfl,hb9⟩;replace HB:=hdT HB hb9;replace HF:=hid (HF.out.trans (Fr.of_below hb9 _));replace HRD:=hid (HRD.out.below hb9);clear hb9 ;clear d3 d4 d5 d6 d7 d8
         go_wp2_with fail
         go_at_call 93;refine((must_f HFA.out _)).mono ?_;rintro e w8 ⟨rfl,hb9⟩;replace HB:=hdT HB hb9;replace HF:=hid (HF.out.trans (Fr.of_below hb9 _));replace HRD:=hid (HRD.out.below hb9);clear hb9 
         go_wp2_with fail
         rw[HR.out];exact⟨rfl,methN_no HFA.out (HA.out.below HB.out) HF.out⟩
theorem infoByte:(Tryz.prog.info? 5).map (fun i=>(i.zero,i.size,i.bytes))=some (some (.int .u8 0),1,1):=by kernel_rfl
def linesB (LL:List ByteArray):List (List UInt8):=LL.map (·.data.toList)
theorem linesB_take (LL:List ByteArray)(j:Nat):linesB (LL.take j)=(linesB LL).take j:=by unfold linesB;rw[List.map_take]
theorem linesB_at {LL:List ByteArray}{j:Nat}{p:ByteArray}(h:LL[j]?=some p):(linesB LL)[j]?=some p.data.toList:=by unfold linesB;rw[List.getElem?_map,h];rfl
theorem fold_take {l:List (List UInt8)}{j c:Nat}{s:List UInt8}(h:l[j]?=some s):(l.take (j+1)).foldl chkW c=chkW ((l.take j).foldl chkW c) s:=by
 rw[List.take_add_one,h,Option.toList_some,List.foldl_append];rfl
theorem book_bd:∀(l:List (List UInt8)) (c:Nat),(∀ s∈l,s.length≤1000)→(bookW l c).length≤1014 * l.length
 | [],_,_=>by simp[bookW]
 | s::l,c,h=>by
  have h1:=book_bd l (chkW c s) fun t ht=>h t (List.mem_cons.2 (.inr ht));have h2:=h s (List.mem_cons.2 (.inl rfl));rw[bookW,List.length_append,rec_len,List.length_cons];omega
theorem own_lower {w:World}{b b':Nat}{e:TypeId}{size n:Nat}{v:Value}{xs:List Value}(h:w.ownsRow b e size v n xs)(hb:b'≤b):w.ownsRow b' e size v n xs :=
 ⟨h.1,h.2.imp id fun⟨g,cap,cur,e1,h1,r⟩=>⟨g,cap,cur,e1,Nat.le_trans hb h1,r⟩⟩
theorem written_c {A:Option Addr}{n c:Nat}{LL:List ByteArray}{w:World}(h:Rd encStr 1 w A n LL)(hn:n≤1000)(hs:∀ p∈LL,p.size≤1000) :
 Calls Tryz.prog 34 #[.slice A n c] w fun e w'=>∃ v,e=.returned v∧w'.ownsRow w.heap.size 5 1 v (bookW (linesB LL) 5).length ((bookW (linesB LL) 5).map u8V)∧Below w.heap.size w w':=by
 have H:=hid h;have HLEN:=hid h.len;have HS:=hid hs;have HB:=hid (Below.refl w.heap.size w);obtain⟨i0,hi0,hz0,hz1,hz2⟩:=info_parts infoByte;have HI:=hid hi0;have HZ0:=hid hz0;have HZ1:=hid hz1;have HZ2:=hid hz2;clear hi0 hz0 hz1 hz2 h hs
 go_enter Tryz.func34,Tryz.ntmps34
 go_wp2_with fail
 go_loopw [2,3,10] (fun ov kv iv wr=>∃(j:Nat) (B:List UInt8) (k:Nat) (v:Value),v=ov∧j≤n∧iv=.int .i64 j∧B=bookW ((linesB LL).take j) 5∧k=((linesB LL).take j).foldl chkW 5∧kv=.int .i64 (k:Nat)∧wr.ownsRow w.heap.size 5 1 v B.length (B.map u8V)∧Below w.heap.size w wr) (fun _ _ iv _=>n - (intOf iv).toNat)
 case atStart=>exact⟨0,[],5,_,rfl,Nat.zero_le _,rfl,rfl,rfl,rfl,World.ownsRow_nil _ _ _ _,HB.out⟩
 case round =>
  obtain⟨j,B,k,ov,rfl,hj,rfl,hB,hk,rfl,hown,hb⟩:=hrel;have HBK:=hid hB;have HK:=hid hk;have HOWN:=hid hown;clear HB;have HB:=hid hb;clear hB hk hown hb
  by_cases hlt:j<n
  · obtain⟨b,o,p,rfl,hp,c0⟩:=str_at (H.out.below HB.out) hlt
    have HP:=hid hp
    have hi1:(j:Int)<(n:Int):=by omega
    have hi0:(0:Int)≤(j:Int):=by omega
    have hps:=HS.out p (List.mem_of_getElem? hp)
    have hkl:k<11881357:=by rw[HK.out];exact fold_lt _ (by decide)
    have hbl:B.length≤1014 * 1000:=by
     have:=book_bd ((linesB LL).take j) 5 fun s hs=>by
      obtain⟨q,hq,rfl⟩:=List.mem_map.1 (List.mem_of_mem_take hs);exact HS.out q hq
     rw[HBK.out]
     have h2:((linesB LL).take j).length≤1000:=by rw[List.length_take];omega
     omega
    have hrl:(recW p.data.toList k).length=14+p.size:=by rw[rec_len];rfl
    have HRL:=hid hrl;have HBL:=hid hbl;have HRC:=hid (fun W=>record_c p k W hps hkl);have HPS:=hid hps;clear hp hrl hbl hps hkl
    go_wp2_with fail
    refine(HRC.out _).mono ?_;rintro e w2 ⟨rfl,hb9⟩;replace HB:=hdT HB hb9;replace HOWN:=hid (own_mono HOWN.out hb9);clear hb9 ;clear c0
    go_wp2_with (at_builtin;go_must (refine Lib.wpList_append_own_string _ rfl _ _ 54 9 rfl w.heap.size 5 i0 Tryz.underlying54 Tryz.underlying9 HI.out HZ0.out HZ1.out HZ2.out ov B.length (B.map u8V) rfl HOWN.out ⟨(recW p.data.toList k).toArray⟩ rfl (by have h1:=HBL.out;have h2:=HRL.out;have h3:=HPS.out;show B.length+(recW p.data.toList k).length≤_;unfold maxLen;omega) (by have h1:=HBL.out;have h2:=HRL.out;have h3:=HPS.out;show B.length+(recW p.data.toList k).length≤_;omega) HB.out.size ?_;intro v' w3 hown hgr hnil))
    have hx:=linesB_at HP.out;have hb3:=HB.out.trans ((Fr.of_grown hgr (E:=fun g=>ov.ownBlock=some g) fun g e _=>e).below HB.out.size fun q e=>(HOWN.out.lt q e).1);refine⟨⟨j+1,B++recW p.data.toList k,_,v',rfl,by omega,by go_num,?_,rfl,?_,?_,hb3⟩,by simp[intOf];omega⟩
    · rw[book_succ hx,← HBK.out,← HK.out]
    · rw[fold_take hx,← HK.out]
    · rw[List.length_append,List.map_append]
      exact hown
  · obtain rfl:j=n:=by omega
    have hall:(linesB LL).take j=linesB LL:=by rw[List.take_of_length_le (by unfold linesB;rw[List.length_map,HLEN.out];exact Nat.le_refl _)]
    have hfin:=HBK.out;rw[hall] at hfin;have HF:=hid hfin;clear hfin hall
    go_wp2_with fail
    go_ret
    exact⟨ov,rfl,by rw[← HF.out];exact HOWN.out,HB.out⟩
theorem Write_c {A:Option Addr}{n c:Nat}{LL:List ByteArray}{w:World}(h:Rd encStr 1 w A n LL) :
 Calls Tryz.prog 16 #[.slice A n c] w fun e w'=>∃ v,e=.returned (.tuple #[v,.int .i64 (checkL LL)]) ∧
  (checkL LL=0→w'.ownsRow w.heap.size 5 1 v (bookW (linesB LL) 5).length ((bookW (linesB LL) 5).map u8V))∧(checkL LL≠0→v=.slice none 0 0)∧Below w.heap.size w w':=by
 have H:=hid h;have HB:=hid (Below.refl w.heap.size w);have HLEN:=hid h.len;have hck:=fun W (hW:Below w.heap.size w W)=>chkL_c (c:=c) (h.below hW);have HCK:=hid hck;clear h hck;obtain⟨E,hE⟩:∃ E,E=checkL LL:=⟨_,rfl⟩;rw[← hE] at HCK ⊢
 go_enter Tryz.func16,Tryz.ntmps16
 go_wp2_with fail
 go_at_call 24;refine(HCK.out _ HB.out).mono ?_;rintro e w1 ⟨rfl,hb9⟩;replace HB:=hdT HB hb9;clear hb9 
 by_cases h0:E=0
 · subst h0
   have hn:n≤60∧∀ p∈LL,p.size≤300:=by
    unfold checkL at hE
    split at hE
    · cases hE
    · split at hE
      · rename_i h1 h2;exact⟨by have:=HLEN.out;omega,h2⟩
      · cases hE
   have hwr:=fun W (hW:Below w.heap.size w W)=>written_c (c:=c) (H.out.below hW) (by omega) (fun p hp=>by have:=hn.2 p hp;omega);have HWR:=hid hwr;clear hwr hn hE
   go_wp2_with fail
   go_at_call 34;refine(HWR.out _ HB.out).mono ?_;rintro e w2 ⟨v,rfl,hown,hb9⟩;have hown:=own_lower hown HB.out.size;replace HB:=hdT HB hb9;have HOWN:=hid hown;clear hb9 hown
   go_wp2_with fail
   go_ret2
   exact⟨v,rfl,HOWN.out,HB.out⟩
 · have hne:(E == 0)=false:=by simpa using h0
   clear hE
   go_wp2_with fail
   (try rw[Exit.noGoto_ret])
   go_ret2
   exact⟨_,rfl,fun h=>absurd h h0,fun _=>rfl,HB.out⟩
def rightP (LL:List ByteArray):Prop:=(∀ p∈LL,p.size≤300)∧LL.length≤60
instance (LL:List ByteArray):Decidable (rightP LL):=by unfold rightP;infer_instance
theorem right_check {LL:List ByteArray}(h:rightP LL):checkL LL=0:=by
 unfold checkL;rw[if_neg (by have:=h.2;omega),if_pos h.1]
theorem rightR_c {A:Option Addr}{n c:Nat}{LL:List ByteArray}{w:World}(h:Rd encStr 1 w A n LL)(hn:n≤9223372036854775807) :
 Calls Tryz.prog 20 #[.slice A n c] w fun e w'=>e=.returned (.bool (decide (rightP LL)))∧Below w.heap.size w w':=by
 have H:=hid h;have HLEN:=hid h.len;clear h
 go_enter Tryz.func20,Tryz.ntmps20
 go_wp2_with fail
 go_loopw [3] (fun i wr=>∃ k:Nat,k≤n∧i=.int .i64 k∧(∀ p∈LL.take k,p.size≤300)∧wr=w) (fun i _=>n - (intOf i).toNat)
 case atStart=>exact⟨0,Nat.zero_le _,rfl,by simp,rfl⟩
 case round =>
  obtain⟨k,hk,rfl,hall,rfl⟩:=hrel;have HALL:=hid hall;clear hall
  by_cases hlt:k<n
  · obtain⟨b,o,p,rfl,hp,c0⟩:=str_at H.out hlt
    have HP:=hid hp
    have hi1:(k:Int)<(n:Int):=by omega
    have hi0:(0:Int)≤(k:Int):=by omega
    clear hp
    by_cases hps:p.size≤300
    · have hqp:¬(300:Int)<(p.size:Int):=by omega
      go_wp2_with fail
      go_roundw
      case rel =>
       refine⟨k+1,by omega,by go_num,fun q hq9=>?_,by trivial⟩;rw[List.take_add_one,HP.out] at hq9
       rcases List.mem_append.1 hq9 with h9 | h9
       · exact HALL.out q h9
       · obtain rfl:q=p:=by simpa using h9
         exact hps
      case measure=>simp[intOf]<;>omega
    · have hqp:(300:Int)<(p.size:Int):=by omega
      have hno:decide (rightP LL)=false:=decide_eq_false fun h9=>hps (h9.1 p (List.mem_of_getElem? HP.out));have HNO:=hid hno;clear hno
      go_wp2_with fail
      (try rw[Exit.noGoto_ret])
      go_ret
      exact⟨by rw[HNO.out];rfl,Below.refl _ _⟩
  · obtain rfl:k=n:=by omega
    have hall:∀ p∈LL,p.size≤300:=fun p hp=>HALL.out p (by rw[← HLEN.out,List.take_length];exact hp)
    by_cases h25:k≤60
    · have hyes:decide (rightP LL)=true:=decide_eq_true ⟨hall,by have:=HLEN.out;omega⟩
      have HY:=hid hyes
      have hq2:(k:Int)≤60:=by omega
      clear hyes hall
      go_wp2_with fail
      go_ret
      exact⟨by rw[HY.out];rfl,Below.refl _ _⟩
    · have hno:decide (rightP LL)=false:=decide_eq_false fun h9=>by have:=h9.2;have:=HLEN.out;omega
      have HNO:=hid hno
      have hq2:¬(k:Int)≤60:=by omega
      clear hno hall
      go_wp2_with fail
      go_ret
      exact⟨by rw[HNO.out];rfl,Below.refl _ _⟩
theorem bk_size {LL:List ByteArray}(hs:∀ p∈LL,p.size≤300)(hn:LL.length≤60)(i:Nat):(bookW ((linesB LL).take i) 5).length≤60 * 314:=by
 have h1:∀(l:List (List UInt8)) (c:Nat),(∀ s∈l,s.length≤300)→(bookW l c).length≤314 * l.length:=by
  intro l
  induction l with
  | nil=>intro c _;simp[bookW]
  | cons s l ih =>
   intro c hs;have e1:=ih (chkW c s) fun t ht=>hs t (List.mem_cons.2 (.inr ht));have e2:=hs s (List.mem_cons.2 (.inl rfl));rw[bookW,List.length_append,rec_len,List.length_cons];omega
 have h2:=h1 ((linesB LL).take i) 5 fun s hs'=>by
  obtain⟨p,hp,rfl⟩:=List.mem_map.1 (List.mem_of_mem_take hs');exact hs p hp
 have h3:((linesB LL).take i).length≤60:=by rw[List.length_take];unfold linesB;rw[List.length_map];omega
 have:=Nat.mul_le_mul_left 314 h3;omega
end Go.Proofs.YtkhcliibilkefaaGreatDoor
namespace Go.Proofs.YtkhcliibilkefaaGreatDoor
open Lib (hid)
open Go.RowKit Go.Proofs Go.ChangeShapes Go.WideShapes Go.Deep
section
variable {H:Type} {enc:TypeId×Value→H} {P:Program} {w:World} {base:Nat} {spare:Nat→Bool} {held:Bool}
theorem el_str {t:TypeId}(ht:P.underlying t=some .string)(fuel:Nat)(cs:List Value)(x:DataW H×List MemPlace)(h:DataW.trod enc P w base spare held fuel t cs=some x) :
 ∃ s:ByteArray,encStr s=cs∧True:=by
 obtain⟨s,e,_,_⟩:=DataW.trod_string ht h;exact⟨s,e.symm,trivial⟩
theorem rd_texts_of {t e:TypeId}{A:Option Addr}{len cap:Nat}{d:DataW H}{p:List MemPlace}(ht:P.underlying t=some (.slice e))(he:P.underlying e=some .string)(hc:P.cellsOf e=1)(h:DataW.Trod enc P w base spare held t (.slice A len cap) d p) :
 ∃ l:List ByteArray,Rd encStr 1 w A len l∧len≤cap∧cap≤maxLen:=by
 obtain⟨fuel,hf⟩:=h;obtain⟨A',len',cap',l,e,h1,h2,h3,h4⟩:=rd_gen (en:=encStr) ht hc (by decide) (el_str he) hf;simp[Value.cells] at e;obtain⟨rfl,rfl,rfl⟩:=e;exact⟨l,h1,h2,h3⟩
theorem iface_of {t:TypeId}{m:Array (String×TypeId)}{fuel:Nat}{cs:List Value}{x:DataW H×List MemPlace}(ht:P.underlying t=some (.interface m))(h:DataW.trod enc P w base spare held fuel t cs=some x):∃ v,cs=[v]∧ErrV v:=by
 cases fuel with
 | zero=>simp[DataW.trod] at h
 | succ n =>
  unfold DataW.trod at h;rw[ht] at h
  split at h<;>first
   | (rename_i h1;cases h1;done)
   | skip
  all_goals first
   | exact⟨_,rfl,.inl rfl⟩
   | exact⟨_,rfl,.inr ⟨_,_,rfl⟩⟩
   | cases h
end
theorem gsz:Tryz.prog.globals.size≤9:=of_decide_eq_true (by kernel_rfl)
theorem bsz:9<(begin Tryz.prog (fun _ _=>0) default).world.heap.size:=of_decide_eq_true (by kernel_rfl)
theorem g_syn:Tryz.prog.globalNamed "strconv.ErrSyntax"=some 1:=by kernel_rfl
theorem g_rng:Tryz.prog.globalNamed "strconv.ErrRange"=some 2:=by kernel_rfl
theorem g_err (i:Nat)(h:i=1∨i=2):(Tryz.prog.globals[i]?).map (·.type)=some 142:=by rcases h with rfl | rfl<;>kernel_rfl
theorem u_err:∃ m,Tryz.prog.underlying 142=some (.interface m):=by
 have h:(match Tryz.prog.underlying 142 with | some (.interface _)=>true | _=>false)=true:=by kernel_rfl
 split at h
 · next m hm=>exact⟨m,hm⟩
 · cases h
theorem err_of {W:World}{n:String}{d:DataW Unit}{g:Nat}(h:Lib.VarReads Tryz.prog W n d)(hg:Tryz.prog.globalNamed n=some g)(h12:g=1∨g=2):∃ v,W.cell? ⟨g,0,none⟩=some v∧ErrV v:=by
 obtain⟨g',t,cs,fuel,p,hg',ht,hv,hd⟩:=h;obtain rfl:=Option.some.inj (hg.symm.trans hg');obtain rfl:=Option.some.inj ((g_err g h12).symm.trans ht);obtain⟨m,hm⟩:=u_err;obtain⟨v,hcs,hev⟩:=iface_of hm hd;have:=World.var?_cell hg hv 0
 have hc:cs=#[v]:=by cases cs;simp at hcs;simp[hcs]
 rw[hc] at this;exact⟨v,by simpa using this,hev⟩
theorem tab_of {W:World}{k:IntKind}{zs:List Int}{n:String}{g:Nat}{t e:TypeId}{m:Nat}(hg:Tryz.prog.globalNamed n=some g)(hty:(Tryz.prog.globals[g]?).map (·.type)=some t)(ht:Tryz.prog.underlying t=some (.array m e))(he:Tryz.prog.underlying e=some (.int k))(hce:Tryz.prog.cellsOf e=1)(hct:Tryz.prog.cellsOf t=m)
 (h:Lib.VarReads Tryz.prog W n (Lib.tabData k zs)):Lib.TabIs Tryz.prog W n k zs:=by
 obtain⟨g',t',cs,fuel,p,hg',ht',hv,hd⟩:=h;obtain rfl:=Option.some.inj (hg.symm.trans hg');obtain rfl:=Option.some.inj (hty.symm.trans ht');unfold Lib.TabIs;rw[hv,← Lib.cells_of_tab ht he hce hct hd]
theorem g_pow:∃ g,Tryz.prog.globalNamed "internal/strconv.uint64pow10"=some g∧(Tryz.prog.globals[g]?).map (·.type)=some 301:=by
 refine⟨_,rfl,?_⟩
 kernel_rfl
theorem max_of {W:World}(hs:W.ShapedOpen Tryz.prog):∃ m,W.cell? ⟨0,0,none⟩=some (.int .i64 m) :=
 cell_of_shapedOpen_int (P:=Tryz.prog) (g:=0) (t:=3) (zero:=#[.int .i64 0]) hs (of_decide_eq_true (by kernel_rfl)) (by kernel_rfl) rfl (by kernel_rfl) (by kernel_rfl) Tryz.underlying3
theorem size_of {W:World}(hs:W.ShapedOpen Tryz.prog):10≤W.heap.size:=by
 obtain⟨o,_,ho,_⟩:=hs.2 9 gsz bsz;have:=(Array.getElem?_eq_some_iff.1 ho).1;omega
theorem lay_of {W:World}{L:List (String×DataW Unit)}(h:laidMet Tryz.prog L W)(hs:W.ShapedOpen Tryz.prog){d1 d2:DataW Unit}(h1:("strconv.ErrSyntax",d1)∈L) (h2:("strconv.ErrRange",d2)∈L) (h5:("internal/strconv.uint64pow10",Lib.tabData .u64 Lib.pow10Tab)∈L):Lay W:=by
 obtain⟨g,hg,hty⟩:=g_pow;exact⟨size_of hs,max_of hs,err_of (Lib.laidMet.reads h h1) g_syn (.inl rfl),err_of (Lib.laidMet.reads h h2) g_rng (.inr rfl),tab_of hg hty Tryz.underlying301 Tryz.underlying269 (by kernel_rfl) (by kernel_rfl) (Lib.laidMet.reads h h5)⟩
section
variable {H:Type}
theorem bulk_one (d:DataW H):1≤Rows.uptoBulk d:=by
 cases d with
 | lit l=>cases l<;>simp[Rows.uptoBulk]
 | _=>simp[Rows.uptoBulk]
theorem bulk_part {d:DataW H}:∀ {l:List (DataW H)},d∈l→Rows.uptoBulk d≤Rows.uptoBulkAll l
 | [],h=>by cases h
 | x::r,h=>by
  simp only[Rows.uptoBulkAll]
  rcases List.mem_cons.1 h with rfl | e
  · omega
  · have:=bulk_part e;omega
theorem bulk_len:∀(l:List (DataW H)),l.length≤Rows.uptoBulkAll l
 | []=>by simp
 | x::r=>by have:=bulk_one x;have:=bulk_len r;simp only[Rows.uptoBulkAll,List.length_cons];omega
variable {enc:TypeId×Value→H} {P:Program} {w:World} {base:Nat} {spare:Nat→Bool} {held:Bool}
theorem texts_small {t e:TypeId}{A:Option Addr}{len cap B:Nat}{d:DataW H}{p:List MemPlace}(ht:P.underlying t=some (.slice e))(he:P.underlying e=some .string)(hc:P.cellsOf e=1)(h:DataW.Trod enc P w base spare held t (.slice A len cap) d p)
 {l:List ByteArray} (hr:Rd encStr 1 w A len l) (hB:Rows.uptoBulk d≤B):len≤B∧∀ q∈l,q.size≤B:=by
 obtain⟨fuel,hf⟩:=h
 rcases open_slice ht hf with ⟨h0,_⟩ | ⟨a,len',cap',m,n,D,Pl,hcs,hb,hl,hm,hmm,hx,hi⟩
 · simp[Value.cells] at h0
   obtain⟨_,rfl,_⟩:=h0;refine⟨Nat.zero_le _,fun q hq=>?_⟩;have:=hr.len;obtain rfl:l=[]:=List.length_eq_zero_iff.1 this;cases hq
 · simp[Value.cells] at hcs
   obtain⟨rfl,rfl,rfl⟩:=hcs
   have hlm:len≤m:=by rw[hmm];split<;>omega
   have hd:=congrArg Prod.fst hx;dsimp only at hd;rw[hd] at hB;simp only[Rows.uptoBulk] at hB;have h1:=bulk_len ((List.range len).map D);rw[List.length_map,List.length_range] at h1;refine⟨by omega,fun q hq=>?_⟩;obtain⟨i,hiq⟩:=List.getElem?_of_mem hq
   have hil:i<len:=by have:=hr.len;have:=(List.getElem?_eq_some_iff.1 hiq).1;omega
   obtain⟨cs',hcc,htr⟩:=hi i (by omega);obtain⟨s,rfl,hds,_⟩:=DataW.trod_string he htr;have hds:=congrArg Prod.fst hds;dsimp only at hds;obtain⟨b,o,y,ea,_,hy,hcell⟩:=hr.at_ hil;cases ea;rw[hiq] at hy;cases hy;have hq0:=hcell 0 _ rfl;rw[hc] at hcc;obtain⟨_,_,hat⟩:=World.cells?_some hcc;have hs0:=hat 0 (by decide)
   have hadd:(Addr.add ⟨b,o,none⟩ (i * 1)).add 0=⟨b,o+i * 1+0,none⟩:=by rw[Go.Deep.add_add];unfold Addr.add;split<;>simp_all
   rw[hadd,hq0] at hs0
   have hsq:s=q:=by simpa[encStr] using hs0.symm
   subst hsq;have h2:Rows.uptoBulk (D i)≤Rows.uptoBulkAll ((List.range len).map D):=bulk_part (List.mem_map.2 ⟨i,List.mem_range.2 hil,rfl⟩);rw[hds] at h2;simp only[Rows.uptoBulk] at h2;have h3:s.data.toList.length=s.size:=rfl;omega
theorem witness_row {C:Checked}{os:Os}{f:FuncId}{fn:Func}{s:OpenSpec}{conds:List PathCond}{apart:Bool}{laid:List (String×DataW Unit)}(w0:World)(args:Array Value)(hos:w0.os=os)
 (hsh:(w0.forCall (fun _ _=>0) ⟨#[],args,[]⟩).Shaped C.prog) (hok:Input.okWideB C.prog (w0.forCall (fun _ _=>0) ⟨#[],args,[]⟩) f ⟨#[],args,[]⟩=true)
 (hrow:s.preRow enc C.prog fn conds apart laid (w0.forCall (fun _ _=>0) ⟨#[],args,[]⟩).memory args) :
 ∃(w:World) (tape:Tape) (i:Input),w.os=os∧(w.forCall tape i).Shaped C.prog∧i.vars=[]∧Input.okWide C.prog (w.forCall tape i) .any w.heap.size f i ∧
  s.preRow enc C.prog fn conds apart laid (w.forCall tape i).memory i.args∧({ modest:=false }:Assume).holds C.prog (lone (Frame.enter C.prog f i.args .normal) [] (w.forCall tape i)) :=
 ⟨w0,fun _ _=>0,⟨#[],args,[]⟩,hos,hsh,(Input.okWide_of_okWideB (base:=0) hok).1,(Input.okWide_of_okWideB hok).2,hrow,by
  simp only[Assume.holds]
  exact⟨by simp,by simp,fun _=>Modest.zero,by simp,by simp⟩⟩
end
end Go.Proofs.YtkhcliibilkefaaGreatDoor
