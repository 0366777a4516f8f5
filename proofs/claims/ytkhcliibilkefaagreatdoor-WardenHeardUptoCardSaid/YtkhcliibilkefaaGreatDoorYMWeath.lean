/- METHOD: weather. -/
import Derived.Test.YtkhcliibilkefaaGreatDoorYLevel
set_option linter.unusedVariables false
set_option linter.unusedSimpArgs false
set_option maxRecDepth 100000
set_option maxHeartbeats 8000000
namespace Go.Proofs.YtkhcliibilkefaaGreatDoor
open Lib (hid)
open Go.RowKit Go.Proofs
attribute [local go_sem ↓] Go.wp_at_zero Go.wp_at_succ
theorem methN_no {B0 s g:Nat}{now line more:Int}{b:Sess}{w w':World}{x:SAd}{E:Int}(hE:E≠0)(h:SAt w' s x b now line more)(hf:FrS g w w'):MethN B0 x s g now line more (refuse b E) w (.panicked [{ v:=refV E,recovered:=false }]) w' :=
 MethN.no hE h hf
theorem methN_good {B0 s g:Nat}{now line more:Int}{b:Sess}{w w':World}{x0 x:SAd}(h:SAt w' s x b now line more)(hf:Fr (fun i=>i=s∨i=g) w w')(ha:∀ G,G<B0→Away x0 G→Away x G):MethN B0 x0 s g now line more (done b) w (.returned (.tuple #[])) w' :=
 ⟨fun _=>rfl,fun h=>absurd rfl h,⟨x,h,ha⟩,hf,fun h=>absurd rfl h⟩
theorem weather_m {s:Nat}{x:SAd}{b:Sess}{now line more:Int}{g c:Nat}{l:List Int}{w0 w:World}(h:SAt w0 s x b now line more)(hok:SOk b)(hb:Below w0.heap.size w0 w)(hg:w0.heap.size≤g)(hl:NumsAt w s g 3 l)(hg2:∃ cur,Blk w g 3 cur)(hmo:0≤more∧more≤1000) :
 Calls Tryz.prog 77 #[.pointer (some ⟨s,0,none⟩),.slice (some ⟨g,0,none⟩) 3 c] w fun e w'=>MethN w.heap.size x s g now line more (sWeather b (moreAt now line more) l) w e w':=by
 have hlen:b.cols.length=x.co.n:=by rw[← h.rows.col,List.length_map,h.rows.co.len]
 have hcel:=h.rows.ce.len;have hday:=h.rows.da.len;have hlev:=h.rows.le.len;obtain⟨M,hM⟩:∃ M,M=nth l 1+moreAt now line more:=⟨_,rfl⟩;obtain⟨d,hd⟩:∃ d:Dy,d=⟨nth l 0,M,nth l 2⟩:=⟨_,rfl⟩;obtain⟨R,hR⟩:∃ R,R=sWeather b (moreAt now line more) l:=⟨_,rfl⟩;rw[← hR];unfold sWeather at hR;rw[← hM,← hd,hlen,hcel] at hR;have HA:=hid h;have HB:=hid hb;have HL:=hid hl;have HOK:=hid hok;have HG:=hid hg;have HF:=hid (FrS.refl g w);have HM:=hid hM;have HD:=hid hd;have HG2:=hid hg2;have HMO:=hid hmo;have HN:=hid (And.intro hlen (And.intro hcel (And.intro hday hlev)));have hA1:=h.below hb;have d3:=hA1.blk.cell 3;have d0:=hA1.blk.cell 0;simp[sessV] at d3 d0;clear h hok hb hg hl hM hd hA1 hlen hcel hday hlev hg2 hmo
 by_cases hc:x.ce.n=0
 · rw[if_pos (.inl hc)] at hR
   rw[hc] at d3;have HR:=hid hR;clear hR hc
   go_enter Tryz.func77,Tryz.ntmps77
   go_wp2_with fail
   go_at_call 54;refine(ask_f 8 _).mono ?_;rintro e w1 ⟨rfl,hb9⟩;replace HB:=hdT HB hb9;replace HF:=hid (HF.out.trans (Fr.of_below hb9 _));clear hb9 
   go_wp2_with fail
   rw[HR.out];exact⟨rfl,methN_no (E:=8) (by decide) (HA.out.below HB.out) HF.out⟩
 · have hc1:(0:Int)<(x.ce.n:Int):=by omega
   by_cases ho:x.co.n=0
   · rw[if_pos (.inr ho)] at hR
     rw[ho] at d0;have HR:=hid hR;clear hR hc ho
     go_enter Tryz.func77,Tryz.ntmps77
     go_wp2_with fail
     go_at_call 54;refine(ask_f 8 _).mono ?_;rintro e w1 ⟨rfl,hb9⟩;replace HB:=hdT HB hb9;replace HF:=hid (HF.out.trans (Fr.of_below hb9 _));clear hb9 
     go_wp2_with fail
     rw[HR.out];exact⟨rfl,methN_no (E:=8) (by decide) (HA.out.below HB.out) HF.out⟩
   · have ho1:(0:Int)<(x.co.n:Int):=by omega
     have ho2:0<x.co.n:=by omega
     rw[if_neg (by omega)] at hR;have HR:=hid hR;have HC0:=hid hc;have HO0:=hid ho;clear hR hc ho
     go_enter Tryz.func77,Tryz.ntmps77
     have HBW:=hid (Below.refl w.heap.size w)
     go_wp2_with fail
     go_at_call 54;refine(ask_t 8 _).mono ?_;rintro e w1 ⟨rfl,hb9⟩;replace HB:=hdT HB hb9;replace HF:=hid (HF.out.trans (Fr.of_below hb9 _));replace HBW:=hdT HBW hb9;clear hb9 ;clear d3 d0 hc1 ho1 ho2;have hA1:=HA.out.below HB.out;have d22:=hA1.blk.cell 22;have d23:=hA1.blk.cell 23;simp[sessV] at d22 d23;clear hA1
     go_upto_region 1 with fail
     refine wp_region_till [] (fun U=>U.cell? ⟨s,22,none⟩=some (.int .i64 now)∧U.cell? ⟨s,23,none⟩=some (.int .i64 line)) (by kernel_rfl) (by exact⟨d22,d23⟩) (fun hHeld=>?_);have hb9:=(Below.refl w1.heap.size w1).drew;replace HB:=hdT HB hb9;replace HF:=hid (HF.out.trans (Fr.of_below hb9 _));replace HBW:=hdT HBW hb9;clear hb9;revert hHeld HB HF HBW;generalize w1.drew=w0;intro hHeld HB HF HBW;refine tk 0 0 ?_;refine tk 0 1 ?_;refine tk 0 2 ?_;refine tk 0 3 ?_;refine tk 0 4 ?_;refine tk 0 5 ?_;refine tk 0 6 ?_;refine tk 0 7 ?_;refine tk 0 8 ?_;refine td ?_;(try clear hHeld);clear d22 d23;have hA1:=HA.out.below HB.out;have d24:=hA1.blk.cell 24;simp[sessV] at d24;have hL1:=HL.out.below HBW.out;have n0:=hL1.cell (i:=0) (by decide);have n1:=hL1.cell (i:=1) (by decide);have n2:=hL1.cell (i:=2) (by decide);clear hA1 hL1
     by_cases hq:now=line
     · skip
       have hqb:(now == line)=true:=by simpa using hq
       go_upto_region 2 with fail
       have hm9:M=nth l 1+more:=by rw[HM.out];unfold moreAt;rw[if_pos hq]
       clear hq hqb;have hb9:=HL.out.nb 1;have hmo:=HMO.out
       have hwr:IntKind.i64.wrap (nth l 1+more)=M:=by rw[hm9];exact wi (by omega)
       have HWR:=hid hm9;have HGL:=hid (show g<w.heap.size from HL.out.lt (by decide));clear hm9 hb9 hmo;refine wp_region_till [9] (fun U=>U.cell? ⟨g,1,none⟩=some (.int .i64 (nth l 1))∧U.cell? ⟨s,24,none⟩=some (.int .i64 more)) (by kernel_rfl) (by exact⟨n1,d24⟩) (fun hHeld=>?_);have hb9:=(Below.refl w0.heap.size w0).drew;replace HB:=hdT HB hb9;replace HF:=hid (HF.out.trans (Fr.of_below hb9 _));replace HBW:=hdT HBW hb9;clear hb9;revert hHeld HB HF HBW;generalize w0.drew=w0;intro hHeld HB HF HBW;refine tk 0 0 ?_;refine tk 0 1 ?_;refine tk 0 2 ?_;refine tk 0 3 ?_;refine tk 0 4 ?_;refine tk 0 5 ?_;refine tk 0 6 ?_;refine tk 0 7 ?_;refine tk 0 8 ?_;refine ar [9] (al (fun K hK=>?_) an)
       have fg:w0.frozen? ⟨g,1,none⟩=false:=by(obtain⟨cur,hcur⟩:=HG2.out;exact(hcur.below HBW.out hcur.lt).frozen 1)
       go_simp;(try clear hHeld);refine hK.out _ _ ?_;clear hK K;refine pt ?_;refine td ?_;(try clear hHeld);clear n0 n1 n2 d24 fg hwr;have hL1:=HL.out.below HBW.out;have m0:=hL1.cell (i:=0) (by decide);have m1:=hL1.cell (i:=1) (by decide);have m2:=hL1.cell (i:=2) (by decide);have hb5:=HB.out.setCell (p:=⟨g,1,none⟩) HG.out (.int .i64 M);have hf5:=Fr.setAt HF.out (p:=⟨g,1,none⟩) (.inl rfl) (.int .i64 M);clear HB HF HBW hL1;have HB:=hid hb5;have HF:=hid hf5;clear hb5 hf5;have n0:=(World.cell?_setCell_other w0 ⟨g,1,none⟩ ⟨g,0,none⟩ (.int .i64 M) (fun e=>by injection e with _ e2;omega)).trans m0;have n2:=(World.cell?_setCell_other w0 ⟨g,1,none⟩ ⟨g,2,none⟩ (.int .i64 M) (fun e=>by injection e with _ e2;omega)).trans m2;have n1:=World.cell?_setCell_same w0 ⟨g,1,none⟩ (.int .i64 M) m1;clear m0 m1 m2
       go_upto_region 3 with fail
       revert HB HF n0 n2 n1;generalize (w0.setCell ⟨g,1,none⟩ (.int .i64 M))=w5;intro HB HF n0 n2 n1;have hA1:=HA.out.below HB.out;have d9:=hA1.blk.cell 9;simp[sessV] at d9;clear hA1;refine wp_region_till [16] (fun U=>U.cell? ⟨s,9,none⟩=some (.slice x.da.A x.da.n x.da.c)∧U.cell? ⟨g,0,none⟩=some (.int .i64 (nth l 0))∧U.cell? ⟨g,1,none⟩=some (.int .i64 M)∧U.cell? ⟨g,2,none⟩=some (.int .i64 (nth l 2))) (by kernel_rfl) (by exact⟨d9,n0,n1,n2⟩) (fun hHeld=>?_);have hb9:=(Below.refl w5.heap.size w5).drew;replace HB:=hdT HB hb9;replace HF:=hid (HF.out.trans (Fr.of_below hb9 _));clear hb9;revert hHeld HB HF;generalize w5.drew=w0;intro hHeld HB HF;refine tk 4 0 ?_;refine tk 3 1 ?_;refine tk 2 2 ?_;refine tk 1 3 ?_;refine tk 0 4 ?_;refine tk 4 5 ?_;refine tk 3 6 ?_;refine tk 2 7 ?_;refine tk 4 8 ?_;refine tk 3 9 ?_;refine tk 2 10 ?_;refine tk 1 11 ?_;refine tk 3 12 ?_;refine tk 2 13 ?_;refine tk 1 14 ?_;refine tk 0 15 ?_;refine ar [16] (al (fun K hK=>?_) an);go_simp;go_at_call 99;refine((withDay_c ⟨nth l 0,M,nth l 2⟩ (HA.out.below HB.out).rows.da.rd (by have:=HN.out;have:=HOK.out.dayN;omega))).mono ?_;rintro e w6 ⟨g2,cap2,rfl,hcap,hge,hrd,hb9⟩;rw[← HD.out] at hrd;have HGW2:=hid (Nat.le_trans HF.out.size hge);have HGE:=hid (Nat.le_trans HB.out.size hge);have HCAP:=hid hcap;clear hge hcap;replace HB:=hdT HB hb9;replace HF:=hid (HF.out.trans (Fr.of_below hb9 _));have HRD:=hid hrd;clear hb9 hrd;(try go_wp2_with fail);(try clear hHeld);refine hK.out _ _ ?_;clear hK K;refine pt ?_
       refine te 17 ?_;refine td ?_;(try clear hHeld);clear d9 n0 n1 n2;have hA1:=HA.out.below HB.out;have d3:=hA1.blk.cell 3;have d4:=hA1.blk.cell 4;have d5:=hA1.blk.cell 5;have d6:=hA1.blk.cell 6;have d7:=hA1.blk.cell 7;have d8:=hA1.blk.cell 8;simp[sessV] at d3 d4 d5 d6 d7 d8;clear hA1
       by_cases hfa:faultW b.cells b.sn0 b.sn1 b.so0 b.so1 b.melt (b.days++[d])=0
       · have HFA:=hid hfa
         have e:=HR.out;rw[if_neg (fun h=>h hfa)] at e;clear HR hfa;have HR:=hid e;clear e
         go_wp2_with fail
         go_at_call 100;refine((Levels_ok (CS:=x.ce) (DS:=⟨some ⟨g2,0,none⟩,x.da.n+1,cap2⟩) HFA.out (HA.out.below HB.out).rows.ce.rd HRD.out (by dsimp only;omega))).mono ?_;rintro e w7 ⟨LA,lc,vsl,gs,rfl,_,_,_,hb9⟩;replace HB:=hdT HB hb9;replace HF:=hid (HF.out.trans (Fr.of_below hb9 _));replace HRD:=hid (HRD.out.below hb9);clear hb9 ;clear d3 d4 d5 d6 d7 d8
         go_wp2_with fail
         go_at_call 93;refine(must_t _).mono ?_;rintro e w8 ⟨rfl,hb9⟩;replace HB:=hdT HB hb9;replace HF:=hid (HF.out.trans (Fr.of_below hb9 _));replace HRD:=hid (HRD.out.below hb9);clear hb9 ;have hA1:=(HA.out.below HB.out).blk;have d9:=hA1.cell 9;have f9:=hA1.frozen 9;simp[sessV] at d9;clear hA1
         go_upto_region 7 with fail
         have hS:SAt (w8.setCell ⟨s,9,none⟩ (.slice (some ⟨g2,0,none⟩) (x.da.n+1) cap2)) s { x with da:=⟨some ⟨g2,0,none⟩,x.da.n+1,cap2⟩ } (wetDay b d) now line more:=by
          have hA1:=HA.out.below HB.out;have hf:FrS s w8 (w8.setCell ⟨s,9,none⟩ (.slice (some ⟨g2,0,none⟩) (x.da.n+1) cap2)):=(FrS.refl s w8).set _;have hr:=hA1.rows.fr hf
          have hne:g2≠s:=by have:=HA.out.blk.lt;have:=HGE.out;omega
          have hrow:=SRow.fr (x:=⟨some ⟨g2,0,none⟩,x.da.n+1,cap2⟩) ⟨HRD.out,HCAP.out,fun ad e=>by cases e;exact hne⟩ hf;exact⟨by simpa[sessV,wetDay] using hA1.blk.set_ 9 (.slice (some ⟨g2,0,none⟩) (x.da.n+1) cap2),⟨hr.co,hr.col,hr.cbed,hr.li,hr.ce,hrow,hr.le,hr.pa,hr.sl,hr.slc,hr.sway,hr.bo,hr.rd⟩⟩
         have HS:=hid hS;have HF9:=hid (Fr.setAt (HF.out.wide (E':=fun i=>i=s∨i=g) fun i _ e=>.inr e) (p:=⟨s,9,none⟩) (.inl (.inl rfl)) (.slice (some ⟨g2,0,none⟩) (x.da.n+1) cap2));have HSL:=hid HA.out.blk.lt;clear hS HF HB HRD d9 f9;revert HS HF9;generalize (w8.setCell ⟨s,9,none⟩ (.slice (some ⟨g2,0,none⟩) (x.da.n+1) cap2))=w9;intro HS HF9;have HB9:=hid (Below.refl w9.heap.size w9);have HSO:=hid (show slopeOk b.cols b.least=true from slopeOk_iff.2 ⟨⟨by have:=HN.out;have:=HO0.out;omega,HOK.out.colN⟩,HOK.out.least,HOK.out.bed⟩);have hlc:=fun(W:World) (hW:Below w9.heap.size w9 W)=>level_c (HS.out.below hW) HFA.out (by simp[wetDay]) HOK.out.linkN HOK.out.link HSO.out;have HLC:=hid hlc;have d13:=HS.out.blk.cell 13;simp[sessV,wetDay] at d13;clear hlc;refine wp_region_till [8] (fun U=>U.cell? ⟨s,13,none⟩=some (.slice x.le.A x.le.n x.le.c)) (by kernel_rfl) (by exact d13) (fun hHeld=>?_);have hb9:=(Below.refl w9.heap.size w9).drew;replace HB9:=hdT HB9 hb9;replace HF9:=hid (HF9.out.trans (Fr.of_below hb9 _));clear hb9;revert hHeld HB9 HF9;generalize w9.drew=w0;intro hHeld HB9 HF9;refine tp 0 ?_;refine tk 4 1 ?_;refine tk 3 2 ?_;refine tk 2 3 ?_;refine tk 1 4 ?_;refine tk 0 5 ?_;refine tk 1 6 ?_;refine ar [7] (ac (fun K hK=>?_) an);go_simp;go_at_call 101;refine(HLC.out _ HB9.out).mono ?_;rintro e w10 ⟨rfl,hb9⟩;replace HB9:=hdT HB9 hb9;replace HF9:=hid (HF9.out.trans (Fr.of_below hb9 _));clear hb9 ;have d13:=(HS.out.below HB9.out).blk.cell 13;simp[sessV,wetDay] at d13
         (try go_wp2_with fail);(try clear hHeld);refine hK.out _ _ (by(try dsimp only);exact d13) (fun hHeld=>?_);clear hK K;refine pt ?_;refine ar [8] (al (fun K hK=>?_) an);go_simp;go_at_call 95;refine((withInt_c (levelP (wetDay b d)) (HS.out.below HB9.out).rows.le.rd (by have:=HN.out;have:=HOK.out.dayN;have:=HOK.out.levN;dsimp only;omega))).mono ?_;rintro e w11 ⟨g3,cap3,rfl,hcap,hge,hrd,hb9⟩;have HGW3:=hid (Nat.le_trans HF9.out.size hge);have HGE3:=hid (Nat.le_trans HB9.out.size hge);have HCAP3:=hid hcap;clear hge hcap;replace HB9:=hdT HB9 hb9;replace HF9:=hid (HF9.out.trans (Fr.of_below hb9 _));have HLV:=hid hrd;clear hb9 hrd;(try go_wp2_with fail);(try clear hHeld);refine hK.out _ _ ?_;clear hK K;refine pt ?_;refine te 9 ?_;refine te 10 ?_;refine te 11 ?_;refine ar [12] (al (fun K hK=>?_) an);have z:=(HS.out.below HB9.out).blk;have z0:=z.cell 13;have y0:=z.frozen 13;simp[sessV,wetDay] at z0;clear z;go_simp;(try clear hHeld);refine hK.out _ _ ?_;clear hK K;refine pt ?_;refine td ?_;(try clear hHeld);clear z0 y0 d13
         go_wp2_with fail
         go_end0
         rw[HR.out];have hA1:=HS.out.below HB9.out;have hf:FrS s w11 (w11.setCell ⟨s,13,none⟩ (.slice (some ⟨g3,0,none⟩) (x.le.n+1) cap3)):=(FrS.refl s w11).set _;have hr:=hA1.rows.fr hf
         have hne:g3≠s:=by have:=HS.out.blk.lt;have:=HGE3.out;omega
         have hrow:=SRow.fr (x:=⟨some ⟨g3,0,none⟩,x.le.n+1,cap3⟩) ⟨HLV.out,HCAP3.out,fun ad e=>by cases e;exact hne⟩ hf;exact methN_good (x:={ x with da:=⟨some ⟨g2,0,none⟩,x.da.n+1,cap2⟩,le:=⟨some ⟨g3,0,none⟩,x.le.n+1,cap3⟩ }) ⟨by simpa[sessV,wetDay] using hA1.blk.set_ 13 (.slice (some ⟨g3,0,none⟩) (x.le.n+1) cap3),⟨hr.co,hr.col,hr.cbed,hr.li,hr.ce,hr.da,hrow,hr.pa,hr.sl,hr.slc,hr.sway,hr.bo,hr.rd⟩⟩ (Fr.setAt HF9.out (p:=⟨s,13,none⟩) (.inl (.inl rfl)) _) (fun G hG h=>{ h with da:=fun ad e=>by cases e;have:=HGW2.out;dsimp only;omega,le:=fun ad e=>by cases e;have:=HGW3.out;dsimp only;omega })
       · have HFA:=hid hfa
         have e:=HR.out;rw[if_pos hfa] at e;clear HR;have HR:=hid e;clear e hfa
         go_wp2_with fail
         go_at_call 100;refine((Levels_bad (CS:=x.ce) (DS:=⟨some ⟨g2,0,none⟩,x.da.n+1,cap2⟩) HFA.out (HA.out.below HB.out).rows.ce.rd (by have:=HN.out;have:=HOK.out.cellN;unfold maxLen;omega) HRD.out (by have:=HN.out;have:=HOK.out.dayN;unfold maxLen;dsimp only;omega))).mono ?_;rintro e w7 ⟨rfl,hb9⟩;replace HB:=hdT HB hb9;replace HF:=hid (HF.out.trans (Fr.of_below hb9 _));replace HRD:=hid (HRD.out.below hb9);clear hb9 ;clear d3 d4 d5 d6 d7 d8
         go_wp2_with fail
         go_at_call 93;refine((must_f HFA.out _)).mono ?_;rintro e w8 ⟨rfl,hb9⟩;replace HB:=hdT HB hb9;replace HF:=hid (HF.out.trans (Fr.of_below hb9 _));replace HRD:=hid (HRD.out.below hb9);clear hb9 
         go_wp2_with fail
         rw[HR.out];exact⟨rfl,methN_no HFA.out (HA.out.below HB.out) HF.out⟩
     · skip
       have hqb:(now == line)=false:=by simpa using hq
       have hm9:M=nth l 1:=by rw[HM.out];unfold moreAt;rw[if_neg hq];omega
       rw[← hm9] at n1;clear d24 hm9 hq
       go_upto_region 3 with fail
       clear hqb;revert HB HF HBW n0 n1 n2;generalize w0=w5;intro HB HF HBW n0 n1 n2;clear HBW;have hA1:=HA.out.below HB.out;have d9:=hA1.blk.cell 9;simp[sessV] at d9;clear hA1;refine wp_region_till [16] (fun U=>U.cell? ⟨s,9,none⟩=some (.slice x.da.A x.da.n x.da.c)∧U.cell? ⟨g,0,none⟩=some (.int .i64 (nth l 0))∧U.cell? ⟨g,1,none⟩=some (.int .i64 M)∧U.cell? ⟨g,2,none⟩=some (.int .i64 (nth l 2))) (by kernel_rfl) (by exact⟨d9,n0,n1,n2⟩) (fun hHeld=>?_);have hb9:=(Below.refl w5.heap.size w5).drew;replace HB:=hdT HB hb9;replace HF:=hid (HF.out.trans (Fr.of_below hb9 _));clear hb9;revert hHeld HB HF;generalize w5.drew=w0;intro hHeld HB HF;refine tk 4 0 ?_;refine tk 3 1 ?_;refine tk 2 2 ?_;refine tk 1 3 ?_;refine tk 0 4 ?_;refine tk 4 5 ?_;refine tk 3 6 ?_;refine tk 2 7 ?_;refine tk 4 8 ?_;refine tk 3 9 ?_;refine tk 2 10 ?_;refine tk 1 11 ?_;refine tk 3 12 ?_;refine tk 2 13 ?_;refine tk 1 14 ?_;refine tk 0 15 ?_;refine ar [16] (al (fun K hK=>?_) an);go_simp;go_at_call 99;refine((withDay_c ⟨nth l 0,M,nth l 2⟩ (HA.out.below HB.out).rows.da.rd (by have:=HN.out;have:=HOK.out.dayN;omega))).mono ?_;rintro e w6 ⟨g2,cap2,rfl,hcap,hge,hrd,hb9⟩;rw[← HD.out] at hrd;have HGW2:=hid (Nat.le_trans HF.out.size hge);have HGE:=hid (Nat.le_trans HB.out.size hge);have HCAP:=hid hcap;clear hge hcap;replace HB:=hdT HB hb9;replace HF:=hid (HF.out.trans (Fr.of_below hb9 _));have HRD:=hid hrd;clear hb9 hrd;(try go_wp2_with fail);(try clear hHeld);refine hK.out _ _ ?_;clear hK K;refine pt ?_;refine te 17 ?_
       refine td ?_;(try clear hHeld);clear d9 n0 n1 n2;have hA1:=HA.out.below HB.out;have d3:=hA1.blk.cell 3;have d4:=hA1.blk.cell 4;have d5:=hA1.blk.cell 5;have d6:=hA1.blk.cell 6;have d7:=hA1.blk.cell 7;have d8:=hA1.blk.cell 8;simp[sessV] at d3 d4 d5 d6 d7 d8;clear hA1
       by_cases hfa:faultW b.cells b.sn0 b.sn1 b.so0 b.so1 b.melt (b.days++[d])=0
       · have HFA:=hid hfa
         have e:=HR.out;rw[if_neg (fun h=>h hfa)] at e;clear HR hfa;have HR:=hid e;clear e
         go_wp2_with fail
         go_at_call 100;refine((Levels_ok (CS:=x.ce) (DS:=⟨some ⟨g2,0,none⟩,x.da.n+1,cap2⟩) HFA.out (HA.out.below HB.out).rows.ce.rd HRD.out (by dsimp only;omega))).mono ?_;rintro e w7 ⟨LA,lc,vsl,gs,rfl,_,_,_,hb9⟩;replace HB:=hdT HB hb9;replace HF:=hid (HF.out.trans (Fr.of_below hb9 _));replace HRD:=hid (HRD.out.below hb9);clear hb9 ;clear d3 d4 d5 d6 d7 d8
         go_wp2_with fail
         go_at_call 93;refine(must_t _).mono ?_;rintro e w8 ⟨rfl,hb9⟩;replace HB:=hdT HB hb9;replace HF:=hid (HF.out.trans (Fr.of_below hb9 _));replace HRD:=hid (HRD.out.below hb9);clear hb9 ;have hA1:=(HA.out.below HB.out).blk;have d9:=hA1.cell 9;have f9:=hA1.frozen 9;simp[sessV] at d9;clear hA1
         go_upto_region 7 with fail
         have hS:SAt (w8.setCell ⟨s,9,none⟩ (.slice (some ⟨g2,0,none⟩) (x.da.n+1) cap2)) s { x with da:=⟨some ⟨g2,0,none⟩,x.da.n+1,cap2⟩ } (wetDay b d) now line more:=by
          have hA1:=HA.out.below HB.out;have hf:FrS s w8 (w8.setCell ⟨s,9,none⟩ (.slice (some ⟨g2,0,none⟩) (x.da.n+1) cap2)):=(FrS.refl s w8).set _;have hr:=hA1.rows.fr hf
          have hne:g2≠s:=by have:=HA.out.blk.lt;have:=HGE.out;omega
          have hrow:=SRow.fr (x:=⟨some ⟨g2,0,none⟩,x.da.n+1,cap2⟩) ⟨HRD.out,HCAP.out,fun ad e=>by cases e;exact hne⟩ hf;exact⟨by simpa[sessV,wetDay] using hA1.blk.set_ 9 (.slice (some ⟨g2,0,none⟩) (x.da.n+1) cap2),⟨hr.co,hr.col,hr.cbed,hr.li,hr.ce,hrow,hr.le,hr.pa,hr.sl,hr.slc,hr.sway,hr.bo,hr.rd⟩⟩
         have HS:=hid hS;have HF9:=hid (Fr.setAt (HF.out.wide (E':=fun i=>i=s∨i=g) fun i _ e=>.inr e) (p:=⟨s,9,none⟩) (.inl (.inl rfl)) (.slice (some ⟨g2,0,none⟩) (x.da.n+1) cap2));have HSL:=hid HA.out.blk.lt;clear hS HF HB HRD d9 f9;revert HS HF9;generalize (w8.setCell ⟨s,9,none⟩ (.slice (some ⟨g2,0,none⟩) (x.da.n+1) cap2))=w9;intro HS HF9;have HB9:=hid (Below.refl w9.heap.size w9);have HSO:=hid (show slopeOk b.cols b.least=true from slopeOk_iff.2 ⟨⟨by have:=HN.out;have:=HO0.out;omega,HOK.out.colN⟩,HOK.out.least,HOK.out.bed⟩);have hlc:=fun(W:World) (hW:Below w9.heap.size w9 W)=>level_c (HS.out.below hW) HFA.out (by simp[wetDay]) HOK.out.linkN HOK.out.link HSO.out;have HLC:=hid hlc;have d13:=HS.out.blk.cell 13;simp[sessV,wetDay] at d13;clear hlc;refine wp_region_till [8] (fun U=>U.cell? ⟨s,13,none⟩=some (.slice x.le.A x.le.n x.le.c)) (by kernel_rfl) (by exact d13) (fun hHeld=>?_);have hb9:=(Below.refl w9.heap.size w9).drew;replace HB9:=hdT HB9 hb9;replace HF9:=hid (HF9.out.trans (Fr.of_below hb9 _));clear hb9;revert hHeld HB9 HF9;generalize w9.drew=w0;intro hHeld HB9 HF9;refine tp 0 ?_;refine tk 4 1 ?_;refine tk 3 2 ?_;refine tk 2 3 ?_;refine tk 1 4 ?_;refine tk 0 5 ?_;refine tk 1 6 ?_;refine ar [7] (ac (fun K hK=>?_) an);go_simp;go_at_call 101;refine(HLC.out _ HB9.out).mono ?_;rintro e w10 ⟨rfl,hb9⟩;replace HB9:=hdT HB9 hb9;replace HF9:=hid (HF9.out.trans (Fr.of_below hb9 _));clear hb9 ;have d13:=(HS.out.below HB9.out).blk.cell 13;simp[sessV,wetDay] at d13
         (try go_wp2_with fail);(try clear hHeld);refine hK.out _ _ (by(try dsimp only);exact d13) (fun hHeld=>?_);clear hK K;refine pt ?_;refine ar [8] (al (fun K hK=>?_) an);go_simp;go_at_call 95;refine((withInt_c (levelP (wetDay b d)) (HS.out.below HB9.out).rows.le.rd (by have:=HN.out;have:=HOK.out.dayN;have:=HOK.out.levN;dsimp only;omega))).mono ?_;rintro e w11 ⟨g3,cap3,rfl,hcap,hge,hrd,hb9⟩;have HGW3:=hid (Nat.le_trans HF9.out.size hge);have HGE3:=hid (Nat.le_trans HB9.out.size hge);have HCAP3:=hid hcap;clear hge hcap;replace HB9:=hdT HB9 hb9;replace HF9:=hid (HF9.out.trans (Fr.of_below hb9 _));have HLV:=hid hrd;clear hb9 hrd;(try go_wp2_with fail);(try clear hHeld);refine hK.out _ _ ?_;clear hK K;refine pt ?_;refine te 9 ?_;refine te 10 ?_;refine te 11 ?_;refine ar [12] (al (fun K hK=>?_) an);have z:=(HS.out.below HB9.out).blk;have z0:=z.cell 13;have y0:=z.frozen 13;simp[sessV,wetDay] at z0;clear z;go_simp;(try clear hHeld);refine hK.out _ _ ?_;clear hK K;refine pt ?_;refine td ?_;(try clear hHeld);clear z0 y0 d13
         go_wp2_with fail
         go_end0
         rw[HR.out];have hA1:=HS.out.below HB9.out;have hf:FrS s w11 (w11.setCell ⟨s,13,none⟩ (.slice (some ⟨g3,0,none⟩) (x.le.n+1) cap3)):=(FrS.refl s w11).set _;have hr:=hA1.rows.fr hf
         have hne:g3≠s:=by have:=HS.out.blk.lt;have:=HGE3.out;omega
         have hrow:=SRow.fr (x:=⟨some ⟨g3,0,none⟩,x.le.n+1,cap3⟩) ⟨HLV.out,HCAP3.out,fun ad e=>by cases e;exact hne⟩ hf;exact methN_good (x:={ x with da:=⟨some ⟨g2,0,none⟩,x.da.n+1,cap2⟩,le:=⟨some ⟨g3,0,none⟩,x.le.n+1,cap3⟩ }) ⟨by simpa[sessV,wetDay] using hA1.blk.set_ 13 (.slice (some ⟨g3,0,none⟩) (x.le.n+1) cap3),⟨hr.co,hr.col,hr.cbed,hr.li,hr.ce,hr.da,hrow,hr.pa,hr.sl,hr.slc,hr.sway,hr.bo,hr.rd⟩⟩ (Fr.setAt HF9.out (p:=⟨s,13,none⟩) (.inl (.inl rfl)) _) (fun G hG h=>{ h with da:=fun ad e=>by cases e;have:=HGW2.out;dsimp only;omega,le:=fun ad e=>by cases e;have:=HGW3.out;dsimp only;omega })
       · have HFA:=hid hfa
         have e:=HR.out;rw[if_pos hfa] at e;clear HR;have HR:=hid e;clear e hfa
         go_wp2_with fail
         go_at_call 100;refine((Levels_bad (CS:=x.ce) (DS:=⟨some ⟨g2,0,none⟩,x.da.n+1,cap2⟩) HFA.out (HA.out.below HB.out).rows.ce.rd (by have:=HN.out;have:=HOK.out.cellN;unfold maxLen;omega) HRD.out (by have:=HN.out;have:=HOK.out.dayN;unfold maxLen;dsimp only;omega))).mono ?_;rintro e w7 ⟨rfl,hb9⟩;replace HB:=hdT HB hb9;replace HF:=hid (HF.out.trans (Fr.of_below hb9 _));replace HRD:=hid (HRD.out.below hb9);clear hb9 ;clear d3 d4 d5 d6 d7 d8
         go_wp2_with fail
         go_at_call 93;refine((must_f HFA.out _)).mono ?_;rintro e w8 ⟨rfl,hb9⟩;replace HB:=hdT HB hb9;replace HF:=hid (HF.out.trans (Fr.of_below hb9 _));replace HRD:=hid (HRD.out.below hb9);clear hb9 
         go_wp2_with fail
         rw[HR.out];exact⟨rfl,methN_no HFA.out (HA.out.below HB.out) HF.out⟩
end Go.Proofs.YtkhcliibilkefaaGreatDoor
