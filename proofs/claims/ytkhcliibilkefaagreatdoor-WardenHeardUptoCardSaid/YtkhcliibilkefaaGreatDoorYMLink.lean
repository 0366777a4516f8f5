/- METHOD: bed. -/
import Derived.Test.YtkhcliibilkefaaGreatDoorYWords
import Derived.Test.YtkhcliibilkefaaGreatDoorYSlope
import Derived.Laws.Cover3
set_option linter.unusedVariables false
set_option linter.unusedSimpArgs false
set_option maxRecDepth 100000
set_option maxHeartbeats 8000000
namespace Go.Proofs.YtkhcliibilkefaaGreatDoor
open Lib (hid)
open Go.RowKit Go.Proofs
attribute [local go_sem ↓] Go.wp_at_zero Go.wp_at_succ
theorem bed_m {s:Nat}{x:SAd}{b:Sess}{now line more:Int}{g c:Nat}{l:List Int}{w:World}(h:SAt w s x b now line more)(hok:SOk b)(hl:NumsAt w s g 8 l) :
 Calls Tryz.prog 71 #[.pointer (some ⟨s,0,none⟩),.slice (some ⟨g,0,none⟩) 8 c] w fun e w'=>MethN w.heap.size x s g now line more (sBed b l) w e w':=by
 have HA:=hid h;have HB:=hid (Below.refl w.heap.size w);have HL:=hid hl;have HOK:=hid hok
 have hlen:b.cols.length=x.co.n:=by rw[← h.rows.col,List.length_map,h.rows.co.len]
 unfold sBed;rw[hlen];have d0:=h.blk.cell 0;simp[sessV] at d0
 by_cases h0:12≤x.co.n
 · rw[if_pos h0]
   have hq1:¬ x.co.n<12:=by omega
   have hq2:¬(x.co.n:Int)<12:=by omega
   clear h hl hok hlen h0
   go_enter Tryz.func71,Tryz.ntmps71
   go_wp2_with fail
   go_at_call 54;refine(ask_f 3 _).mono ?_;rintro e w1 ⟨rfl,hb9⟩;replace HB:=hdT HB hb9;clear hb9 
   go_wp2_with fail
   exact⟨rfl,MethN.no (E:=3) (by decide) (HA.out.below HB.out) (FrS.of_below HB.out)⟩
 · rw[if_neg h0]
   have hcol:=hid h.rows.col;have hlin:=hid (show x.li.n=x.co.n by have:=h.rows.li.len;have:=hok.linkN;omega)
   obtain⟨R,hR⟩:∃ R,R=if slopeOk (b.cols++[bedOf l]) b.least then done { b with cols:=b.cols++[bedOf l],links:=b.links++[-1] } else refuse b 1:=⟨_,rfl⟩
   rw[← hR];have HR:=hid hR;have hws:=hid h.blk.lt
   have hq1:x.co.n<12:=by omega
   have hq2:(x.co.n:Int)<12:=by omega
   clear h hl hok h0 hlen hR
   go_enter Tryz.func71,Tryz.ntmps71
   go_wp2_with fail
   go_at_call 54;refine(ask_t 3 _).mono ?_;rintro e w1 ⟨rfl,hb9⟩;replace HB:=hdT HB hb9;clear hb9 ;clear d0 hq2;have HN12:=hid hq1;clear hq1;have hA1:=(HA.out.below HB.out).blk;have d0:=hA1.cell 0;have d1:=hA1.cell 1;simp[sessV] at d0 d1;clear hA1
   go_upto_region 2 with fail
   have hb9:=(Below.refl w1.heap.size w1).alloc (Nat.le_refl _) (.cells #[.slice x.co.A x.co.n x.co.c,.int .i64 b.least] 27);have hn:=Blk.new w1 27 #[.slice x.co.A x.co.n x.co.c,.int .i64 b.least];have HSG:=hid (HB.out.size);replace HB:=hdT HB hb9;have HS:=hid hn;clear hb9 hn;revert HSG HB HS;generalize hgS:w1.heap.size=S;generalize (World.alloc w1 (.cells #[.slice x.co.A x.co.n x.co.c,.int .i64 b.least] 27))=w2;intro HSG HB HS;clear hgS;clear d0 d1;have hL1:=HL.out.below HB.out;have n0:=hL1.cell (i:=0) (by decide);have n1:=hL1.cell (i:=1) (by decide);have n2:=hL1.cell (i:=2) (by decide);have n3:=hL1.cell (i:=3) (by decide);have n4:=hL1.cell (i:=4) (by decide);have n5:=hL1.cell (i:=5) (by decide);have n6:=hL1.cell (i:=6) (by decide);have n7:=hL1.cell (i:=7) (by decide);have y0:=HS.out.cell 0;simp at y0;clear hL1
   go_cut [] (fun wx=>∃(g2 cap2:Nat) (r:ColR),Blk wx S 27 #[.slice (some ⟨g2,0,none⟩) (x.co.n+1) cap2,.int .i64 b.least]∧SRow s wx encC 1 ⟨some ⟨g2,0,none⟩,x.co.n+1,cap2⟩ (x.CL++[r])∧r.bed=bedOf l∧SRow s wx encBed 8 ⟨r.A,1,r.c⟩ [r.bed]∧Below w.heap.size w wx∧w.heap.size≤g2∧∀ ad,r.A=some ad→w.heap.size≤ad.block)
   case first =>
    refine wp_region_till [33] (fun U=>U.cell? ⟨S,0,none⟩=some (.slice x.co.A x.co.n x.co.c)∧U.cell? ⟨g,0,none⟩=some (.int .i64 (nth l 0))∧U.cell? ⟨g,1,none⟩=some (.int .i64 (nth l 1))∧U.cell? ⟨g,2,none⟩=some (.int .i64 (nth l 2))∧U.cell? ⟨g,3,none⟩=some (.int .i64 (nth l 3))∧U.cell? ⟨g,4,none⟩=some (.int .i64 (nth l 4))∧U.cell? ⟨g,5,none⟩=some (.int .i64 (nth l 5))∧U.cell? ⟨g,6,none⟩=some (.int .i64 (nth l 6))∧U.cell? ⟨g,7,none⟩=some (.int .i64 (nth l 7))) (by kernel_rfl) (by exact⟨y0,n0,n1,n2,n3,n4,n5,n6,n7⟩) (fun hHeld=>?_);have hb9:=(Below.refl w2.heap.size w2).drew;replace HB:=hdT HB hb9;replace HS:=hdB HS hb9;clear hb9;revert hHeld HB HS;generalize w2.drew=w0;intro hHeld HB HS;refine tk 0 0 ?_;refine tk 0 1 ?_;refine tk 0 2 ?_;refine tk 0 3 ?_;refine tk 0 4 ?_;refine tk 0 5 ?_;refine tk 0 6 ?_;refine tk 0 7 ?_;refine tk 0 8 ?_;refine tk 0 9 ?_;refine tk 0 10 ?_;refine tk 0 11 ?_;refine tk 0 12 ?_;refine tk 0 13 ?_;refine tk 0 14 ?_;refine tk 0 15 ?_;refine tk 0 16 ?_;refine tk 0 17 ?_;refine tk 0 18 ?_;refine tk 0 19 ?_;refine tk 0 20 ?_;refine tk 0 21 ?_;refine tk 0 22 ?_;refine tk 0 23 ?_;refine tk 0 24 ?_;refine tk 0 25 ?_;refine tk 0 26 ?_;refine tk 0 27 ?_;refine tk 0 28 ?_;refine tk 0 29 ?_;refine ar [30] (ac (fun K hK=>?_) an);go_simp
    have hb9:=(Below.refl w0.heap.size w0).alloc (Nat.le_refl _) (.cells #[.int .i64 (nth l 0),.int .i64 (nth l 1),.int .i64 (nth l 2),.int .i64 (nth l 3),.int .i64 (nth l 4),.int .i64 (nth l 5),.int .i64 (nth l 6),.int .i64 (nth l 7)] 157);have hn:=Blk.new w0 157 #[.int .i64 (nth l 0),.int .i64 (nth l 1),.int .i64 (nth l 2),.int .i64 (nth l 3),.int .i64 (nth l 4),.int .i64 (nth l 5),.int .i64 (nth l 6),.int .i64 (nth l 7)];have HNA:Hid (w0.heap.size≠S):=hid (by have:=HS.out.lt;omega);have HGA:=hid HB.out.size;replace HB:=hdT HB hb9;replace HS:=hdB HS hb9;have HW:=hid hn;clear hb9 hn;(try clear hHeld);refine hK.out _ _ (by(try dsimp only);exact⟨by simpa using HS.out.cell 0,(HL.out.below HB.out).cell (by decide),(HL.out.below HB.out).cell (by decide),(HL.out.below HB.out).cell (by decide),(HL.out.below HB.out).cell (by decide),(HL.out.below HB.out).cell (by decide),(HL.out.below HB.out).cell (by decide),(HL.out.below HB.out).cell (by decide),(HL.out.below HB.out).cell (by decide)⟩) (fun hHeld=>?_);clear hK K;refine pt ?_;revert hHeld HNA HGA HB HS HW;generalize hgA:w0.heap.size=gA;generalize (World.alloc w0 (.cells #[.int .i64 (nth l 0),.int .i64 (nth l 1),.int .i64 (nth l 2),.int .i64 (nth l 3),.int .i64 (nth l 4),.int .i64 (nth l 5),.int .i64 (nth l 6),.int .i64 (nth l 7)] 157))=w0;intro HNA HGA HB HS HW hHeld;clear hgA;refine ar [31] (ac (fun K hK=>?_) an);go_simp;go_at_call 92
    refine(withCol_c ⟨some ⟨gA,0,none⟩,1,bedOf l⟩ (HA.out.below HB.out).rows.co.rd (by have:=HN12.out;omega)).mono ?_;rintro e w1 ⟨g2,cap2,rfl,hcap,hge,hrd,hb9⟩;have HGE:=hid (Nat.le_trans HB.out.size hge);have HCAP:=hid hcap;have HNE:Hid (g2≠S):=hid (by have:=HS.out.lt;omega);clear hge hcap;replace HB:=hdT HB hb9;replace HS:=hdB HS hb9;replace HW:=hdB HW hb9;have HRD:=hid hrd;clear hb9 hrd;(try go_wp2_with fail);(try clear hHeld);refine hK.out _ _ (by(try dsimp only);exact⟨by simpa using HS.out.cell 0,(HL.out.below HB.out).cell (by decide),(HL.out.below HB.out).cell (by decide),(HL.out.below HB.out).cell (by decide),(HL.out.below HB.out).cell (by decide),(HL.out.below HB.out).cell (by decide),(HL.out.below HB.out).cell (by decide),(HL.out.below HB.out).cell (by decide),(HL.out.below HB.out).cell (by decide)⟩) (fun hHeld=>?_);clear hK K;refine pt ?_;refine tk 0 32 ?_;refine ar [33] (al (fun K hK=>?_) an);have s0:=HS.out.cell 0;have f0:=HS.out.frozen 0;simp at s0;go_simp;(try clear hHeld);refine hK.out _ _ ?_;clear hK K;refine pt ?_;refine td ?_;clear s0 f0;have tHB:=HB.out.setCell (p:=⟨S,0,none⟩) HSG.out (.slice (some ⟨g2,0,none⟩) (x.co.n+1) cap2);have tHS:=HS.out.set_ 0 (.slice (some ⟨g2,0,none⟩) (x.co.n+1) cap2);simp only[List.setIfInBounds_toArray,List.set_cons_zero,List.set_cons_succ] at tHS;have tHW:=HW.out.far (p:=⟨S,0,none⟩) (HNA.out) (.slice (some ⟨g2,0,none⟩) (x.co.n+1) cap2)
    have tHRD:=((FrS.refl S w1).set (i:=0) (.slice (some ⟨g2,0,none⟩) (x.co.n+1) cap2)).rd HRD.out (fun ad e=>by cases e;exact HNE.out);clear HB HS HW HRD;have HB:=hid tHB;clear tHB;have HS:=hid tHS;clear tHS;have HW:=hid tHW;clear tHW;have HRD:=hid tHRD;clear tHRD;revert HB HS HW HRD;generalize (World.setCell w1 ⟨S,0,none⟩ (.slice (some ⟨g2,0,none⟩) (x.co.n+1) cap2))=w5;intro HB HS HW HRD
    go_wp2_with fail
    go_meet
    exact⟨g2,cap2,⟨some ⟨gA,0,none⟩,1,bedOf l⟩,HS.out,⟨HRD.out,HCAP.out,fun ad e=>by cases e;have:=hws.out;have:=HGE.out;dsimp only;omega⟩,rfl,⟨Rd.of_blkE (k:=8) encBed_len HW.out (l:=[bedOf l]) rfl rfl,Nat.le_refl _,fun ad e=>by cases e;have:=hws.out;have:=HGA.out;dsimp only;omega⟩,HB.out,HGE.out,fun ad e=>by cases e;exact HGA.out⟩
   case rest =>
    obtain⟨g2,cap2,r,hs,hrow,hrb,hbr,hb,hgn,hrn⟩:=hcut;have HGN:=hid hgn;have HRN:=hid hrn;clear hgn hrn;clear HB HS y0 n0 n1 n2 n3 n4 n5 n6 n7;have HB:=hid hb;have HS:=hid hs;have HROW:=hid hrow;have HBR:=hid hbr;clear hb hs hrow hbr
    have hcb:∀(i:Nat) (q:ColR),(x.CL++[r])[i]?=some q→SRow s wc encBed 8 ⟨q.A,1,q.c⟩ [q.bed]:=fun i q hq=>by
     rcases Nat.lt_or_ge i x.CL.length with hi | hi
     · rw[List.getElem?_append_left hi] at hq;exact(HA.out.below HB.out).rows.cbed i q hq
     · rw[List.getElem?_append_right hi] at hq
       have:=List.mem_of_getElem? hq;rw[List.mem_singleton.1 this];exact HBR.out
    have HCB:=hid hcb
    have hmap:(x.CL++[r]).map (·.bed)=b.cols++[bedOf l]:=by rw[List.map_append,hcol.out,← hrb];rfl
    have HMAP:=hid hmap;have hc:=CheckSlope_c (c:=cap2) (least:=b.least) HROW.out.rd (fun i q hq=>(hcb i q hq).rd) (by have:=HN12.out;unfold maxLen;dsimp only;omega);rw[hmap] at hc;clear hcb hmap hrb;have y0:=HS.out.cell 0;have y1:=HS.out.cell 1;simp at y0 y1;have HF:=hid (FrS.refl s wc)
    cases hs:slopeOk (b.cols++[bedOf l]) b.least with
    | false =>
     rw[hs] at hc;have HC:=hid hc;clear hc
     go_wp2_with fail
     go_at_call 94;refine(HC.out).mono ?_;rintro e w1 ⟨rfl,hb9⟩;replace HB:=hdT HB hb9;replace HS:=hdB HS hb9;replace HF:=hid (HF.out.trans (Fr.of_below hb9 _));clear hb9 ;clear y0 y1 HC
     go_wp2_with fail
     go_at_call 93;refine(must_f (E:=1) (by decide) _).mono ?_;rintro e w1 ⟨rfl,hb9⟩;replace HB:=hdT HB hb9;replace HS:=hdB HS hb9;replace HF:=hid (HF.out.trans (Fr.of_below hb9 _));clear hb9 
     go_wp2_with fail
     have e:=HR.out;rw[hs,if_neg (by decide)] at e;rw[e];exact⟨rfl,MethN.no (E:=1) (by decide) (HA.out.below HB.out) (FrS.of_below HB.out)⟩
    | true =>
     rw[hs] at hc;have HC:=hid hc;clear hc
     go_wp2_with fail
     go_at_call 94;refine(HC.out).mono ?_;rintro e w1 ⟨rfl,hb9⟩;replace HB:=hdT HB hb9;replace HS:=hdB HS hb9;replace HF:=hid (HF.out.trans (Fr.of_below hb9 _));clear hb9 ;clear y0 y1 HC
     go_wp2_with fail
     go_at_call 93;refine(must_t _).mono ?_;rintro e w1 ⟨rfl,hb9⟩;replace HB:=hdT HB hb9;replace HS:=hdB HS hb9;replace HF:=hid (HF.out.trans (Fr.of_below hb9 _));clear hb9 ;have y0:=HS.out.cell 0;have y1:=HS.out.cell 1;simp at y0 y1;have d2:=(HA.out.below HB.out).blk.cell 2;simp[sessV] at d2
     go_upto_region 4 with fail
     refine wp_region_till [12,16] (fun U=>U.cell? ⟨s,2,none⟩=some (.slice x.li.A x.li.n x.li.c)∧U.cell? ⟨S,0,none⟩=some (.slice (some ⟨g2,0,none⟩) (x.co.n+1) cap2)∧U.cell? ⟨S,1,none⟩=some (.int .i64 b.least)) (by kernel_rfl) (by exact⟨d2,y0,y1⟩) (fun hHeld=>?_);have hb9:=(Below.refl w1.heap.size w1).drew;replace HB:=hdT HB hb9;replace HS:=hdB HS hb9;replace HF:=hid (HF.out.trans (Fr.of_below hb9 _));clear hb9;revert hHeld HB HS HF;generalize w1.drew=w0;intro hHeld HB HS HF;refine tk 0 0 ?_;refine tp 1 ?_;refine tk 0 2 ?_;refine tk 4 3 ?_;refine tk 3 4 ?_;refine tk 2 5 ?_;refine tk 1 6 ?_;refine tk 0 7 ?_;refine ar [8] (ac (fun K hK=>?_) an);go_simp;go_at_call 95;refine(withInt_c (-1) (HA.out.below HB.out).rows.li.rd (by have:=HN12.out;have:=hlin.out;omega)).mono ?_;rintro e w7 ⟨g3,cap3,rfl,hcap,hge,hrd,hb9⟩;have HGE3:=hid (Nat.le_trans HB.out.size hge);have HCAP3:=hid hcap;clear hge hcap;replace HB:=hdT HB hb9;replace HS:=hdB HS hb9;replace HF:=hid (HF.out.trans (Fr.of_below hb9 _));have HLI:=hid hrd;clear hb9 hrd;(try go_wp2_with fail);(try clear hHeld);refine hK.out _ _ (by(try dsimp only);exact⟨by simpa[sessV] using (HA.out.below HB.out).blk.cell 2,by simpa using HS.out.cell 0,by simpa using HS.out.cell 1⟩) (fun hHeld=>?_);clear hK K;refine pt ?_;refine tk 2 9 ?_;refine tk 1 10 ?_;refine tk 0 11 ?_;refine ar [12] (al (fun K hK=>?_) an);have z:=(HA.out.below HB.out).blk;have z0:=z.cell 0;have z1:=z.cell 1;have g0:=z.frozen 0;have g1:=z.frozen 1;simp[sessV] at z0 z1
     clear z;go_simp;(try clear hHeld);refine hK.out _ _ ?_;clear hK K;refine pt ?_;refine te 13 ?_;refine te 14 ?_;refine te 15 ?_;refine ar [16] (al (fun K hK=>?_) an);clear z0 z1 g0 g1;have z:=(((HA.out.below HB.out).blk.set_ 0 (.slice (some ⟨g2,0,none⟩) (x.co.n+1) cap2)).set_ 1 (.int .i64 b.least));have z2:=z.cell 2;have g2':=z.frozen 2;simp[sessV] at z2;clear z;go_simp;(try clear hHeld);refine hK.out _ _ ?_;clear hK K;refine pt ?_;refine td ?_;clear z2 g2'
     go_wp2_with fail
     go_end0
     have e:=HR.out;rw[hs,if_pos rfl] at e;rw[e];have hA1:=HA.out.below HB.out;have hf:FrS s w _:=(((FrS.of_below HB.out).set (i:=0) (.slice (some ⟨g2,0,none⟩) (x.co.n+1) cap2)).set (i:=1) (.int .i64 b.least)).set (i:=2) (.slice (some ⟨g3,0,none⟩) (x.li.n+1) cap3);have hf2:FrS s wc _:=((HF.out.set (i:=0) (.slice (some ⟨g2,0,none⟩) (x.co.n+1) cap2)).set (i:=1) (.int .i64 b.least)).set (i:=2) (.slice (some ⟨g3,0,none⟩) (x.li.n+1) cap3);have hf3:FrS s w7 _:=(((FrS.refl s w7).set (i:=0) (.slice (some ⟨g2,0,none⟩) (x.co.n+1) cap2)).set (i:=1) (.int .i64 b.least)).set (i:=2) (.slice (some ⟨g3,0,none⟩) (x.li.n+1) cap3);have hr:=HA.out.rows.fr hf;have hrow:=SRow.fr (x:=⟨some ⟨g3,0,none⟩,x.li.n+1,cap3⟩) ⟨HLI.out,HCAP3.out,fun ad e=>by cases e;have:=hws.out;have:=HGE3.out;dsimp only;omega⟩ hf3
     have hCLa:∀ G,G<w.heap.size→Away x G→∀(i:Nat) (q:ColR),(x.CL++[r])[i]?=some q→∀ ad,q.A=some ad→ad.block≠G:=fun G hG h i q hq=>by
      rcases Nat.lt_or_ge i x.CL.length with hi | hi
      · rw[List.getElem?_append_left hi] at hq;exact h.CL i q hq
      · rw[List.getElem?_append_right hi] at hq
        rw[List.mem_singleton.1 (List.mem_of_getElem? hq)];intro ad e;have:=HRN.out ad e;omega
     exact MethN.good (x:={ x with co:=⟨some ⟨g2,0,none⟩,x.co.n+1,cap2⟩,CL:=x.CL++[r],li:=⟨some ⟨g3,0,none⟩,x.li.n+1,cap3⟩ }) ⟨by simpa[sessV] using ((hA1.blk.set_ 0 (.slice (some ⟨g2,0,none⟩) (x.co.n+1) cap2)).set_ 1 (.int .i64 b.least)).set_ 2 (.slice (some ⟨g3,0,none⟩) (x.li.n+1) cap3),⟨HROW.out.fr hf2,HMAP.out,fun i q hq=>(HCB.out i q hq).fr hf2,hrow,hr.ce,hr.da,hr.le,hr.pa,hr.sl,hr.slc,hr.sway,hr.bo,hr.rd⟩⟩ hf (fun G hG h=>{ h with co:=fun ad e=>by cases e;have:=HGN.out;dsimp only;omega,li:=fun ad e=>by cases e;have:=HGE3.out;dsimp only;omega,CL:=hCLa G hG h })
theorem alarm_m {s:Nat}{x:SAd}{b:Sess}{now line more:Int}{g c:Nat}{l:List Int}{w:World}(h:SAt w s x b now line more)(hl:NumsAt w s g 3 l) :
 Calls Tryz.prog 76 #[.pointer (some ⟨s,0,none⟩),.slice (some ⟨g,0,none⟩) 3 c] w fun e w'=>MethN w.heap.size x s g now line more (sAlarm b l) w e w':=by
 have HA:=hid h;have HB:=hid (Below.refl w.heap.size w);have HL:=hid hl;have n0:=hl.cell (i:=0) (by decide);have n1:=hl.cell (i:=1) (by decide);have n2:=hl.cell (i:=2) (by decide);clear h hl;unfold sAlarm stepsOk
 by_cases h1:1≤nth l 0
 · by_cases h2:nth l 0<nth l 1
   · by_cases h3:nth l 1<nth l 2
     · by_cases h4:nth l 2≤10000
       · rw[if_pos (by simp[h1,h2,h3,h4])]
         go_enter Tryz.func76,Tryz.ntmps76
         go_wp2_with fail
         refine wp_region_till [] (fun U=>U.cell? ⟨g,0,none⟩=some (.int .i64 (nth l 0))∧U.cell? ⟨g,1,none⟩=some (.int .i64 (nth l 1))∧U.cell? ⟨g,2,none⟩=some (.int .i64 (nth l 2))) (by kernel_rfl) (by exact⟨n0,n1,n2⟩) (fun hHeld=>?_);have hb9:=(Below.refl w.heap.size w).drew;replace HB:=hdT HB hb9;clear hb9;revert hHeld HB;generalize w.drew=w0;intro hHeld HB;refine tk 0 0 ?_;refine tk 0 1 ?_;refine tk 0 2 ?_;refine tk 0 3 ?_;refine tk 0 4 ?_;refine tk 0 5 ?_;refine tk 0 6 ?_;refine tk 0 7 ?_;refine tk 0 8 ?_;refine tk 0 9 ?_;refine tk 0 10 ?_;refine tk 0 11 ?_;refine tk 0 12 ?_;refine tk 0 13 ?_;refine tk 0 14 ?_;refine tk 0 15 ?_;refine tk 0 16 ?_;refine tk 0 17 ?_;refine tk 0 18 ?_;refine tk 0 19 ?_;refine tk 0 20 ?_;refine tk 0 21 ?_;refine tk 0 22 ?_;refine tk 0 23 ?_;refine tk 0 24 ?_;refine tk 0 25 ?_;refine tk 0 26 ?_;refine tk 0 27 ?_;refine ar [28] (ac (fun K hK=>?_) an);go_simp;go_at_call 54;refine(ask_t 1 _).mono ?_;rintro e w1 ⟨rfl,hb9⟩;replace HB:=hdT HB hb9;clear hb9 ;skip;(try go_wp2_with fail);(try clear hHeld);refine hK.out _ _ (by(try dsimp only);exact⟨(HL.out.below HB.out).cell (by decide),(HL.out.below HB.out).cell (by decide),(HL.out.below HB.out).cell (by decide)⟩) (fun hHeld=>?_);clear hK K;refine pt ?_;refine td ?_;clear n0 n1 n2;have hL1:=HL.out.below HB.out;have n0:=hL1.cell (i:=0) (by decide);have n1:=hL1.cell (i:=1) (by decide);have n2:=hL1.cell (i:=2) (by decide);have hA1:=(HA.out.below HB.out).blk
         have d0:=hA1.cell 10;have d1:=hA1.cell 11;have d2:=hA1.cell 12;have f0:=hA1.frozen 10;have f1:=hA1.frozen 11;have f2:=hA1.frozen 12;simp[sessV] at d0 d1 d2;clear hA1 hL1;have hat:∀ w,(Instr.arrayAt 35 (.slice (some ⟨g,0,none⟩) 3 c)).run Tryz.prog w=.ok (.pointer (some ⟨g,0,none⟩)) w:=fun w=>run_arrayAt w 35 _ 3 _ 3 c Tryz.underlying35 (by decide)
         go_wp2_with fail
         go_end0
         have hA1:=HA.out.below HB.out;have hf:FrS s w _:=(((FrS.of_below HB.out).set (i:=10) (.int .i64 (nth l 0))).set (i:=11) (.int .i64 (nth l 1))).set (i:=12) (.int .i64 (nth l 2));have hr:=HA.out.rows.fr hf;exact MethN.good (x:=x) ⟨by simpa[sessV] using ((hA1.blk.set_ 10 (.int .i64 (nth l 0))).set_ 11 (.int .i64 (nth l 1))).set_ 12 (.int .i64 (nth l 2)),⟨hr.co,hr.col,hr.cbed,hr.li,hr.ce,hr.da,hr.le,hr.pa,hr.sl,hr.slc,hr.sway,hr.bo,hr.rd⟩⟩ hf (fun _ _ h=>h)
       · rw[if_neg (by simp[h4])]
         have g4:decide (nth l 2≤10000)=false:=by simpa using h4
         go_enter Tryz.func76,Tryz.ntmps76
         go_wp2_with fail
         refine wp_region_till [] (fun U=>U.cell? ⟨g,0,none⟩=some (.int .i64 (nth l 0))∧U.cell? ⟨g,1,none⟩=some (.int .i64 (nth l 1))∧U.cell? ⟨g,2,none⟩=some (.int .i64 (nth l 2))) (by kernel_rfl) (by exact⟨n0,n1,n2⟩) (fun hHeld=>?_);have hb9:=(Below.refl w.heap.size w).drew;replace HB:=hdT HB hb9;clear hb9;revert hHeld HB;generalize w.drew=w0;intro hHeld HB;refine tk 0 0 ?_;refine tk 0 1 ?_;refine tk 0 2 ?_;refine tk 0 3 ?_;refine tk 0 4 ?_;refine tk 0 5 ?_;refine tk 0 6 ?_;refine tk 0 7 ?_;refine tk 0 8 ?_;refine tk 0 9 ?_;refine tk 0 10 ?_;refine tk 0 11 ?_;refine tk 0 12 ?_;refine tk 0 13 ?_;refine tk 0 14 ?_;refine tk 0 15 ?_;refine tk 0 16 ?_;refine tk 0 17 ?_;refine tk 0 18 ?_;refine tk 0 19 ?_;refine tk 0 20 ?_;refine tk 0 21 ?_;refine tk 0 22 ?_;refine tk 0 23 ?_;refine tk 0 24 ?_;refine tk 0 25 ?_;refine tk 0 26 ?_;refine tk 0 27 ?_;refine ar [28] (ac (fun K hK=>?_) an);go_simp;go_at_call 54;refine(ask_f 1 _).mono ?_;rintro e w1 ⟨rfl,hb9⟩;replace HB:=hdT HB hb9;clear hb9 
         go_wp2_with fail
         exact⟨rfl,MethN.no (E:=1) (by decide) (HA.out.below HB.out) (FrS.of_below HB.out)⟩
     · rw[if_neg (by simp[h3])]
       have g3:decide (nth l 1<nth l 2)=false:=by simpa using h3
       go_enter Tryz.func76,Tryz.ntmps76
       go_wp2_with fail
       refine wp_region_till [] (fun U=>U.cell? ⟨g,0,none⟩=some (.int .i64 (nth l 0))∧U.cell? ⟨g,1,none⟩=some (.int .i64 (nth l 1))∧U.cell? ⟨g,2,none⟩=some (.int .i64 (nth l 2))) (by kernel_rfl) (by exact⟨n0,n1,n2⟩) (fun hHeld=>?_);have hb9:=(Below.refl w.heap.size w).drew;replace HB:=hdT HB hb9;clear hb9;revert hHeld HB;generalize w.drew=w0;intro hHeld HB;refine tk 0 0 ?_;refine tk 0 1 ?_;refine tk 0 2 ?_;refine tk 0 3 ?_;refine tk 0 4 ?_;refine tk 0 5 ?_;refine tk 0 6 ?_;refine tk 0 7 ?_;refine tk 0 8 ?_;refine tk 0 9 ?_;refine tk 0 10 ?_;refine tk 0 11 ?_;refine tk 0 12 ?_;refine tk 0 13 ?_;refine tk 0 14 ?_;refine tk 0 15 ?_;refine tk 0 16 ?_;refine tk 0 17 ?_;refine tk 0 18 ?_;refine tk 0 19 ?_;refine tk 0 20 ?_;refine tk 0 21 ?_;refine tk 0 22 ?_;refine tkx 0 23 ?_;refine tkx 0 24 ?_;refine tkx 0 25 ?_;refine tkx 0 26 ?_;refine tk 0 27 ?_;refine ar [28] (ac (fun K hK=>?_) an);go_simp;go_at_call 54;refine(ask_f 1 _).mono ?_;rintro e w1 ⟨rfl,hb9⟩;replace HB:=hdT HB hb9;clear hb9 
       go_wp2_with fail
       exact⟨rfl,MethN.no (E:=1) (by decide) (HA.out.below HB.out) (FrS.of_below HB.out)⟩
   · rw[if_neg (by simp[h2])]
     have g2:decide (nth l 0<nth l 1)=false:=by simpa using h2
     go_enter Tryz.func76,Tryz.ntmps76
     go_wp2_with fail
     refine wp_region_till [] (fun U=>U.cell? ⟨g,0,none⟩=some (.int .i64 (nth l 0))∧U.cell? ⟨g,1,none⟩=some (.int .i64 (nth l 1))∧U.cell? ⟨g,2,none⟩=some (.int .i64 (nth l 2))) (by kernel_rfl) (by exact⟨n0,n1,n2⟩) (fun hHeld=>?_);have hb9:=(Below.refl w.heap.size w).drew;replace HB:=hdT HB hb9;clear hb9;revert hHeld HB;generalize w.drew=w0;intro hHeld HB;refine tk 0 0 ?_;refine tk 0 1 ?_;refine tk 0 2 ?_;refine tk 0 3 ?_;refine tk 0 4 ?_;refine tk 0 5 ?_;refine tk 0 6 ?_;refine tk 0 7 ?_;refine tk 0 8 ?_;refine tk 0 9 ?_;refine tk 0 10 ?_;refine tk 0 11 ?_;refine tk 0 12 ?_;refine tk 0 13 ?_;refine tkx 0 14 ?_;refine tkx 0 15 ?_;refine tkx 0 16 ?_;refine tkx 0 17 ?_;refine tkx 0 18 ?_;refine tkx 0 19 ?_;refine tkx 0 20 ?_;refine tk 0 21 ?_;refine tk 0 22 ?_;refine tkx 0 23 ?_;refine tkx 0 24 ?_;refine tkx 0 25 ?_;refine tkx 0 26 ?_;refine tk 0 27 ?_;refine ar [28] (ac (fun K hK=>?_) an);go_simp;go_at_call 54;refine(ask_f 1 _).mono ?_;rintro e w1 ⟨rfl,hb9⟩;replace HB:=hdT HB hb9;clear hb9 
     go_wp2_with fail
     exact⟨rfl,MethN.no (E:=1) (by decide) (HA.out.below HB.out) (FrS.of_below HB.out)⟩
 · rw[if_neg (by simp[h1])]
   have g1:decide (1≤nth l 0)=false:=by simpa using h1
   go_enter Tryz.func76,Tryz.ntmps76
   go_wp2_with fail
   refine wp_region_till [] (fun U=>U.cell? ⟨g,0,none⟩=some (.int .i64 (nth l 0))∧U.cell? ⟨g,1,none⟩=some (.int .i64 (nth l 1))∧U.cell? ⟨g,2,none⟩=some (.int .i64 (nth l 2))) (by kernel_rfl) (by exact⟨n0,n1,n2⟩) (fun hHeld=>?_);have hb9:=(Below.refl w.heap.size w).drew;replace HB:=hdT HB hb9;clear hb9;revert hHeld HB;generalize w.drew=w0;intro hHeld HB;refine tk 0 0 ?_;refine tk 0 1 ?_;refine tk 0 2 ?_;refine tk 0 3 ?_;refine tk 0 4 ?_;refine tkx 0 5 ?_;refine tkx 0 6 ?_;refine tkx 0 7 ?_;refine tkx 0 8 ?_;refine tkx 0 9 ?_;refine tkx 0 10 ?_;refine tkx 0 11 ?_;refine tk 0 12 ?_;refine tk 0 13 ?_;refine tkx 0 14 ?_;refine tkx 0 15 ?_;refine tkx 0 16 ?_;refine tkx 0 17 ?_;refine tkx 0 18 ?_;refine tkx 0 19 ?_;refine tkx 0 20 ?_;refine tk 0 21 ?_;refine tk 0 22 ?_;refine tkx 0 23 ?_;refine tkx 0 24 ?_;refine tkx 0 25 ?_;refine tkx 0 26 ?_;refine tk 0 27 ?_;refine ar [28] (ac (fun K hK=>?_) an);go_simp;go_at_call 54;refine(ask_f 1 _).mono ?_;rintro e w1 ⟨rfl,hb9⟩;replace HB:=hdT HB hb9;clear hb9 
   go_wp2_with fail
   exact⟨rfl,MethN.no (E:=1) (by decide) (HA.out.below HB.out) (FrS.of_below HB.out)⟩
theorem link_m {s:Nat}{x:SAd}{b:Sess}{now line more:Int}{g c:Nat}{l:List Int}{w:World}(h:SAt w s x b now line more)(hok:SOk b)(hl:NumsAt w s g 2 l) :
 Calls Tryz.prog 75 #[.pointer (some ⟨s,0,none⟩),.slice (some ⟨g,0,none⟩) 2 c] w fun e w'=>MethN w.heap.size x s g now line more (sLink b l) w e w':=by
 have HA:=hid h;have HB:=hid (Below.refl w.heap.size w);have HL:=hid hl;have n0:=hl.cell (i:=0) (by decide);have n1:=hl.cell (i:=1) (by decide);have d2:=h.blk.cell 2;have d3:=h.blk.cell 3;simp[sessV] at d2 d3
 have hb0:x.li.n≤12:=by have:=h.rows.li.len;have:=hok.linkN;have:=hok.colN;omega
 have hb1:x.ce.n≤8:=by have:=h.rows.ce.len;have:=hok.cellN;omega
 have HLN:=hid h.rows.li.len;have hlt:=hid (hl.lt (by decide));have hws:=hid h.blk.lt;have hw1:IntKind.i64.wrap ((x.li.n:Int) - 1)=(x.li.n:Int) - 1:=wi (by omega);have hw2:IntKind.i64.wrap ((x.ce.n:Int) - 1)=(x.ce.n:Int) - 1:=wi (by omega);have HC1:=hid (fun W:World=>wwithin_c (nth l 0) 0 ((x.li.n:Int) - 1) W);have HC2:=hid (fun W:World=>wwithin_c (nth l 1) 0 ((x.ce.n:Int) - 1) W);unfold sLink;rw[h.rows.li.len,h.rows.ce.len];clear h hl hok
 cases hR0:inB (nth l 0) 0 ((x.li.n:Int) - 1) with
 | false =>
  rw[if_neg (by simp)];rw[hR0] at HC1
  go_enter Tryz.func75,Tryz.ntmps75
  go_wp2_with fail
  refine wp_region_till [] (fun U=>U.cell? ⟨g,0,none⟩=some (.int .i64 (nth l 0))∧U.cell? ⟨g,1,none⟩=some (.int .i64 (nth l 1))∧U.cell? ⟨s,2,none⟩=some (.slice x.li.A x.li.n x.li.c)∧U.cell? ⟨s,3,none⟩=some (.slice x.ce.A x.ce.n x.ce.c)) (by kernel_rfl) (by exact⟨n0,n1,d2,d3⟩) (fun hHeld=>?_);have hb9:=(Below.refl w.heap.size w).drew;replace HB:=hdT HB hb9;clear hb9;revert hHeld HB;generalize w.drew=w0;intro hHeld HB;refine tk 0 0 ?_;refine tk 0 1 ?_;refine tk 0 2 ?_;refine tk 0 3 ?_;refine tk 0 4 ?_;refine tk 0 5 ?_;refine tk 0 6 ?_;refine tk 0 7 ?_;refine tk 0 8 ?_;refine tk 0 9 ?_;refine ar [10] (ac (fun K hK=>?_) an);go_simp;go_at_call 37;refine(HC1.out _).mono ?_;rintro e w1 ⟨rfl,hb9⟩;replace HB:=hdT HB hb9;clear hb9 ;(try go_wp2_with fail);(try clear hHeld);refine hK.out _ _ (by(try dsimp only);exact⟨(HL.out.below HB.out).cell (by decide),(HL.out.below HB.out).cell (by decide),by simpa[sessV] using (HA.out.below HB.out).blk.cell 2,by simpa[sessV] using (HA.out.below HB.out).blk.cell 3⟩) (fun hHeld=>?_);clear hK K;refine pt ?_;refine tk 0 11 ?_;refine tkx 0 12 ?_;refine tkx 0 13 ?_;refine tkx 0 14 ?_;refine tkx 0 15 ?_;refine tkx 0 16 ?_;refine tkx 0 17 ?_;refine tkx 0 18 ?_;refine tkx 0 19 ?_;refine tkx 0 20 ?_;refine tkx 0 21 ?_;refine tkx 0 22 ?_;refine tkx 0 23 ?_;refine tk 0 24 ?_;refine ar [25] (ac (fun K hK=>?_) an);go_simp;go_at_call 54;refine(ask_f 2 _).mono ?_;rintro e w1 ⟨rfl,hb9⟩;replace HB:=hdT HB hb9;clear hb9 
  go_wp2_with fail
  exact⟨rfl,MethN.no (E:=2) (by decide) (HA.out.below HB.out) (FrS.of_below HB.out)⟩
 | true =>
  rw[hR0] at HC1
  cases hR1:inB (nth l 1) 0 ((x.ce.n:Int) - 1) with
  | false =>
   rw[if_neg (by simp)];rw[hR1] at HC2
   go_enter Tryz.func75,Tryz.ntmps75
   go_wp2_with fail
   refine wp_region_till [] (fun U=>U.cell? ⟨g,0,none⟩=some (.int .i64 (nth l 0))∧U.cell? ⟨g,1,none⟩=some (.int .i64 (nth l 1))∧U.cell? ⟨s,2,none⟩=some (.slice x.li.A x.li.n x.li.c)∧U.cell? ⟨s,3,none⟩=some (.slice x.ce.A x.ce.n x.ce.c)) (by kernel_rfl) (by exact⟨n0,n1,d2,d3⟩) (fun hHeld=>?_);have hb9:=(Below.refl w.heap.size w).drew;replace HB:=hdT HB hb9;clear hb9;revert hHeld HB;generalize w.drew=w0;intro hHeld HB;refine tk 0 0 ?_;refine tk 0 1 ?_;refine tk 0 2 ?_;refine tk 0 3 ?_;refine tk 0 4 ?_;refine tk 0 5 ?_;refine tk 0 6 ?_;refine tk 0 7 ?_;refine tk 0 8 ?_;refine tk 0 9 ?_;refine ar [10] (ac (fun K hK=>?_) an);go_simp;go_at_call 37;refine(HC1.out _).mono ?_;rintro e w1 ⟨rfl,hb9⟩;replace HB:=hdT HB hb9;clear hb9 ;(try go_wp2_with fail);(try clear hHeld);refine hK.out _ _ (by(try dsimp only);exact⟨(HL.out.below HB.out).cell (by decide),(HL.out.below HB.out).cell (by decide),by simpa[sessV] using (HA.out.below HB.out).blk.cell 2,by simpa[sessV] using (HA.out.below HB.out).blk.cell 3⟩) (fun hHeld=>?_);clear hK K;refine pt ?_;refine tk 0 11 ?_;refine tk 0 12 ?_;refine tk 0 13 ?_;refine tk 0 14 ?_;refine tk 0 15 ?_;refine tk 0 16 ?_;refine tk 0 17 ?_;refine tk 0 18 ?_;refine tk 0 19 ?_;refine tk 0 20 ?_;refine tk 0 21 ?_;refine tk 0 22 ?_;refine ar [23] (ac (fun K hK=>?_) an);go_simp;go_at_call 37;refine(HC2.out _).mono ?_;rintro e w1 ⟨rfl,hb9⟩;replace HB:=hdT HB hb9;clear hb9 ;(try go_wp2_with fail);(try clear hHeld)
   refine hK.out _ _ (by(try dsimp only);exact⟨(HL.out.below HB.out).cell (by decide),(HL.out.below HB.out).cell (by decide),by simpa[sessV] using (HA.out.below HB.out).blk.cell 2,by simpa[sessV] using (HA.out.below HB.out).blk.cell 3⟩) (fun hHeld=>?_);clear hK K;refine pt ?_;refine tk 0 24 ?_;refine ar [25] (ac (fun K hK=>?_) an);go_simp;go_at_call 54;refine(ask_f 2 _).mono ?_;rintro e w1 ⟨rfl,hb9⟩;replace HB:=hdT HB hb9;clear hb9 
   go_wp2_with fail
   exact⟨rfl,MethN.no (E:=2) (by decide) (HA.out.below HB.out) (FrS.of_below HB.out)⟩
  | true =>
   rw[if_pos (by simp)];rw[hR1] at HC2;have hR0:=inB_iff.1 hR0
   go_enter Tryz.func75,Tryz.ntmps75
   go_wp2_with fail
   refine wp_region_till [] (fun U=>U.cell? ⟨g,0,none⟩=some (.int .i64 (nth l 0))∧U.cell? ⟨g,1,none⟩=some (.int .i64 (nth l 1))∧U.cell? ⟨s,2,none⟩=some (.slice x.li.A x.li.n x.li.c)∧U.cell? ⟨s,3,none⟩=some (.slice x.ce.A x.ce.n x.ce.c)) (by kernel_rfl) (by exact⟨n0,n1,d2,d3⟩) (fun hHeld=>?_);have hb9:=(Below.refl w.heap.size w).drew;replace HB:=hdT HB hb9;clear hb9;revert hHeld HB;generalize w.drew=w0;intro hHeld HB;refine tk 0 0 ?_;refine tk 0 1 ?_;refine tk 0 2 ?_;refine tk 0 3 ?_;refine tk 0 4 ?_;refine tk 0 5 ?_;refine tk 0 6 ?_;refine tk 0 7 ?_;refine tk 0 8 ?_;refine tk 0 9 ?_;refine ar [10] (ac (fun K hK=>?_) an);go_simp;go_at_call 37;refine(HC1.out _).mono ?_;rintro e w1 ⟨rfl,hb9⟩;replace HB:=hdT HB hb9;clear hb9 ;(try go_wp2_with fail);(try clear hHeld);refine hK.out _ _ (by(try dsimp only);exact⟨(HL.out.below HB.out).cell (by decide),(HL.out.below HB.out).cell (by decide),by simpa[sessV] using (HA.out.below HB.out).blk.cell 2,by simpa[sessV] using (HA.out.below HB.out).blk.cell 3⟩) (fun hHeld=>?_);clear hK K;refine pt ?_;refine tk 0 11 ?_;refine tk 0 12 ?_;refine tk 0 13 ?_;refine tk 0 14 ?_;refine tk 0 15 ?_;refine tk 0 16 ?_;refine tk 0 17 ?_;refine tk 0 18 ?_;refine tk 0 19 ?_;refine tk 0 20 ?_;refine tk 0 21 ?_;refine tk 0 22 ?_;refine ar [23] (ac (fun K hK=>?_) an);go_simp;go_at_call 37;refine(HC2.out _).mono ?_;rintro e w1 ⟨rfl,hb9⟩;replace HB:=hdT HB hb9;clear hb9 ;(try go_wp2_with fail);(try clear hHeld)
   refine hK.out _ _ (by(try dsimp only);exact⟨(HL.out.below HB.out).cell (by decide),(HL.out.below HB.out).cell (by decide),by simpa[sessV] using (HA.out.below HB.out).blk.cell 2,by simpa[sessV] using (HA.out.below HB.out).blk.cell 3⟩) (fun hHeld=>?_);clear hK K;refine pt ?_;refine tk 0 24 ?_;refine ar [25] (ac (fun K hK=>?_) an);go_simp;go_at_call 54;refine(ask_t 2 _).mono ?_;rintro e w1 ⟨rfl,hb9⟩;replace HB:=hdT HB hb9;clear hb9 ;skip;(try go_wp2_with fail);(try clear hHeld);refine hK.out _ _ (by(try dsimp only);exact⟨(HL.out.below HB.out).cell (by decide),(HL.out.below HB.out).cell (by decide),by simpa[sessV] using (HA.out.below HB.out).blk.cell 2,by simpa[sessV] using (HA.out.below HB.out).blk.cell 3⟩) (fun hHeld=>?_);clear hK K;refine pt ?_;refine td ?_;clear n0 n1 d2 d3
   go_upto_region 1 with fail
   go_cut [] (fun wx=>∃(g2 c2:Nat),FrS s w wx∧Blk wx s 75 (sessV { x with li:=⟨some ⟨g2,0,none⟩,x.li.n,c2⟩ } b now line more)∧RowW wx 3 enc1 1 g2 x.li.n b.links∧x.li.n≤c2∧w.heap.size≤g2)
   case first =>
    have hA1:=(HA.out.below HB.out).blk;have d2:=hA1.cell 2;simp[sessV] at d2;clear hA1;have HCL:=hid (cloneInt_c (c:=x.li.c) (HA.out.below HB.out).rows.li.rd (by omega))
    go_wp2_with fail
    go_at_call 98;refine HCL.out.mono ?_;rintro e w7 ⟨v,rfl,hown,hb7⟩;have hge:=Nat.le_refl w7.heap.size;obtain⟨g2,c2,rfl,hg2,hc2,hrw⟩:=RowW.of_own enc1_len (by decide) hown HLN.out (by omega);have hge2:=Nat.le_trans HB.out.size hg2;have hbw:=below_tr HB.out hb7;have hA1:=(HA.out.below hbw).blk;have d2:=hA1.cell 2;have f2:=hA1.frozen 2;simp[sessV] at d2;clear hown hge hg2;have HC2:=hid hc2;have HRW:=hid hrw;have HGE2:=hid hge2;have HBW:=hid hbw;have HA1:=hid hA1;clear hc2 hrw hge2 hbw hA1 hb7
    go_wp2_with fail
    go_meet
    exact⟨g2,c2,(FrS.of_below HBW.out).set _,by simpa[sessV] using HA1.out.set_ 2 (.slice (some ⟨g2,0,none⟩) x.li.n c2),HRW.out.fr ((FrS.refl s _).set _) (by have:=hws.out;have:=HGE2.out;omega),HC2.out,HGE2.out⟩
   case rest =>
    obtain⟨g2,c2,hf,hk,hrw,hc2,hge2⟩:=hcut;clear HB;obtain⟨k,hk0⟩:∃ k:Nat,nth l 0=(k:Int):=⟨(nth l 0).toNat,by omega⟩
    have hkn:k<x.li.n:=by omega
    have hgg:g≠g2:=by have:=hlt.out;omega
    have n0:=(HL.out.fr hf).cell (i:=0) (by decide);have n1:=(HL.out.fr hf).cell (i:=1) (by decide);have d2:=hk.cell 2;simp[sessV] at d2;rw[hk0] at n0;obtain⟨b0,o0,y,e0,hlt0,hy,hcel⟩:=hrw.rd.at_ hkn;cases e0;have z0:=hcel 0 _ rfl;have fz:=hrw.frozen k;simp at z0
    have hi1:(k:Int)<(x.li.n:Int):=by omega
    have hi0:(0:Int)≤(k:Int):=by omega
    have HF:=hid hf;have HK:=hid hk;have HRW:=hid hrw;have HC2:=hid hc2;have HGE2:=hid hge2;have HY:=hid hy;have HGG:=hid hgg;have HE:=hid hk0;have HKN:=hid hkn;clear hf hk hrw hc2 hge2 hy hcel hlt0 hgg hk0 hkn hb0 hb1 hw1 hw2 hR0 hR1
    go_wp2_with fail
    (try clear hHeld);refine wp_region_till [12] (fun U=>U.cell? ⟨g,0,none⟩=some (.int .i64 (k:Int))∧U.cell? ⟨g,1,none⟩=some (.int .i64 (nth l 1))∧U.cell? ⟨s,2,none⟩=some (.slice (some ⟨g2,0,none⟩) x.li.n c2)) (by kernel_rfl) (by exact⟨n0,n1,d2⟩) (fun hHeld=>?_);have hb9:=(Below.refl wc.heap.size wc).drew;replace HF:=hid (HF.out.trans (Fr.of_below hb9 _));replace HK:=hdB HK hb9;replace HRW:=hid (HRW.out.below hb9);clear hb9;revert hHeld HF HK HRW;generalize wc.drew=w0;intro hHeld HF HK HRW;refine tk 0 0 ?_;refine tk 0 1 ?_;refine tk 0 2 ?_;refine tk 0 3 ?_;refine tk 0 4 ?_;refine tk 0 5 ?_;refine tk 0 6 ?_;refine tk 0 7 ?_;refine tk 0 8 ?_;refine tk 0 9 ?_;refine tk 0 10 ?_;refine tk 0 11 ?_;refine ar [12] (al (fun K hK=>?_) an);clear z0 fz y HY;obtain⟨b0,o0,y,e0,_,hy,hcel⟩:=HRW.out.rd.at_ HKN.out;cases e0;have z0:=hcel 0 _ rfl;have fz:=HRW.out.frozen k;have HY:=hid hy;clear hcel hy;simp at z0;go_simp;(try clear hHeld);refine hK.out _ _ ?_;clear hK K;refine pt ?_;refine td ?_;clear z0 fz
    go_wp2_with fail
    go_end0
    have hne:g2≠s:=by have:=hws.out;have:=HGE2.out;omega
    have hf:FrS s w (w0.setCell ⟨g2,k,none⟩ (.int .i64 (nth l 1))):=Fr.setAt HF.out (p:=⟨g2,k,none⟩) (.inr HGE2.out) _;have hr:=HA.out.rows.fr hf
    have hrw:RowW (w0.setCell ⟨g2,k,none⟩ (.int .i64 (nth l 1))) 3 enc1 1 g2 x.li.n (b.links.set k (nth l 1)):=by
     simpa using HRW.out.put1 enc1_len (i:=k) (r:=0) (x':=nth l 1) HY.out (by decide) rfl (fun j h1 h2=>by omega)
    rw[HE.out,Int.toNat_natCast];exact MethN.good (x:={ x with li:=⟨some ⟨g2,0,none⟩,x.li.n,c2⟩ }) ⟨HK.out.far (p:=⟨g2,k,none⟩) (fun e=>hne e.symm) _,⟨hr.co,hr.col,hr.cbed,⟨hrw.rd,HC2.out,fun ad e=>by cases e;exact hne⟩,hr.ce,hr.da,hr.le,hr.pa,hr.sl,hr.slc,hr.sway,hr.bo,hr.rd⟩⟩ hf (fun G hG h=>{ h with li:=fun ad e=>by cases e;have:=HGE2.out;dsimp only;omega })
end Go.Proofs.YtkhcliibilkefaaGreatDoor
