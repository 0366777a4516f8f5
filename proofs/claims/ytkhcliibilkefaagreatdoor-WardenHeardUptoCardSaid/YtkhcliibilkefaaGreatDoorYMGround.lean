/- METHOD: cell. -/
import Derived.Test.YtkhcliibilkefaaGreatDoorYWords
import Derived.Test.YtkhcliibilkefaaGreatDoorYGround2
set_option linter.unusedVariables false
set_option linter.unusedSimpArgs false
set_option maxRecDepth 100000
set_option maxHeartbeats 8000000
namespace Go.Proofs.YtkhcliibilkefaaGreatDoor
open Lib (hid)
open Go.RowKit Go.Proofs
attribute [local go_sem ↓] Go.wp_at_zero Go.wp_at_succ
theorem cell_m {s:Nat}{x:SAd}{b:Sess}{now line more:Int}{g c:Nat}{l:List Int}{w:World}(h:SAt w s x b now line more)(hok:SOk b)(hl:NumsAt w s g 7 l) :
 Calls Tryz.prog 74 #[.pointer (some ⟨s,0,none⟩),.slice (some ⟨g,0,none⟩) 7 c] w fun e w'=>MethN w.heap.size x s g now line more (sCell b l) w e w':=by
 have HA:=hid h;have HB:=hid (Below.refl w.heap.size w);have HL:=hid hl;have HOK:=hid hok;have hdl:=h.rows.da.len;unfold sCell;rw[hdl];have d9:=h.blk.cell 9;simp[sessV] at d9
 rcases Nat.eq_zero_or_pos x.da.n with h0 | h0
 · rw[if_neg (by omega)]
   rw[h0] at d9
   have hcn:x.ce.n≤8:=by have:=h.rows.ce.len;have:=hok.cellN;omega
   obtain⟨R,hR⟩:∃ R,R=if groundOk (b.cells++[celOf l]) b.sn0 b.sn1 b.so0 b.so1 b.melt then done { b with cells:=b.cells++[celOf l] } else refuse b 1:=⟨_,rfl⟩
   rw[← hR];have HR:=hid hR;have hws:=hid h.blk.lt;clear h hl hok h0 hdl hR
   go_enter Tryz.func74,Tryz.ntmps74
   go_wp2_with fail
   go_at_call 54;refine(ask_t 8 _).mono ?_;rintro e w1 ⟨rfl,hb9⟩;replace HB:=hdT HB hb9;clear hb9 ;clear d9;have hA1:=(HA.out.below HB.out).blk;have d0:=hA1.cell 3;have d1:=hA1.cell 4;have d2:=hA1.cell 5;have d3:=hA1.cell 6;have d4:=hA1.cell 7;have d5:=hA1.cell 8;simp[sessV] at d0 d1 d2 d3 d4 d5;clear hA1
   go_upto_region 2 with fail
   have hb9:=(Below.refl w1.heap.size w1).alloc (Nat.le_refl _) (.cells #[.slice x.ce.A x.ce.n x.ce.c,.int .i64 b.sn0,.int .i64 b.sn1,.int .i64 b.so0,.int .i64 b.so1,.int .i64 b.melt] 33);have hn:=Blk.new w1 33 #[.slice x.ce.A x.ce.n x.ce.c,.int .i64 b.sn0,.int .i64 b.sn1,.int .i64 b.so0,.int .i64 b.so1,.int .i64 b.melt];have HSG:=hid (HB.out.size);replace HB:=hdT HB hb9;have HS:=hid hn;clear hb9 hn;revert HSG HB HS;generalize hgS:w1.heap.size=S;generalize (World.alloc w1 (.cells #[.slice x.ce.A x.ce.n x.ce.c,.int .i64 b.sn0,.int .i64 b.sn1,.int .i64 b.so0,.int .i64 b.so1,.int .i64 b.melt] 33))=w2;intro HSG HB HS;clear hgS;clear d0 d1 d2 d3 d4 d5;have hL1:=HL.out.below HB.out;have n0:=hL1.cell (i:=0) (by decide);have n1:=hL1.cell (i:=1) (by decide);have n2:=hL1.cell (i:=2) (by decide);have n3:=hL1.cell (i:=3) (by decide);have n4:=hL1.cell (i:=4) (by decide);have n5:=hL1.cell (i:=5) (by decide);have n6:=hL1.cell (i:=6) (by decide);have y0:=HS.out.cell 0;simp at y0;clear hL1;refine wp_region_till [27] (fun U=>U.cell? ⟨S,0,none⟩=some (.slice x.ce.A x.ce.n x.ce.c)∧U.cell? ⟨g,0,none⟩=some (.int .i64 (nth l 0))∧U.cell? ⟨g,1,none⟩=some (.int .i64 (nth l 1))∧U.cell? ⟨g,2,none⟩=some (.int .i64 (nth l 2))∧U.cell? ⟨g,3,none⟩=some (.int .i64 (nth l 3))∧U.cell? ⟨g,4,none⟩=some (.int .i64 (nth l 4))∧U.cell? ⟨g,5,none⟩=some (.int .i64 (nth l 5))∧U.cell? ⟨g,6,none⟩=some (.int .i64 (nth l 6))) (by kernel_rfl) (by exact⟨y0,n0,n1,n2,n3,n4,n5,n6⟩) (fun hHeld=>?_)
   have hb9:=(Below.refl w2.heap.size w2).drew;replace HB:=hdT HB hb9;replace HS:=hdB HS hb9;clear hb9;revert hHeld HB HS;generalize w2.drew=w0;intro hHeld HB HS;refine tk 0 0 ?_;refine tk 0 1 ?_;refine tk 0 2 ?_;refine tk 0 3 ?_;refine tk 0 4 ?_;refine tk 0 5 ?_;refine tk 0 6 ?_;refine tk 0 7 ?_;refine tk 0 8 ?_;refine tk 0 9 ?_;refine tk 0 10 ?_;refine tk 0 11 ?_;refine tk 0 12 ?_;refine tk 0 13 ?_;refine tk 0 14 ?_;refine tk 0 15 ?_;refine tk 0 16 ?_;refine tk 0 17 ?_;refine tk 0 18 ?_;refine tk 0 19 ?_;refine tk 0 20 ?_;refine tk 0 21 ?_;refine tk 0 22 ?_;refine tk 0 23 ?_;refine tk 0 24 ?_;refine ar [25] (ac (fun K hK=>?_) an);go_simp;go_at_call 97;refine(withCel_c (celOf l) (HA.out.below HB.out).rows.ce.rd (by omega)).mono ?_;rintro e w1 ⟨g2,cap2,rfl,hcap,hge,hrd,hb9⟩;have HGE:=hid (Nat.le_trans HB.out.size hge);have HCAP:=hid hcap;have HNE:Hid (g2≠S):=hid (by have:=HS.out.lt;omega);clear hge hcap;replace HB:=hdT HB hb9;replace HS:=hdB HS hb9;have HRD:=hid hrd;clear hb9 hrd;(try go_wp2_with fail);(try clear hHeld);refine hK.out _ _ (by(try dsimp only);exact⟨by simpa using HS.out.cell 0,(HL.out.below HB.out).cell (by decide),(HL.out.below HB.out).cell (by decide),(HL.out.below HB.out).cell (by decide),(HL.out.below HB.out).cell (by decide),(HL.out.below HB.out).cell (by decide),(HL.out.below HB.out).cell (by decide),(HL.out.below HB.out).cell (by decide)⟩) (fun hHeld=>?_);clear hK K;refine pt ?_;refine tk 0 26 ?_;refine ar [27] (al (fun K hK=>?_) an)
   have s0:=HS.out.cell 0;have f0:=HS.out.frozen 0;simp at s0;go_simp;(try clear hHeld);refine hK.out _ _ ?_;clear hK K;refine pt ?_;refine td ?_;clear s0 f0;have tHB:=HB.out.setCell (p:=⟨S,0,none⟩) HSG.out (.slice (some ⟨g2,0,none⟩) (x.ce.n+1) cap2);have tHS:=HS.out.set_ 0 (.slice (some ⟨g2,0,none⟩) (x.ce.n+1) cap2);simp only[List.setIfInBounds_toArray,List.set_cons_zero,List.set_cons_succ] at tHS;have tHRD:=((FrS.refl S w1).set (i:=0) (.slice (some ⟨g2,0,none⟩) (x.ce.n+1) cap2)).rd HRD.out (fun ad e=>by cases e;exact HNE.out);clear HB HS HRD;have HB:=hid tHB;clear tHB;have HS:=hid tHS;clear tHS;have HRD:=hid tHRD;clear tHRD;revert HB HS HRD;generalize (World.setCell w1 ⟨S,0,none⟩ (.slice (some ⟨g2,0,none⟩) (x.ce.n+1) cap2))=w5;intro HB HS HRD;have y0:=HS.out.cell 0;have y1:=HS.out.cell 1;have y2:=HS.out.cell 2;have y3:=HS.out.cell 3;have y4:=HS.out.cell 4;have y5:=HS.out.cell 5;simp at y0 y1 y2 y3 y4 y5;have hc:=CheckGround_c (c:=cap2) b.sn0 b.sn1 b.so0 b.so1 b.melt HRD.out (by unfold maxLen;omega)
   cases hs:groundOk (b.cells++[celOf l]) b.sn0 b.sn1 b.so0 b.so1 b.melt with
   | true =>
    rw[hs] at hc;have HC:=hid hc;clear hc
    go_wp2_with fail
    go_at_call 96;refine(HC.out).mono ?_;rintro e w1 ⟨rfl,hb9⟩;replace HB:=hdT HB hb9;replace HS:=hdB HS hb9;replace HRD:=hid (HRD.out.below hb9);clear hb9 ;clear y0 y1 y2 y3 y4 y5 HC
    go_wp2_with fail
    go_at_call 93;refine(must_t _).mono ?_;rintro e w1 ⟨rfl,hb9⟩;replace HB:=hdT HB hb9;replace HS:=hdB HS hb9;replace HRD:=hid (HRD.out.below hb9);clear hb9 ;have y0:=HS.out.cell 0;have y1:=HS.out.cell 1;have y2:=HS.out.cell 2;have y3:=HS.out.cell 3;have y4:=HS.out.cell 4;have y5:=HS.out.cell 5;simp at y0 y1 y2 y3 y4 y5;have hA1:=(HA.out.below HB.out).blk;have d0:=hA1.cell 3;have d1:=hA1.cell 4;have d2:=hA1.cell 5;have d3:=hA1.cell 6;have d4:=hA1.cell 7;have d5:=hA1.cell 8;have f0:=hA1.frozen 3;have f1:=hA1.frozen 4;have f2:=hA1.frozen 5;have f3:=hA1.frozen 6;have f4:=hA1.frozen 7;have f5:=hA1.frozen 8;simp[sessV] at d0 d1 d2 d3 d4 d5;clear hA1
    go_wp2_with fail
    go_end0
    have e:=HR.out;rw[hs,if_pos rfl] at e;rw[e];have hA1:=HA.out.below HB.out;have hf:FrS s w _:=((((((FrS.of_below HB.out).set (i:=3) (.slice (some ⟨g2,0,none⟩) (x.ce.n+1) cap2)).set (i:=4) (.int .i64 b.sn0)).set (i:=5) (.int .i64 b.sn1)).set (i:=6) (.int .i64 b.so0)).set (i:=7) (.int .i64 b.so1)).set (i:=8) (.int .i64 b.melt);have hf2:FrS s w1 _:=((((((FrS.refl s w1).set (i:=3) (.slice (some ⟨g2,0,none⟩) (x.ce.n+1) cap2)).set (i:=4) (.int .i64 b.sn0)).set (i:=5) (.int .i64 b.sn1)).set (i:=6) (.int .i64 b.so0)).set (i:=7) (.int .i64 b.so1)).set (i:=8) (.int .i64 b.melt);have hr:=HA.out.rows.fr hf;have hrow:=SRow.fr (x:=⟨some ⟨g2,0,none⟩,x.ce.n+1,cap2⟩) ⟨HRD.out,HCAP.out,fun ad e=>by cases e;have:=hws.out;have:=HGE.out;dsimp only;omega⟩ hf2;exact MethN.good (x:={ x with ce:=⟨some ⟨g2,0,none⟩,x.ce.n+1,cap2⟩ }) ⟨by simpa[sessV] using (((((hA1.blk.set_ 3 (.slice (some ⟨g2,0,none⟩) (x.ce.n+1) cap2)).set_ 4 (.int .i64 b.sn0)).set_ 5 (.int .i64 b.sn1)).set_ 6 (.int .i64 b.so0)).set_ 7 (.int .i64 b.so1)).set_ 8 (.int .i64 b.melt),⟨hr.co,hr.col,hr.cbed,hr.li,hrow,hr.da,hr.le,hr.pa,hr.sl,hr.slc,hr.sway,hr.bo,hr.rd⟩⟩ hf (fun G hG h=>{ h with ce:=fun ad e=>by cases e;have:=HGE.out;dsimp only;omega })
   | false =>
    rw[hs] at hc;have HC:=hid hc;clear hc
    go_wp2_with fail
    go_at_call 96;refine(HC.out).mono ?_;rintro e w1 ⟨rfl,hb9⟩;replace HB:=hdT HB hb9;replace HS:=hdB HS hb9;replace HRD:=hid (HRD.out.below hb9);clear hb9 ;clear y0 y1 y2 y3 y4 y5 HC
    go_wp2_with fail
    go_at_call 93;refine(must_f (E:=1) (by decide) _).mono ?_;rintro e w1 ⟨rfl,hb9⟩;replace HB:=hdT HB hb9;replace HS:=hdB HS hb9;replace HRD:=hid (HRD.out.below hb9);clear hb9 
    go_wp2_with fail
    have e:=HR.out;rw[hs,if_neg (by decide)] at e;rw[e];exact⟨rfl,MethN.no (E:=1) (by decide) (HA.out.below HB.out) (FrS.of_below HB.out)⟩
 · rw[if_pos (by omega)]
   have hq1:¬ x.da.n=0:=by omega
   have hq2:¬(x.da.n:Int)=0:=by omega
   have hq3:((x.da.n:Int) == 0)=false:=by simpa using hq2
   clear h hl hok h0 hdl
   go_enter Tryz.func74,Tryz.ntmps74
   go_wp2_with fail
   go_at_call 54;refine(ask_f 8 _).mono ?_;rintro e w1 ⟨rfl,hb9⟩;replace HB:=hdT HB hb9;clear hb9 
   go_wp2_with fail
   exact⟨rfl,MethN.no (E:=8) (by decide) (HA.out.below HB.out) (FrS.of_below HB.out)⟩
theorem ground_m {s:Nat}{x:SAd}{b:Sess}{now line more:Int}{g c:Nat}{l:List Int}{w:World}(h:SAt w s x b now line more)(hok:SOk b)(hl:NumsAt w s g 5 l) :
 Calls Tryz.prog 73 #[.pointer (some ⟨s,0,none⟩),.slice (some ⟨g,0,none⟩) 5 c] w fun e w'=>MethN w.heap.size x s g now line more (sGround b l) w e w':=by
 have HA:=hid h;have HB:=hid (Below.refl w.heap.size w);have HL:=hid hl;have HOK:=hid hok;have hdl:=h.rows.da.len;unfold sGround;rw[hdl];have d9:=h.blk.cell 9;simp[sessV] at d9
 rcases Nat.eq_zero_or_pos x.da.n with h0 | h0
 · rw[if_neg (by omega)]
   rw[h0] at d9;have hcl:=hid h.rows.ce.len
   have hcn:x.ce.n≤8:=by have:=h.rows.ce.len;have:=hok.cellN;omega
   obtain⟨R,hR⟩:∃ R,R=if groundOk (tried b.cells) (nth l 0) (nth l 1) (nth l 2) (nth l 3) (nth l 4) then done { b with sn0:=nth l 0,sn1:=nth l 1,so0:=nth l 2,so1:=nth l 3,melt:=nth l 4 } else refuse b 1:=⟨_,rfl⟩
   rw[← hR];have HR:=hid hR;have hws:=hid h.blk.lt;clear h hl hok h0 hdl hR
   go_enter Tryz.func73,Tryz.ntmps73
   go_wp2_with fail
   go_at_call 54;refine(ask_t 8 _).mono ?_;rintro e w1 ⟨rfl,hb9⟩;replace HB:=hdT HB hb9;clear hb9 ;clear d9;have hL1:=HL.out.below HB.out;have n0:=hL1.cell (i:=0) (by decide);have n1:=hL1.cell (i:=1) (by decide);have n2:=hL1.cell (i:=2) (by decide);have n3:=hL1.cell (i:=3) (by decide);have n4:=hL1.cell (i:=4) (by decide);have d3:=(HA.out.below HB.out).blk.cell 3;simp[sessV] at d3;clear hL1
   go_upto_region 1 with fail
   refine wp_region_till [25] (fun U=>U.cell? ⟨s,3,none⟩=some (.slice x.ce.A x.ce.n x.ce.c)∧U.cell? ⟨g,0,none⟩=some (.int .i64 (nth l 0))∧U.cell? ⟨g,1,none⟩=some (.int .i64 (nth l 1))∧U.cell? ⟨g,2,none⟩=some (.int .i64 (nth l 2))∧U.cell? ⟨g,3,none⟩=some (.int .i64 (nth l 3))∧U.cell? ⟨g,4,none⟩=some (.int .i64 (nth l 4))) (by kernel_rfl) (by exact⟨d3,n0,n1,n2,n3,n4⟩) (fun hHeld=>?_);have hb9:=(Below.refl w1.heap.size w1).drew;replace HB:=hdT HB hb9;clear hb9;revert hHeld HB;generalize w1.drew=w0;intro hHeld HB;refine tk 0 0 ?_;refine tk 0 1 ?_;refine tk 0 2 ?_;refine tk 0 3 ?_;refine tk 0 4 ?_;refine tk 0 5 ?_;refine tk 0 6 ?_;refine tk 0 7 ?_;refine tk 0 8 ?_;refine tk 0 9 ?_;refine tk 0 10 ?_;refine tk 0 11 ?_;refine tk 0 12 ?_;refine tk 0 13 ?_;refine tk 0 14 ?_;refine tk 0 15 ?_;refine tk 0 16 ?_;refine tk 0 17 ?_;refine tk 0 18 ?_;refine tk 0 19 ?_;refine tk 0 20 ?_;refine tk 0 21 ?_;refine tk 0 22 ?_;refine tk 0 23 ?_;refine ar [24] (ac (fun K hK=>?_) an);go_simp;have hb9:=(Below.refl w0.heap.size w0).alloc (Nat.le_refl _) (.cells #[.slice none 0 0,.int .i64 0,.int .i64 0,.int .i64 0,.int .i64 0,.int .i64 0] 33);have hn:=Blk.new w0 33 #[.slice none 0 0,.int .i64 0,.int .i64 0,.int .i64 0,.int .i64 0,.int .i64 0];have HGA:=hid HB.out.size;replace HB:=hdT HB hb9;have HS:=hid hn;clear hb9 hn;(try clear hHeld)
   refine hK.out _ _ (by(try dsimp only);exact⟨by simpa[sessV] using (HA.out.below HB.out).blk.cell 3,(HL.out.below HB.out).cell (by decide),(HL.out.below HB.out).cell (by decide),(HL.out.below HB.out).cell (by decide),(HL.out.below HB.out).cell (by decide),(HL.out.below HB.out).cell (by decide)⟩) (fun hHeld=>?_);clear hK K;refine pt ?_;revert hHeld HGA HB HS;generalize hgA:w0.heap.size=S;generalize (World.alloc w0 (.cells #[.slice none 0 0,.int .i64 0,.int .i64 0,.int .i64 0,.int .i64 0,.int .i64 0] 33))=w0;intro HGA HB HS hHeld;clear hgA;refine ar [25] (al (fun K hK=>?_) an);have s0:=HS.out.cell 0;have s1:=HS.out.cell 1;have s2:=HS.out.cell 2;have s3:=HS.out.cell 3;have s4:=HS.out.cell 4;have s5:=HS.out.cell 5;have f0:=HS.out.frozen 0;have f1:=HS.out.frozen 1;have f2:=HS.out.frozen 2;have f3:=HS.out.frozen 3;have f4:=HS.out.frozen 4;have f5:=HS.out.frozen 5;simp at s0 s1 s2 s3 s4 s5;go_simp;(try clear hHeld);refine hK.out _ _ ?_;clear hK K;refine pt ?_;refine td ?_;clear s0 s1 s2 s3 s4 s5 f0 f1 f2 f3 f4 f5;have tHB:=HB.out.setCell (p:=⟨S,0,none⟩) HGA.out (.slice x.ce.A x.ce.n x.ce.c);have tHS:=HS.out.set_ 0 (.slice x.ce.A x.ce.n x.ce.c);simp only[List.setIfInBounds_toArray,List.set_cons_zero,List.set_cons_succ] at tHS;clear HB HS;have HB:=hid tHB;clear tHB;have HS:=hid tHS;clear tHS;revert HB HS;generalize (World.setCell w0 ⟨S,0,none⟩ (.slice x.ce.A x.ce.n x.ce.c))=v0;intro HB HS;have tHB:=HB.out.setCell (p:=⟨S,1,none⟩) HGA.out (.int .i64 (nth l 0))
   have tHS:=HS.out.set_ 1 (.int .i64 (nth l 0));simp only[List.setIfInBounds_toArray,List.set_cons_zero,List.set_cons_succ] at tHS;clear HB HS;have HB:=hid tHB;clear tHB;have HS:=hid tHS;clear tHS;revert HB HS;generalize (World.setCell v0 ⟨S,1,none⟩ (.int .i64 (nth l 0)))=v1;intro HB HS;have tHB:=HB.out.setCell (p:=⟨S,2,none⟩) HGA.out (.int .i64 (nth l 1));have tHS:=HS.out.set_ 2 (.int .i64 (nth l 1));simp only[List.setIfInBounds_toArray,List.set_cons_zero,List.set_cons_succ] at tHS;clear HB HS;have HB:=hid tHB;clear tHB;have HS:=hid tHS;clear tHS;revert HB HS;generalize (World.setCell v1 ⟨S,2,none⟩ (.int .i64 (nth l 1)))=v2;intro HB HS;have tHB:=HB.out.setCell (p:=⟨S,3,none⟩) HGA.out (.int .i64 (nth l 2));have tHS:=HS.out.set_ 3 (.int .i64 (nth l 2));simp only[List.setIfInBounds_toArray,List.set_cons_zero,List.set_cons_succ] at tHS;clear HB HS;have HB:=hid tHB;clear tHB;have HS:=hid tHS;clear tHS;revert HB HS;generalize (World.setCell v2 ⟨S,3,none⟩ (.int .i64 (nth l 2)))=v3;intro HB HS;have tHB:=HB.out.setCell (p:=⟨S,4,none⟩) HGA.out (.int .i64 (nth l 3));have tHS:=HS.out.set_ 4 (.int .i64 (nth l 3));simp only[List.setIfInBounds_toArray,List.set_cons_zero,List.set_cons_succ] at tHS;clear HB HS;have HB:=hid tHB;clear tHB;have HS:=hid tHS;clear tHS;revert HB HS;generalize (World.setCell v3 ⟨S,4,none⟩ (.int .i64 (nth l 3)))=v4;intro HB HS;have tHB:=HB.out.setCell (p:=⟨S,5,none⟩) HGA.out (.int .i64 (nth l 4));have tHS:=HS.out.set_ 5 (.int .i64 (nth l 4))
   simp only[List.setIfInBounds_toArray,List.set_cons_zero,List.set_cons_succ] at tHS;clear HB HS;have HB:=hid tHB;clear tHB;have HS:=hid tHS;clear tHS;revert HB HS;generalize (World.setCell v4 ⟨S,5,none⟩ (.int .i64 (nth l 4)))=v5;intro HB HS;have y0:=HS.out.cell 0;have y1:=HS.out.cell 1;have y2:=HS.out.cell 2;have y3:=HS.out.cell 3;have y4:=HS.out.cell 4;have y5:=HS.out.cell 5;simp at y0 y1 y2 y3 y4 y5
   go_upto_region 3 with fail
   have hb9:=(Below.refl v5.heap.size v5).alloc (Nat.le_refl _) (.cells #[.slice x.ce.A x.ce.n x.ce.c,.int .i64 (nth l 0),.int .i64 (nth l 1),.int .i64 (nth l 2),.int .i64 (nth l 3),.int .i64 (nth l 4)] 33);have hn:=Blk.new v5 33 #[.slice x.ce.A x.ce.n x.ce.c,.int .i64 (nth l 0),.int .i64 (nth l 1),.int .i64 (nth l 2),.int .i64 (nth l 3),.int .i64 (nth l 4)];have HTG:=hid (HB.out.size);have HST:=hid (HS.out.lt);replace HB:=hdT HB hb9;replace HS:=hdB HS hb9;have HT:=hid hn;clear hb9 hn;revert HTG HST HB HS HT;generalize hgT:v5.heap.size=T;generalize (World.alloc v5 (.cells #[.slice x.ce.A x.ce.n x.ce.c,.int .i64 (nth l 0),.int .i64 (nth l 1),.int .i64 (nth l 2),.int .i64 (nth l 3),.int .i64 (nth l 4)] 33))=v6;intro HTG HST HB HS HT;clear hgT;clear y0 y1 y2 y3 y4 y5;have y0:=HT.out.cell 0;have q0:=HT.out.frozen 0;simp at y0
   rcases Nat.eq_zero_or_pos x.ce.n with hc0 | hc0
   · have htr:tried b.cells=[⟨0,0,1,0,0,-1,0⟩]:=by unfold tried;rw[if_pos (by have:=hcl.out;omega)]
     rw[hc0] at y0;clear hc0
     go_upto_region 4 with fail
     clear y0 q0;have y0:=(HT.out.alloc (.cells #[.int .i64 0,.int .i64 0,.int .i64 1,.int .i64 0,.int .i64 0,.int .i64 (-1),.int .i64 0] 162)).cell 0;have q0:=(HT.out.alloc (.cells #[.int .i64 0,.int .i64 0,.int .i64 1,.int .i64 0,.int .i64 0,.int .i64 (-1),.int .i64 0] 162)).frozen 0;simp at y0
     go_upto_region 5 with fail
     clear y0 q0;have hb9:=(Below.refl v6.heap.size v6).alloc (Nat.le_refl _) (.cells #[.int .i64 0,.int .i64 0,.int .i64 1,.int .i64 0,.int .i64 0,.int .i64 (-1),.int .i64 0] 162);have hn:=Blk.new v6 162 #[.int .i64 0,.int .i64 0,.int .i64 1,.int .i64 0,.int .i64 0,.int .i64 (-1),.int .i64 0];have HTN:=hid (HT.out.lt);replace HB:=hdT HB hb9;replace HS:=hdB HS hb9;replace HT:=hdB HT hb9;have HN:=hid hn;clear hb9 hn;revert HTN HB HS HT HN;generalize hgG:v6.heap.size=G;generalize (World.alloc v6 (.cells #[.int .i64 0,.int .i64 0,.int .i64 1,.int .i64 0,.int .i64 0,.int .i64 (-1),.int .i64 0] 162))=v7;intro HTN HB HS HT HN;clear hgG;have tHB:=HB.out.setCell (p:=⟨T,0,none⟩) HTG.out (.slice (some ⟨G,0,none⟩) 1 1);have tHS:=HS.out.far (p:=⟨T,0,none⟩) (Nat.ne_of_lt HST.out) (.slice (some ⟨G,0,none⟩) 1 1);have tHT:=HT.out.set_ 0 (.slice (some ⟨G,0,none⟩) 1 1);simp only[List.setIfInBounds_toArray,List.set_cons_zero,List.set_cons_succ] at tHT;have tHN:=HN.out.far (p:=⟨T,0,none⟩) ((Nat.ne_of_lt HTN.out).symm) (.slice (some ⟨G,0,none⟩) 1 1);clear HB HS HT HN;have HB:=hid tHB;clear tHB;have HS:=hid tHS;clear tHS;have HT:=hid tHT;clear tHT;have HN:=hid tHN;clear tHN;revert HB HS HT HN;generalize (World.setCell v7 ⟨T,0,none⟩ (.slice (some ⟨G,0,none⟩) 1 1))=v8;intro HB HS HT HN;have y0:=HT.out.cell 0;have y1:=HT.out.cell 1;have y2:=HT.out.cell 2;have y3:=HT.out.cell 3;have y4:=HT.out.cell 4;have y5:=HT.out.cell 5;simp at y0 y1 y2 y3 y4 y5
     have hc:=CheckGround_c (C:=[⟨0,0,1,0,0,-1,0⟩]) (n:=1) (c:=1) (nth l 0) (nth l 1) (nth l 2) (nth l 3) (nth l 4) (Rd.of_blkE (k:=7) encCel_len HN.out (l:=[(⟨0,0,1,0,0,-1,0⟩:Cel)]) rfl rfl) (by decide);rw[← htr] at hc
     cases hs:groundOk (tried b.cells) (nth l 0) (nth l 1) (nth l 2) (nth l 3) (nth l 4) with
     | true =>
      rw[hs] at hc;have HC:=hid hc;clear hc
      go_wp2_with fail
      go_at_call 96;refine(HC.out).mono ?_;rintro e w1 ⟨rfl,hb9⟩;replace HB:=hdT HB hb9;replace HS:=hdB HS hb9;replace HT:=hdB HT hb9;replace HN:=hdB HN hb9;clear hb9 ;clear y0 y1 y2 y3 y4 y5 HC
      go_wp2_with fail
      go_at_call 93;refine(must_t _).mono ?_;rintro e w1 ⟨rfl,hb9⟩;replace HB:=hdT HB hb9;replace HS:=hdB HS hb9;replace HT:=hdB HT hb9;replace HN:=hdB HN hb9;clear hb9 ;have y0:=HS.out.cell 0;have y1:=HS.out.cell 1;have y2:=HS.out.cell 2;have y3:=HS.out.cell 3;have y4:=HS.out.cell 4;have y5:=HS.out.cell 5;simp at y0 y1 y2 y3 y4 y5;have hA1:=(HA.out.below HB.out).blk;have d0:=hA1.cell 3;have d1:=hA1.cell 4;have d2:=hA1.cell 5;have d3:=hA1.cell 6;have d4:=hA1.cell 7;have d5:=hA1.cell 8;have f0:=hA1.frozen 3;have f1:=hA1.frozen 4;have f2:=hA1.frozen 5;have f3:=hA1.frozen 6;have f4:=hA1.frozen 7;have f5:=hA1.frozen 8;simp[sessV] at d0 d1 d2 d3 d4 d5;clear hA1
      go_wp2_with fail
      go_end0
      have e:=HR.out;rw[hs,if_pos rfl] at e;rw[e];have hA1:=HA.out.below HB.out;have hf:FrS s w _:=((((((FrS.of_below HB.out).set (i:=3) (.slice x.ce.A x.ce.n x.ce.c)).set (i:=4) (.int .i64 (nth l 0))).set (i:=5) (.int .i64 (nth l 1))).set (i:=6) (.int .i64 (nth l 2))).set (i:=7) (.int .i64 (nth l 3))).set (i:=8) (.int .i64 (nth l 4));have hr:=HA.out.rows.fr hf;exact MethN.good (x:=x) ⟨by simpa[sessV] using (((((hA1.blk.set_ 3 (.slice x.ce.A x.ce.n x.ce.c)).set_ 4 (.int .i64 (nth l 0))).set_ 5 (.int .i64 (nth l 1))).set_ 6 (.int .i64 (nth l 2))).set_ 7 (.int .i64 (nth l 3))).set_ 8 (.int .i64 (nth l 4)),⟨hr.co,hr.col,hr.cbed,hr.li,hr.ce,hr.da,hr.le,hr.pa,hr.sl,hr.slc,hr.sway,hr.bo,hr.rd⟩⟩ hf (fun _ _ h=>h)
     | false =>
      rw[hs] at hc;have HC:=hid hc;clear hc
      go_wp2_with fail
      go_at_call 96;refine(HC.out).mono ?_;rintro e w1 ⟨rfl,hb9⟩;replace HB:=hdT HB hb9;replace HS:=hdB HS hb9;replace HT:=hdB HT hb9;replace HN:=hdB HN hb9;clear hb9 ;clear y0 y1 y2 y3 y4 y5 HC
      go_wp2_with fail
      go_at_call 93;refine(must_f (E:=1) (by decide) _).mono ?_;rintro e w1 ⟨rfl,hb9⟩;replace HB:=hdT HB hb9;replace HS:=hdB HS hb9;replace HT:=hdB HT hb9;replace HN:=hdB HN hb9;clear hb9 
      go_wp2_with fail
      have e:=HR.out;rw[hs,if_neg (by decide)] at e;rw[e];exact⟨rfl,MethN.no (E:=1) (by decide) (HA.out.below HB.out) (FrS.of_below HB.out)⟩
   · have htr:tried b.cells=b.cells:=tried_of (by have:=hcl.out;omega)
     have hq2:¬(x.ce.n:Int)=0:=by omega
     have hq3:((x.ce.n:Int) == 0)=false:=by simpa using hq2
     go_upto_region 5 with fail
     clear y0 q0;have y0:=HT.out.cell 0;have y1:=HT.out.cell 1;have y2:=HT.out.cell 2;have y3:=HT.out.cell 3;have y4:=HT.out.cell 4;have y5:=HT.out.cell 5;simp at y0 y1 y2 y3 y4 y5;have hc:=CheckGround_c (c:=x.ce.c) (nth l 0) (nth l 1) (nth l 2) (nth l 3) (nth l 4) (HA.out.below HB.out).rows.ce.rd (by unfold maxLen;omega);rw[← htr] at hc;clear hq2 hq3
     cases hs:groundOk (tried b.cells) (nth l 0) (nth l 1) (nth l 2) (nth l 3) (nth l 4) with
     | true =>
      rw[hs] at hc;have HC:=hid hc;clear hc
      go_wp2_with fail
      go_at_call 96;refine(HC.out).mono ?_;rintro e w1 ⟨rfl,hb9⟩;replace HB:=hdT HB hb9;replace HS:=hdB HS hb9;replace HT:=hdB HT hb9;clear hb9 ;clear y0 y1 y2 y3 y4 y5 HC
      go_wp2_with fail
      go_at_call 93;refine(must_t _).mono ?_;rintro e w1 ⟨rfl,hb9⟩;replace HB:=hdT HB hb9;replace HS:=hdB HS hb9;replace HT:=hdB HT hb9;clear hb9 ;have y0:=HS.out.cell 0;have y1:=HS.out.cell 1;have y2:=HS.out.cell 2;have y3:=HS.out.cell 3;have y4:=HS.out.cell 4;have y5:=HS.out.cell 5;simp at y0 y1 y2 y3 y4 y5;have hA1:=(HA.out.below HB.out).blk;have d0:=hA1.cell 3;have d1:=hA1.cell 4;have d2:=hA1.cell 5;have d3:=hA1.cell 6;have d4:=hA1.cell 7;have d5:=hA1.cell 8;have f0:=hA1.frozen 3;have f1:=hA1.frozen 4;have f2:=hA1.frozen 5;have f3:=hA1.frozen 6;have f4:=hA1.frozen 7;have f5:=hA1.frozen 8;simp[sessV] at d0 d1 d2 d3 d4 d5;clear hA1
      go_wp2_with fail
      go_end0
      have e:=HR.out;rw[hs,if_pos rfl] at e;rw[e];have hA1:=HA.out.below HB.out;have hf:FrS s w _:=((((((FrS.of_below HB.out).set (i:=3) (.slice x.ce.A x.ce.n x.ce.c)).set (i:=4) (.int .i64 (nth l 0))).set (i:=5) (.int .i64 (nth l 1))).set (i:=6) (.int .i64 (nth l 2))).set (i:=7) (.int .i64 (nth l 3))).set (i:=8) (.int .i64 (nth l 4));have hr:=HA.out.rows.fr hf;exact MethN.good (x:=x) ⟨by simpa[sessV] using (((((hA1.blk.set_ 3 (.slice x.ce.A x.ce.n x.ce.c)).set_ 4 (.int .i64 (nth l 0))).set_ 5 (.int .i64 (nth l 1))).set_ 6 (.int .i64 (nth l 2))).set_ 7 (.int .i64 (nth l 3))).set_ 8 (.int .i64 (nth l 4)),⟨hr.co,hr.col,hr.cbed,hr.li,hr.ce,hr.da,hr.le,hr.pa,hr.sl,hr.slc,hr.sway,hr.bo,hr.rd⟩⟩ hf (fun _ _ h=>h)
     | false =>
      rw[hs] at hc;have HC:=hid hc;clear hc
      go_wp2_with fail
      go_at_call 96;refine(HC.out).mono ?_;rintro e w1 ⟨rfl,hb9⟩;replace HB:=hdT HB hb9;replace HS:=hdB HS hb9;replace HT:=hdB HT hb9;clear hb9 ;clear y0 y1 y2 y3 y4 y5 HC
      go_wp2_with fail
      go_at_call 93;refine(must_f (E:=1) (by decide) _).mono ?_;rintro e w1 ⟨rfl,hb9⟩;replace HB:=hdT HB hb9;replace HS:=hdB HS hb9;replace HT:=hdB HT hb9;clear hb9 
      go_wp2_with fail
      have e:=HR.out;rw[hs,if_neg (by decide)] at e;rw[e];exact⟨rfl,MethN.no (E:=1) (by decide) (HA.out.below HB.out) (FrS.of_below HB.out)⟩
 · rw[if_pos (by omega)]
   have hq1:¬ x.da.n=0:=by omega
   have hq2:¬(x.da.n:Int)=0:=by omega
   have hq3:((x.da.n:Int) == 0)=false:=by simpa using hq2
   clear h hl hok h0 hdl
   go_enter Tryz.func73,Tryz.ntmps73
   go_wp2_with fail
   go_at_call 54;refine(ask_f 8 _).mono ?_;rintro e w1 ⟨rfl,hb9⟩;replace HB:=hdT HB hb9;clear hb9 
   go_wp2_with fail
   exact⟨rfl,MethN.no (E:=8) (by decide) (HA.out.below HB.out) (FrS.of_below HB.out)⟩
end Go.Proofs.YtkhcliibilkefaaGreatDoor
