/- METHOD: way. -/
import Derived.Test.YtkhcliibilkefaaGreatDoorYMSlide
set_option linter.unusedVariables false
set_option linter.unusedSimpArgs false
set_option maxRecDepth 100000
set_option maxHeartbeats 8000000
namespace Go.Proofs.YtkhcliibilkefaaGreatDoor
open Lib (hid)
open Go.RowKit Go.Proofs
attribute [local go_sem ↓] Go.wp_at_zero Go.wp_at_succ
theorem map_modify {SL:List Sli}{k:Nat}{y y':Sli}{f:PSl→PSl}(hy:SL[k]?=some y)(hf:pslOf y'=f (pslOf y)):(SL.set k y').map pslOf=(SL.map pslOf).modify k f:=by
 apply List.ext_getElem?
 intro i;rw[List.getElem?_map,List.getElem?_set,List.getElem?_modify,List.getElem?_map];have hk:=(List.getElem?_eq_some_iff.1 hy).1
 by_cases hi:k=i
 · subst hi
   have he:SL[k]=y:=(List.getElem?_eq_some_iff.1 hy).2;simp[hk,hy,hf,he]
 · simp[hi]
theorem way_m {s:Nat}{x:SAd}{b:Sess}{now line more:Int}{g c:Nat}{l:List Int}{w:World}(h:SAt w s x b now line more)(hok:SOk b)(hl:NumsAt w s g 2 l) :
 Calls Tryz.prog 81 #[.pointer (some ⟨s,0,none⟩),.slice (some ⟨g,0,none⟩) 2 c] w fun e w'=>MethN w.heap.size x s g now line more (sWay b l) w e w':=by
 have HA:=hid h;have HB:=hid (Below.refl w.heap.size w);have HL:=hid hl;have HOK:=hid hok;have n0:=hl.cell (i:=0) (by decide);have d15:=h.blk.cell 15;simp[sessV] at d15
 have hslc:x.SL.length=b.sls.length:=by rw[← h.rows.slc,List.length_map]
 have hsn:x.sl.n≤10:=by
  have h1:=h.rows.sl.len
  have h3:b.sls.length≤10:=by
   rcases hok.val with h4 | h4
   · omega
   · have:=h4.sn;simpa[Sess.vly] using this
  omega
 have hpn:x.pa.n≤maxLen:=by have:=h.rows.pa.len;have:=hok.parN;unfold maxLen;omega
 have hbd:∀ y∈x.SL,y.way.length≤12∧0≤y.hi∧y.hi≤12:=by
  intro y hy
  rcases hok.val with h0 | h0
  · have:x.SL.length=0:=by omega
    rw[List.length_eq_zero_iff.1 this] at hy;cases hy
  · rw[Sess.vly_can h.rows.slc,VOk.can] at h0
    have h1:=h0.way12 hy;obtain⟨i,hi⟩:=List.getElem?_of_mem hy;have h2:=h0.slide hi;exact⟨h1,by omega⟩
 have HBD:=hid hbd;have HSN:=hid hsn;have HSL:=hid h.rows.sl.len;have hws:=hid h.blk.lt;have hw1:IntKind.i64.wrap ((x.sl.n:Int) - 1)=(x.sl.n:Int) - 1:=wi (by omega);have HC1:=hid (fun W:World=>wwithin_c (nth l 0) 0 ((x.sl.n:Int) - 1) W);unfold sWay;rw[← hslc,h.rows.sl.len];clear h hl hok hslc hbd hsn
 cases hR0:inB (nth l 0) 0 ((x.sl.n:Int) - 1) with
 | false =>
  rw[if_neg (by simp)];rw[hR0] at HC1
  go_enter Tryz.func81,Tryz.ntmps81
  go_wp2_with fail
  refine wp_region_till [] (fun U=>U.cell? ⟨g,0,none⟩=some (.int .i64 (nth l 0))∧U.cell? ⟨s,15,none⟩=some (.slice x.sl.A x.sl.n x.sl.c)) (by kernel_rfl) (by exact⟨n0,d15⟩) (fun hHeld=>?_);have hb9:=(Below.refl w.heap.size w).drew;replace HB:=hdT HB hb9;clear hb9;revert hHeld HB;generalize w.drew=w0;intro hHeld HB;refine tk 0 0 ?_;refine tk 0 1 ?_;refine tk 0 2 ?_;refine tk 0 3 ?_;refine tk 0 4 ?_;refine tk 0 5 ?_;refine tk 0 6 ?_;refine tk 0 7 ?_;refine tk 0 8 ?_;refine tk 0 9 ?_;refine tk 0 10 ?_;refine ar [11] (ac (fun K hK=>?_) an);go_simp;go_at_call 37;refine(HC1.out _).mono ?_;rintro e w1 ⟨rfl,hb9⟩;replace HB:=hdT HB hb9;clear hb9 ;(try go_wp2_with fail);(try clear hHeld);refine hK.out _ _ (by(try dsimp only);exact⟨(HL.out.below HB.out).cell (by decide),by simpa[sessV] using (HA.out.below HB.out).blk.cell 15⟩) (fun hHeld=>?_);clear hK K;refine pt ?_;refine ar [12] (ac (fun K hK=>?_) an);go_simp;go_at_call 54;refine(ask_f 2 _).mono ?_;rintro e w1 ⟨rfl,hb9⟩;replace HB:=hdT HB hb9;clear hb9 
  go_wp2_with fail
  exact⟨rfl,MethN.no (E:=2) (by decide) (HA.out.below HB.out) (FrS.of_below HB.out)⟩
 | true =>
  rw[if_pos rfl];rw[hR0] at HC1;have hR0:=inB_iff.1 hR0;obtain⟨k,hk0⟩:∃ k:Nat,nth l 0=(k:Int):=⟨(nth l 0).toNat,by omega⟩;have HKN:Hid (k<x.sl.n):=hid (by omega);rw[show(nth l 0).toNat=k by rw[hk0,Int.toNat_natCast]];have HE:=hid hk0;obtain⟨R,hR⟩:∃ R,R=ifV b { b with sls:=b.sls.modify k fun s=>wayTop s (nth l 1) }:=⟨_,rfl⟩;rw[← hR];have HR:=hid hR;clear hR hk0 hR0
  go_enter Tryz.func81,Tryz.ntmps81
  go_wp2_with fail
  refine wp_region_till [] (fun U=>U.cell? ⟨g,0,none⟩=some (.int .i64 (nth l 0))∧U.cell? ⟨s,15,none⟩=some (.slice x.sl.A x.sl.n x.sl.c)) (by kernel_rfl) (by exact⟨n0,d15⟩) (fun hHeld=>?_);have hb9:=(Below.refl w.heap.size w).drew;replace HB:=hdT HB hb9;clear hb9;revert hHeld HB;generalize w.drew=w0;intro hHeld HB;refine tk 0 0 ?_;refine tk 0 1 ?_;refine tk 0 2 ?_;refine tk 0 3 ?_;refine tk 0 4 ?_;refine tk 0 5 ?_;refine tk 0 6 ?_;refine tk 0 7 ?_;refine tk 0 8 ?_;refine tk 0 9 ?_;refine tk 0 10 ?_;refine ar [11] (ac (fun K hK=>?_) an);go_simp;go_at_call 37;refine(HC1.out _).mono ?_;rintro e w1 ⟨rfl,hb9⟩;replace HB:=hdT HB hb9;clear hb9 ;(try go_wp2_with fail);(try clear hHeld);refine hK.out _ _ (by(try dsimp only);exact⟨(HL.out.below HB.out).cell (by decide),by simpa[sessV] using (HA.out.below HB.out).blk.cell 15⟩) (fun hHeld=>?_);clear hK K;refine pt ?_;refine ar [12] (ac (fun K hK=>?_) an);go_simp;go_at_call 54;refine(ask_t 2 _).mono ?_;rintro e w1 ⟨rfl,hb9⟩;replace HB:=hdT HB hb9;clear hb9 ;skip;(try go_wp2_with fail);(try clear hHeld);refine hK.out _ _ (by(try dsimp only);exact⟨(HL.out.below HB.out).cell (by decide),by simpa[sessV] using (HA.out.below HB.out).blk.cell 15⟩) (fun hHeld=>?_);clear hK K;refine pt ?_;refine td ?_;clear n0 d15;have hA1:=(HA.out.below HB.out).blk;have d0:=hA1.cell 14;have d1:=hA1.cell 15;have d2:=hA1.cell 16;have d3:=hA1.cell 17;have d4:=hA1.cell 18;simp[sessV] at d0 d1 d2 d3 d4;clear hA1
  go_upto_region 2 with fail
  (try clear hHeld);have hb9:=(Below.refl w1.heap.size w1).alloc (Nat.le_refl _) (.cells #[.slice x.pa.A x.pa.n x.pa.c,.slice x.sl.A x.sl.n x.sl.c,.int .i64 b.t0,.int .i64 b.t1,.int .i64 b.t2] 39);have hn:=Blk.new w1 39 #[.slice x.pa.A x.pa.n x.pa.c,.slice x.sl.A x.sl.n x.sl.c,.int .i64 b.t0,.int .i64 b.t1,.int .i64 b.t2];have HSG:=hid (HB.out.size);replace HB:=hdT HB hb9;have HS:=hid hn;clear hb9 hn;revert HSG HB HS;generalize hgS:w1.heap.size=S;generalize (World.alloc w1 (.cells #[.slice x.pa.A x.pa.n x.pa.c,.slice x.sl.A x.sl.n x.sl.c,.int .i64 b.t0,.int .i64 b.t1,.int .i64 b.t2] 39))=w2;intro HSG HB HS;clear hgS;clear d0 d1 d2 d3 d4
  go_cut [] (fun wx=>∃(g2 c2:Nat),Blk wx S 39 #[.slice x.pa.A x.pa.n x.pa.c,.slice (some ⟨g2,0,none⟩) x.sl.n c2,.int .i64 b.t0,.int .i64 b.t1,.int .i64 b.t2]∧RowW wx 179 encS 4 g2 x.sl.n x.SL∧x.sl.n≤c2∧w.heap.size≤g2∧g2≠S∧Below w.heap.size w wx)
  case first =>
   have y1:=HS.out.cell 1;simp at y1
   go_wp2_with fail
   go_at_call 106;refine((cloneSli_c (c:=x.sl.c) (HA.out.below HB.out).rows.sl.rd (by have:=HSN.out;omega))).mono ?_;rintro e w1 ⟨v,rfl,hown,hb9⟩;obtain⟨g2,c2,rfl,hg2,hc2,hrw⟩:=RowW.of_own encS_len (by decide) hown HSL.out (by have:=HKN.out;omega);have hge2:=Nat.le_trans HB.out.size hg2;have hns:g2≠S:=(by have:=HS.out.lt;omega);clear hown hg2;replace HB:=hdT HB hb9;replace HS:=hdB HS hb9;have HRW:=hid hrw;clear hb9 hrw;have y1:=HS.out.cell 1;have f1:=HS.out.frozen 1;simp at y1;have HC2:=hid hc2;have HGE2:=hid hge2;have HNS:=hid hns;clear hc2 hge2 hns
   go_wp2_with fail
   go_meet
   exact⟨g2,c2,by simpa using HS.out.set_ 1 (.slice (some ⟨g2,0,none⟩) x.sl.n c2),HRW.out.fr ((FrS.refl S _).set _) HNS.out,HC2.out,HGE2.out,HNS.out,HB.out.setCell (p:=⟨S,1,none⟩) HSG.out _⟩
  case rest =>
   obtain⟨g2,c2,hs,hrw,hc2,hge2,hns,hb⟩:=hcut;clear HB HS;have HB:=hid hb;have HS:=hid hs;have HRW:=hid hrw;have HC2:=hid hc2;have HGE2:=hid hge2;have HNS:=hid hns;clear hb hs hrw hc2 hge2 hns;obtain⟨y,hy⟩:∃ y,x.SL[k]?=some y:=⟨_,List.getElem?_eq_getElem (by have:=HKN.out;have:=HSL.out;omega)⟩;have HY:=hid hy;have hv:=(HA.out.below HB.out).rows.vrow HOK.out;have HYN:=hid (HBD.out y (List.mem_of_getElem? hy));have hyr:=hv.way k y hy;have HYC:=hid (show y.n≤12 by have h1:=hyr.rd.len;have h2:=HYN.out.1;dsimp only at h1;omega);clear hv hy hyr;have hkn:=HKN.out
   have hi1:(k:Int)<(x.sl.n:Int):=by omega
   have hi0:(0:Int)≤(k:Int):=by omega
   have n0:=(HL.out.below HB.out).cell (i:=0) (by decide);rw[HE.out] at n0;have y1:=HS.out.cell 1;simp at y1;clear hkn
   go_wp2_with fail
   refine wp_region_till [] (fun U=>U.cell? ⟨g,0,none⟩=some (.int .i64 (k:Int))∧U.cell? ⟨S,1,none⟩=some (.slice (some ⟨g2,0,none⟩) x.sl.n c2)) (by kernel_rfl) (by exact⟨n0,y1⟩) (fun hHeld=>?_);have hb9:=(Below.refl wc.heap.size wc).drew;replace HB:=hdT HB hb9;replace HS:=hdB HS hb9;replace HRW:=hid (HRW.out.below hb9);clear hb9;revert hHeld HB HS HRW;generalize wc.drew=w0;intro hHeld HB HS HRW;refine tk 0 0 ?_;refine tk 0 1 ?_;refine tk 0 2 ?_;refine tk 0 3 ?_;refine tk 0 4 ?_;refine tk 0 5 ?_;refine tk 0 6 ?_;refine td ?_;(try clear hHeld);clear n0 y1 hi1 hi0;have z0:=HRW.out.cell (j:=0) HY.out rfl;have n1:=(HL.out.below HB.out).cell (i:=1) (by decide);simp only[Nat.add_zero] at z0
   go_wp2_with fail
   refine wp_region_till [11] (fun U=>U.cell? ⟨g,1,none⟩=some (.int .i64 (nth l 1))∧U.cell? ⟨g2,k * 4,none⟩=some (.slice y.A y.n y.c)) (by kernel_rfl) (by exact⟨n1,z0⟩) (fun hHeld=>?_);have hb9:=(Below.refl w0.heap.size w0).drew;replace HB:=hdT HB hb9;replace HS:=hdB HS hb9;replace HRW:=hid (HRW.out.below hb9);clear hb9;revert hHeld HB HS HRW;generalize w0.drew=w0;intro hHeld HB HS HRW;refine tk 0 0 ?_;refine tk 0 1 ?_;refine tk 0 2 ?_;refine tk 0 3 ?_;refine tk 0 4 ?_;refine tk 0 5 ?_;refine tk 0 6 ?_;refine tk 0 7 ?_;refine ar [8] (ac (fun K hK=>?_) an);go_simp;go_at_call 95;refine((withInt_c (nth l 1) ((HA.out.below HB.out).rows.sway k y HY.out).rd (by have:=HYC.out;dsimp only;omega))).mono ?_;rintro e w1 ⟨g3,c3,rfl,hc3,hge3,hrd3,hb9⟩;have HGE3:=hid (Nat.le_trans HB.out.size hge3);have HC3:=hid hc3;have HN3:Hid (g3≠S∧g3≠g2):=hid (by have:=HS.out.lt;have:=HRW.out.lt;omega);clear hge3 hc3;replace HB:=hdT HB hb9;replace HS:=hdB HS hb9;replace HRW:=hid (HRW.out.below hb9);have HW3:=hid hrd3;clear hb9 hrd3;(try go_wp2_with fail);(try clear hHeld);refine hK.out _ _ (by(try dsimp only);exact⟨(HL.out.below HB.out).cell (by decide),HRW.out.cell (j:=0) HY.out rfl⟩) (fun hHeld=>?_);clear hK K;refine pt ?_;refine tk 1 9 ?_;refine tk 0 10 ?_;refine ar [11] (al (fun K hK=>?_) an);have s0:=HRW.out.cell (j:=0) HY.out rfl;have f0:=HRW.out.frozen (k * 4);simp only[Nat.add_zero] at s0;go_simp;(try clear hHeld);refine hK.out _ _ ?_;clear hK K;refine pt ?_;refine td ?_;clear s0 f0 z0 n1
   have HYB:=hid (HBD.out y (List.mem_of_getElem? HY.out))
   have hr1:RowW (w1.setCell ⟨g2,k * 4,none⟩ (.slice (some ⟨g3,0,none⟩) (y.n+1) c3)) 179 encS 4 g2 x.sl.n (x.SL.set k ⟨some ⟨g3,0,none⟩,y.n+1,c3,y.way++[nth l 1],y.rate,y.lo,y.hi⟩):=by
    have:=HRW.out.put1 encS_len (i:=k) (r:=0) (x':=⟨some ⟨g3,0,none⟩,y.n+1,c3,y.way++[nth l 1],y.rate,y.lo,y.hi⟩) (u:=.slice (some ⟨g3,0,none⟩) (y.n+1) c3) HY.out (by decide) rfl (fun j h1 h2=>by
     obtain rfl | rfl | rfl:j=1∨j=2∨j=3:=by omega
     all_goals rfl)
    simpa using this
   have hs1:=HS.out.far (p:=⟨g2,k * 4,none⟩) (fun e=>HNS.out e.symm) (.slice (some ⟨g3,0,none⟩) (y.n+1) c3);have hb1:=HB.out.setCell (p:=⟨g2,k * 4,none⟩) HGE2.out (.slice (some ⟨g3,0,none⟩) (y.n+1) c3);have hw1:=((FrS.refl g2 w1).set (i:=k * 4) (.slice (some ⟨g3,0,none⟩) (y.n+1) c3)).rd HW3.out (fun ad e=>by cases e;exact HN3.out.2);clear HRW HS HB HW3;have HRW:=hid hr1;have HS:=hid hs1;have HB:=hid hb1;have HW3:=hid hw1;clear hr1 hs1 hb1 hw1;revert HRW HS HB HW3;generalize World.setCell w1 ⟨g2,k * 4,none⟩ (.slice (some ⟨g3,0,none⟩) (y.n+1) c3)=w5;intro HRW HS HB HW3
   have HY1:Hid ((x.SL.set k ⟨some ⟨g3,0,none⟩,y.n+1,c3,y.way++[nth l 1],y.rate,y.lo,y.hi⟩)[k]?=some ⟨some ⟨g3,0,none⟩,y.n+1,c3,y.way++[nth l 1],y.rate,y.lo,y.hi⟩):=hid (by
    rw[List.getElem?_set,if_pos rfl,if_pos (List.getElem?_eq_some_iff.1 HY.out).1])
   have z3:=HRW.out.cell (j:=3) HY1.out rfl;have f3:=HRW.out.frozen (k * 4+3);have hwy:IntKind.i64.wrap (y.hi+1)=y.hi+1:=wi (by have:=HYB.out;omega);dsimp only at z3
   go_upto_region 6 with fail
   clear z3 f3 hwy
   have hr1:RowW (w5.setCell ⟨g2,k * 4+2+1,none⟩ (.int .i64 (y.hi+1))) 179 encS 4 g2 x.sl.n (x.SL.set k ⟨some ⟨g3,0,none⟩,y.n+1,c3,y.way++[nth l 1],y.rate,y.lo,y.hi+1⟩):=by
    have:=HRW.out.put1 encS_len (i:=k) (r:=3) (x':=⟨some ⟨g3,0,none⟩,y.n+1,c3,y.way++[nth l 1],y.rate,y.lo,y.hi+1⟩) (u:=.int .i64 (y.hi+1)) HY1.out (by decide) rfl (fun j h1 h2=>by
     obtain rfl | rfl | rfl:j=0∨j=1∨j=2:=by omega
     all_goals rfl)
    rw[List.set_set] at this;exact this
   have hs1:=HS.out.far (p:=⟨g2,k * 4+2+1,none⟩) (fun e=>HNS.out e.symm) (.int .i64 (y.hi+1));have hb1:=HB.out.setCell (p:=⟨g2,k * 4+2+1,none⟩) HGE2.out (.int .i64 (y.hi+1));have hw1:=((FrS.refl g2 w5).set (i:=k * 4+2+1) (.int .i64 (y.hi+1))).rd HW3.out (fun ad e=>by cases e;exact HN3.out.2);clear HRW HS HB HW3;have HRW:=hid hr1;have HS:=hid hs1;have HB:=hid hb1;have HW3:=hid hw1;clear hr1 hs1 hb1 hw1 HY1;revert HRW HS HB HW3;generalize World.setCell w5 ⟨g2,k * 4+2+1,none⟩ (.int .i64 (y.hi+1))=w6;intro HRW HS HB HW3;have y0:=HS.out.cell 0;have y1:=HS.out.cell 1;have y2:=HS.out.cell 2;have y3:=HS.out.cell 3;have y4:=HS.out.cell 4;simp at y0 y1 y2 y3 y4;have hA1:=HA.out.below HB.out;have hv:=hA1.rows.vrow HOK.out
   have hne2:g2≠s:=by have:=hws.out;have:=HGE2.out;omega
   have hne3:g3≠s:=by have:=hws.out;have:=HGE3.out;omega
   have hwr:SRow s w6 enc1 1 ⟨some ⟨g3,0,none⟩,y.n+1,c3⟩ (y.way++[nth l 1]):=⟨HW3.out,HC3.out,fun ad e=>by cases e;exact hne3⟩
   have hv2:VRow s w6 x.pa ⟨some ⟨g2,0,none⟩,x.sl.n,c2⟩ b.pars (x.SL.set k ⟨some ⟨g3,0,none⟩,y.n+1,c3,y.way++[nth l 1],y.rate,y.lo,y.hi+1⟩):=by
    refine⟨hv.pa,⟨HRW.out.rd,HC2.out,fun ad e=>by cases e;exact hne2⟩,fun i z hz=>?_,fun z hz=>?_⟩
    · rw[List.getElem?_set] at hz
      by_cases hi:k=i
      · rw[if_pos hi] at hz
        split at hz
        · obtain rfl:=Option.some.inj hz;exact hwr
        · cases hz
      · rw[if_neg hi] at hz;exact hv.way i z hz
    · rcases List.mem_or_eq_of_mem_set hz with hz | rfl
      · exact hv.small z hz
      · have:=HYB.out.1
        simp only[List.length_append,List.length_singleton];omega
   have hSLa:∀ G,G<w.heap.size→Away x G→∀(i:Nat) (z:Sli),(x.SL.set k ⟨some ⟨g3,0,none⟩,y.n+1,c3,y.way++[nth l 1],y.rate,y.lo,y.hi+1⟩)[i]?=some z→∀ ad,z.A=some ad→ad.block≠G:=fun G hG h i z hz=>by
    rw[List.getElem?_set] at hz
    by_cases hi:k=i
    · rw[if_pos hi] at hz
      split at hz
      · obtain rfl:=Option.some.inj hz
        intro ad e;cases e;have:=HGE3.out;dsimp only;omega
      · cases hz
    · rw[if_neg hi] at hz;exact h.SL i z hz
   have hc:=valley_m (s0:=b.t0) (s1:=b.t1) (s2:=b.t2) g hA1 hv2 hpn (by have:=HSN.out;dsimp only;unfold maxLen;omega) (B0:=w.heap.size) (fun G hG h=>{ h with sl:=fun ad e=>by cases e;have:=HGE2.out;dsimp only;omega,SL:=hSLa G hG h });rw[map_modify (f:=fun s=>wayTop s (nth l 1)) HY.out rfl,hA1.rows.slc] at hc;have HC:=hid hc;clear hc hA1 hv hv2 hwr hne2 hne3
   go_wp2_with fail
   go_at_call 103;refine HC.out.mono ?_;intro e w8 hm
   have hm:MethN w.heap.size x s g now line more R w e w8:=by rw[HR.out];exact hm.from_ HB.out
   rcases Classical.em (R.2=0) with h0 | h0
   · obtain rfl:=hm.ok h0
     go_wp2_with fail
     go_end0
     exact hm
   · obtain rfl:=hm.bad h0
     go_wp2_with fail
     exact⟨rfl,hm⟩
theorem Rd.at3 {w:World}{A:Option Addr}{n:Nat}{l:List Evd}(h:Rd encE 3 w A n l){i:Nat}(hi:i<n) :
 ∃ b o x,A=some ⟨b,o,none⟩∧b<w.heap.size∧l[i]?=some x∧w.cell? ⟨b,o+i * 3,none⟩=some (.int .i64 x.k)∧w.cell? ⟨b,o+i * 3+1,none⟩=some (.int .i64 x.lo)∧w.cell? ⟨b,o+i * 3+2,none⟩=some (.int .i64 x.hi):=by
 obtain⟨b,o,x,e,hb,hx,hc⟩:=h.at_ hi;exact⟨b,o,x,e,hb,hx,hc 0 _ rfl,hc 1 _ rfl,hc 2 _ rfl⟩
theorem Hear1_c {PA SA:Option Addr}{pn pc sn sc:Nat}{v:Vly}{V:Nat}(x:Evd){w:World}(hV:Blk w V 39 (vA PA pn pc SA sn sc v))(hsn:sn≤10) :
 Calls Tryz.prog 138 #[.agg #[.int .i64 x.k,.int .i64 x.lo,.int .i64 x.hi],.pointer (some ⟨V,0,none⟩)] w fun e w'=>e=.returned (.bool (evOk sn x))∧Below w.heap.size w w':=by
 have hlt:=hV.lt;have c1:=hV.cell 1;simp at c1;have hwsn:IntKind.i64.wrap ((sn:Int) - 1)=(sn:Int) - 1:=wi (by omega);have hR:evOk sn x=(inB x.k 0 ((sn:Int) - 1) && upB x.lo x.hi 12):=rfl;have HIN:=hid (fun W=>within_c x.k 0 ((sn:Int) - 1) W);clear hV;cases hin:inB x.k 0 ((sn:Int) - 1)
 · simp only[hin] at HIN
   rw[hin] at hR;have HR:=hid hR;clear hR hin
   go_enter Tryz.func138,Tryz.ntmps138
   go_wp2_with (go_at_call 139;refine(HIN.out _).mono ?_;rintro e w5 ⟨rfl,rfl⟩)
   go_ret
   exact⟨by rw[HR.out];rfl,(Below.refl _ _).alloc (Nat.le_refl _) _⟩
 · simp only[hin] at HIN
   rw[hin,Bool.true_and] at hR;have HR:=hid hR;clear hR hin
   go_enter Tryz.func138,Tryz.ntmps138
   go_wp2_with (first
    | (go_at_call 139;refine(HIN.out _).mono ?_;rintro e w5 ⟨rfl,rfl⟩)
    | (go_at_call 140;refine(up_c _ _ _ _).mono ?_;rintro e w6 ⟨rfl,hb6⟩))
   go_ret
   exact⟨by rw[HR.out];rfl,((Below.refl _ _).alloc (Nat.le_refl _) _).trans (hb6.mono (by simp))⟩
end Go.Proofs.YtkhcliibilkefaaGreatDoor
namespace Go.Proofs.YtkhcliibilkefaaGreatDoor
open Lib (hid)
open Go.RowKit Go.Proofs
section
variable {p:Evd→Bool}
theorem allEv_1 (x:Evd)(B:Nat)(V:Nat)(w:World)(_hBl:B<w.heap.size)(hB:w.cell? ⟨B,0,none⟩=some (.func (.func 138) #[] #[.pointer (some ⟨V,0,none⟩)]))
 (hp:∀ W:World,Below w.heap.size w W→Calls Tryz.prog 138 #[.agg #[.int .i64 x.k,.int .i64 x.lo,.int .i64 x.hi],.pointer (some ⟨V,0,none⟩)] W fun e w'=>e=.returned (.bool (p x))∧Below W.heap.size W w') :
 Calls Tryz.prog 186 #[.agg #[.int .i64 x.k,.int .i64 x.lo,.int .i64 x.hi],.pointer (some ⟨B,0,none⟩)] w fun e w'=>e=.returned (.bool (!p x))∧Below w.heap.size w w':=by
 have hp':=hp (w.alloc (.cells #[.int .i64 x.k,.int .i64 x.lo,.int .i64 x.hi] 186)) ((Below.refl w.heap.size w).alloc (Nat.le_refl _) (.cells #[.int .i64 x.k,.int .i64 x.lo,.int .i64 x.hi] 186));have HP:=hid hp';clear hp hp'
 go_enter Tryz.func186,Tryz.ntmps186
 go_wp2_with (go_at_call 138;refine(HP.out).mono ?_;rintro e w' ⟨rfl,hb⟩)
 go_ret
 exact⟨rfl,((Below.refl _ _).alloc (Nat.le_refl _) _).trans (hb.mono (by simp))⟩
theorem idxEv_c {l:List (Evd)}{A:Option Addr}{n c:Nat}{B:Nat}(V:Nat)(w:World)(h:Rd encE 3 w A n l)(hn:n≤maxLen)(hBl:B<w.heap.size)
 (hB:w.cell? ⟨B,0,none⟩=some (.func (.func 138) #[] #[.pointer (some ⟨V,0,none⟩)]))
 (hp:∀(i:Nat) (x:Evd) (W:World),l[i]?=some x→Below w.heap.size w W→Calls Tryz.prog 138 #[.agg #[.int .i64 x.k,.int .i64 x.lo,.int .i64 x.hi],.pointer (some ⟨V,0,none⟩)] W fun e w'=>e=.returned (.bool (p x))∧Below W.heap.size W w') :
 Calls Tryz.prog 218 #[.slice A n c,.func (.func 186) #[] #[.pointer (some ⟨B,0,none⟩)]] w
  fun e w'=>(∃ r:Int,e=.returned (.int .i64 r)∧(!decide (r≥0))=allB p l)∧Below w.heap.size w w':=by
 unfold maxLen at hn;have HP:=hid hp;clear hp
 go_enter Tryz.func218,Tryz.ntmps218
 go_wp2_with fail
 go_loopw [5,8] (fun _ i wr=>∃ k:Nat,k≤n∧i=.int .i64 k∧Below w.heap.size w wr∧∀(j:Nat) (x:Evd),j<k→l[j]?=some x→p x=true) (fun _ i _=>n - (intOf i).toNat)
 case atStart=>exact⟨0,Nat.zero_le _,rfl,Below.refl _ _,fun j x hj=>absurd hj (by omega)⟩
 case round =>
  obtain⟨k,hk,rfl,hb,hall⟩:=hrel;have HA:=hid hall;clear hall
  by_cases hlt:k<n
  · obtain⟨b,o,x,rfl,hbl,hx,h0,h1,h2⟩:=(h.below hb).at3 hlt
    have hx1:=fun W (hW:Below wr.heap.size wr W)=>HP.out k x W hx (hb.trans (hW.mono hb.size));have HX1:=hid hx1;clear hx1;have HX:=hid hx;clear hx;have hB':=(hb.cell (p:=⟨B,0,none⟩) hBl).trans hB;have hBl':B<wr.heap.size:=Nat.lt_of_lt_of_le hBl hb.size;cases hm:p x
    all_goals
     have HM:=hid hm;clear hm
     go_wp2_with (go_at_call 186;refine(allEv_1 _ _ V _ hBl' hB' HX1.out).mono ?_;rintro e w' ⟨rfl,hb'⟩;simp only[HM.out])
    · go_ret
      exact⟨⟨k,rfl,by rw[(allB_not (p:=p) (l:=l)).2 ⟨k,x,HX.out,HM.out⟩];simp⟩,hb.trans (hb'.mono hb.size)⟩
    · go_roundw
      case rel=>exact⟨k+1,by omega,by go_num,hb.trans (hb'.mono hb.size),fun j y hj hy=>by
       rcases Nat.lt_or_ge j k with hjk | hjk
       · exact HA.out j y hjk hy
       · obtain rfl:j=k:=by omega
         rw[HX.out] at hy;cases hy;exact HM.out⟩
      case measure=>simp[intOf];omega
  · go_wp2
    go_ret
    refine⟨⟨-1,rfl,?_⟩,hb⟩;rw[(allB_iff (p:=p) (l:=l)).2 fun i x hx=>HA.out i x (by have:=(List.getElem?_eq_some_iff.1 hx).1;have:=h.len;omega) hx];simp
theorem containsEv_c {l:List (Evd)}{A:Option Addr}{n c:Nat}{B:Nat}(V:Nat)(w:World)(h:Rd encE 3 w A n l)(hn:n≤maxLen)(hBl:B<w.heap.size)
 (hB:w.cell? ⟨B,0,none⟩=some (.func (.func 138) #[] #[.pointer (some ⟨V,0,none⟩)]))
 (hp:∀(i:Nat) (x:Evd) (W:World),l[i]?=some x→Below w.heap.size w W→Calls Tryz.prog 138 #[.agg #[.int .i64 x.k,.int .i64 x.lo,.int .i64 x.hi],.pointer (some ⟨V,0,none⟩)] W fun e w'=>e=.returned (.bool (p x))∧Below W.heap.size W w') :
 Calls Tryz.prog 185 #[.slice A n c,.func (.func 186) #[] #[.pointer (some ⟨B,0,none⟩)]] w
  fun e w'=>e=.returned (.bool (!allB p l))∧Below w.heap.size w w':=by
 have hc:=idxEv_c (c:=c) V w h hn hBl hB hp;have HC:=hid hc;clear hc hp
 go_enter Tryz.func185,Tryz.ntmps185
 go_wp2_with (go_at_call 218;refine(HC.out).mono ?_;rintro e w' ⟨⟨r,rfl,hr⟩,hb⟩;have HR:=hid hr;clear hr)
 go_ret
 exact⟨ret_bool (by rw[← HR.out];simp),hb⟩
theorem allEv_c {l:List (Evd)}{A:Option Addr}{n c:Nat}(V:Nat)(w:World)(h:Rd encE 3 w A n l)(hn:n≤maxLen)
 (hp:∀(i:Nat) (x:Evd) (W:World),l[i]?=some x→Below w.heap.size w W→Calls Tryz.prog 138 #[.agg #[.int .i64 x.k,.int .i64 x.lo,.int .i64 x.hi],.pointer (some ⟨V,0,none⟩)] W fun e w'=>e=.returned (.bool (p x))∧Below W.heap.size W w') :
 Calls Tryz.prog 141 #[.slice A n c,.func (.func 138) #[] #[.pointer (some ⟨V,0,none⟩)]] w
  fun e w'=>e=.returned (.bool (allB p l))∧Below w.heap.size w w':=by
 have hbx:=(Below.refl w.heap.size w).alloc (Nat.le_refl _) (.cells #[.func (.func 138) #[] #[.pointer (some ⟨V,0,none⟩)]] 226);have hc:=containsEv_c (c:=c) (B:=w.heap.size) V (w.alloc (.cells #[.func (.func 138) #[] #[.pointer (some ⟨V,0,none⟩)]] 226)) (h.mono hbx) hn (by simp) (by simp) (fun i x W hx hW=>hp i x W hx (hbx.trans (hW.mono (by simp))));have HC:=hid hc;clear hc hp
 go_enter Tryz.func141,Tryz.ntmps141
 go_wp2_with (go_at_call 185;refine(HC.out).mono ?_;rintro e w' ⟨rfl,hb⟩)
 go_ret
 exact⟨ret_bool (by simp),((Below.refl _ _).alloc (Nat.le_refl _) _).trans (hb.mono (by simp))⟩
end
end Go.Proofs.YtkhcliibilkefaaGreatDoor
namespace Go.Proofs.YtkhcliibilkefaaGreatDoor
open Lib (hid)
open Go.RowKit
theorem loopB_lt (gs ps:List Int)(B:Int)(N:Nat):∀(k i:Nat) (g c:Int) (l:List Int) (st:Bst),i+k≤N→(∀ x∈l,x<(N:Int))→(∀ x∈st.set,x<(N:Int))→∀ x∈(loopB gs ps B k i g c l st).set,x<(N:Int)
 | 0,_,_,_,_,_,_,_,h=>h
 | k+1,i,g,c,l,st,hi,hl,h=>by
  have hl2:∀ x∈l++[(i:Int)],x<(N:Int):=fun x hx=>by
   rcases List.mem_append.1 hx with hx | hx
   · exact hl x hx
   · obtain rfl:=List.mem_singleton.1 hx;omega
  have h2:∀ x∈(updB (g+gAt gs i) (c+gAt ps i) (l++[(i:Int)]) st).set,x<(N:Int):=by
   unfold updB;split
   · exact hl2
   · exact h
  rw[loopB]
  split
  · exact loopB_lt gs ps B N k _ _ _ _ _ (by omega) hl h
  · exact loopB_lt gs ps B N k _ _ _ _ _ (by omega) hl (loopB_lt gs ps B N k _ _ _ _ _ (by omega) hl2 h2)
theorem bestB_lt (gs ps:List Int)(B:Int):∀ x∈(bestB gs ps B).set,x<(gs.length:Int):=by
 unfold bestB tryB
 split
 · simp
 · refine loopB_lt gs ps B gs.length _ _ _ _ _ _ (by omega) (by simp) ?_
   unfold updB;split<;>simp
theorem count_ge {l:List Int}{x a:Int}(h:∀ y∈l,a<y)(ha:¬ a<x):l.countP (fun y=>decide (y<x))=0:=by
 rw[List.countP_eq_zero];intro y hy;have:=h y hy;simp;omega
theorem takeW_eq {x:Int}:∀ {l:List Int},Asc l→l.takeWhile (fun y=>decide (y<x))=l.take (l.countP fun y=>decide (y<x))
 | [],_=>rfl
 | a::l,h=>by
  have h1:=List.pairwise_cons.1 h
  by_cases ha:a<x
  · rw[List.takeWhile_cons,List.countP_cons]
    simp only[ha,decide_true,if_true];rw[List.take_succ_cons,takeW_eq h1.2]
  · rw[List.takeWhile_cons,List.countP_cons,count_ge h1.1 ha]
    simp[ha]
theorem dropW_eq {x:Int}{l:List Int}(h:Asc l):l.dropWhile (fun y=>decide (y<x))=l.drop (l.countP fun y=>decide (y<x)):=by
 have e1:=List.takeWhile_append_dropWhile (p:=fun y:Int=>decide (y<x)) (l:=l);have e2:=List.take_append_drop (l.countP fun y=>decide (y<x)) l;rw[takeW_eq h] at e1;exact List.append_cancel_left (e1.trans e2.symm)
theorem insAt_in {l:List Int}{x:Int}(hx:x∈l):insAt l x=l:=by
 unfold insAt;rw[if_pos hx,List.append_nil,List.takeWhile_append_dropWhile]
theorem insAt_new {l:List Int}{x:Int}(h:Asc l)(hx:x ∉ l):insAt l x=l.take (l.countP fun y=>decide (y<x))++x::l.drop (l.countP fun y=>decide (y<x)):=by
 unfold insAt;rw[if_neg hx,takeW_eq h,dropW_eq h,List.append_assoc];rfl
theorem buySet_succ {b:Sess}{S:List Int}{j:Nat}{i:Int}(h:S[j]?=some i):buySet b (S.take (j+1))=buyOne (buySet b (S.take j)) i:=by
 unfold buySet;rw[List.take_add_one,h,Option.toList_some,List.foldl_append];rfl
theorem bought_len {b:Sess}(h:SOk b):b.bought.length≤12:=by
 have h1:=nodup_len b.pars.length b.bought h.bought (h.asc.imp fun h e=>by omega);have:=h.parN;omega
end Go.Proofs.YtkhcliibilkefaaGreatDoor
namespace Go.Proofs.YtkhcliibilkefaaGreatDoor
open Lib (hid)
open Go.RowKit Go.Proofs
attribute [local go_sem ↓] Go.wp_at_zero Go.wp_at_succ
end Go.Proofs.YtkhcliibilkefaaGreatDoor
namespace Go.Proofs.YtkhcliibilkefaaGreatDoor
open Lib (hid)
end Go.Proofs.YtkhcliibilkefaaGreatDoor
