/- METHOD: evidence. -/
import Derived.Test.YtkhcliibilkefaaGreatDoorZHear
import Derived.Shelf.Spec.SlicesInsert
import Derived.Shelf.Spec.SlicesInsertGrow
set_option linter.unusedVariables false
set_option linter.unusedSimpArgs false
set_option maxRecDepth 100000
set_option maxHeartbeats 8000000
namespace Go.Proofs.YtkhcliibilkefaaGreatDoor
open Lib (hid)
open Go.RowKit Go.Proofs
attribute [local go_sem ↓] Go.wp_at_zero Go.wp_at_succ
theorem leftsL_can (v:Vly)(l:List Evd):leftsL v.can l=leftsL v l:=by
 apply List.ext_getElem?
 intro i;simp only[leftsL,Vly.can,List.getElem?_mapIdx,List.getElem?_map];cases v.sls[i]?<;>rfl
theorem hearE_can (v:Vly)(l:List Evd):hearE v.can l=hearE v l:=by
 unfold hearE;rw[leftsL_can];simp only[Vly.can,List.length_map]
def evT (SL:List Sli)(L:List (Int×Int))(k:Nat):List Sli:=SL.mapIdx fun i y=>if i<k then { y with lo:=(L.getD i (0,0)).1,hi:=(L.getD i (0,0)).2 } else y
theorem evT_get (SL:List Sli)(L:List (Int×Int))(k i:Nat):(evT SL L k)[i]?=SL[i]?.map fun y=>if i<k then { y with lo:=(L.getD i (0,0)).1,hi:=(L.getD i (0,0)).2 } else y:=by
 unfold evT;rw[List.getElem?_mapIdx]
theorem evT_len (SL:List Sli)(L:List (Int×Int))(k:Nat):(evT SL L k).length=SL.length:=by simp[evT]
theorem evT_zero (SL:List Sli)(L:List (Int×Int)):evT SL L 0=SL:=by
 apply List.ext_getElem?;intro i;rw[evT_get];cases SL[i]?<;>simp
theorem evT_at {SL:List Sli}{L:List (Int×Int)}{k:Nat}{y:Sli}(h:SL[k]?=some y):(evT SL L k)[k]?=some y:=by rw[evT_get,h];simp
theorem evT_succ {SL:List Sli}{L:List (Int×Int)}{k:Nat}{y:Sli}{r:Int×Int}(h:SL[k]?=some y)(hr:L[k]?=some r):evT SL L (k+1)=(evT SL L k).set k { y with lo:=r.1,hi:=r.2 }:=by
 have hg:L.getD k (0,0)=r:=by rw[List.getD_eq_getElem?_getD,hr];rfl
 apply List.ext_getElem?
 intro i;rw[evT_get,List.getElem?_set,evT_get,evT_len];have hk:=(List.getElem?_eq_some_iff.1 h).1
 by_cases hi:k=i
 · subst hi;rw[if_pos rfl,if_pos hk,h];simp only[Option.map_some,if_pos (Nat.lt_succ_self k),hg]
 · rw[if_neg hi]
   by_cases h1:i<k
   · simp[h1,Nat.lt_succ_of_lt h1]
   · have h2:¬ i<k+1:=by omega
     simp[h1,h2]
theorem evT_all {SL:List Sli}{L:List (Int×Int)}(h:L.length=SL.length):(evT SL L SL.length).map pslOf=List.zipWith reachTo (SL.map pslOf) L:=by
 apply List.ext_getElem?
 intro i;rw[List.getElem?_map,evT_get,List.getElem?_zipWith,List.getElem?_map]
 cases hy:SL[i]? with
 | none=>simp
 | some y =>
  have hi:=(List.getElem?_eq_some_iff.1 hy).1;have hr:L[i]?=some (L[i]'(by omega)):=List.getElem?_eq_getElem (by omega);simp only[Option.map_some,if_pos hi,hr];rw[List.getD_eq_getElem?_getD,hr]
  rfl
theorem evT_keep {SL:List Sli}{L:List (Int×Int)}{k i:Nat}{y:Sli}(h:(evT SL L k)[i]?=some y):∃ z,SL[i]?=some z∧y.A=z.A∧y.n=z.n∧y.c=z.c∧y.way=z.way:=by
 rw[evT_get] at h;obtain⟨z,hz,rfl⟩:=Option.map_eq_some_iff.1 h;refine⟨z,hz,?_⟩
 split<;>exact⟨rfl,rfl,rfl,rfl⟩
theorem hear1_c {v:Vly}{ev:Evd}{PA SA LA:Option Addr}{pn pc sn sc lc:Nat}{w:World}(h:RdV w PA pn SA sn v)(hok:VOk v)(hL:Rd encE 3 w LA 1 [ev]) :
 Calls Tryz.prog 107 #[.agg #[.slice PA pn pc,.slice SA sn sc,.int .i64 v.s0,.int .i64 v.s1,.int .i64 v.s2],.slice LA 1 lc] w
  fun e w'=>∃ A n c,e=.returned (.tuple #[.slice A n c,.int .i64 (hearE v [ev])])∧(hearE v [ev]=0→n=sn∧Rd enc2 2 w' A sn (leftsL v [ev])∧∀ ad,A=some ad→w.heap.size≤ad.block)∧Below w.heap.size w w':=by
 have hls:=h.sls.len
 cases he:allB (evOk sn) [ev] with
 | false =>
  have h2:hearE v [ev]=2:=hearE_odd (by simp) (by rw[hls];exact he);refine(Hear_arg h hok hL (by unfold maxLen;omega) (.inr he)).mono ?_;rintro e w' ⟨rfl,hb⟩;exact⟨none,0,0,by rw[h2];rfl,fun h0=>(by rw[h2] at h0;cases h0),hb⟩
 | true =>
  refine(Hear_c h hok hL (by omega) he).mono ?_;rintro e w' ⟨⟨A,c,hu,rfl,hr,hn⟩ | ⟨hu,rfl⟩,hb⟩
  · have h2:hearE v [ev]=0:=hearE_ok (by simp) (by rw[hls];exact he) hu
    exact⟨A,sn,c,by rw[h2],fun _=>⟨rfl,hr,hn⟩,hb⟩
  · have h2:hearE v [ev]=9:=hearE_fail (by simp) (by rw[hls];exact he) hu
    exact⟨none,0,0,by rw[h2],fun h0=>(by rw[h2] at h0;cases h0),hb⟩
theorem evidence_m {s:Nat}{x:SAd}{b:Sess}{now line more:Int}{g c:Nat}{l:List Int}{w:World}(h:SAt w s x b now line more)(hok:SOk b)(hl:NumsAt w s g 3 l) :
 Calls Tryz.prog 82 #[.pointer (some ⟨s,0,none⟩),.slice (some ⟨g,0,none⟩) 3 c] w fun e w'=>MethN w.heap.size x s g now line more (sEvid b l) w e w':=by
 have HA:=hid h;have HB:=hid (Below.refl w.heap.size w);have HL:=hid hl;have HOK:=hid hok;unfold sEvid
 by_cases h0:b.pars.length=0
 · rw[if_pos h0]
   have HS:=hid (settled_f h h0);clear h hl hok h0
   go_enter Tryz.func82,Tryz.ntmps82
   go_wp2_with fail
   go_at_call 104;refine HS.out.mono ?_;rintro e w1 ⟨rfl,hb1⟩
   go_wp2_with fail
   exact⟨rfl,MethN.no (E:=8) (by decide) (HA.out.below hb1) (FrS.of_below hb1)⟩
 · rw[if_neg h0]
   have HS:=hid (settled_t h h0)
   have hvok:VOk ⟨b.pars,x.SL,b.t0,b.t1,b.t2⟩:=by
    rcases hok.val with h4 | h4
    · exact absurd h4.1 h0
    · rw[Sess.vly_can h.rows.slc,VOk.can] at h4;exact h4
   have hsn:x.sl.n≤10:=by have h1:=h.rows.sl.len;have:=hvok.sn;dsimp only at this;omega
   have HVK:=hid hvok;have HSN:=hid hsn;have HSL:=hid h.rows.sl.len;have hws:=hid h.blk.lt;rw[Sess.vly_can h.rows.slc,hearE_can,leftsL_can];obtain⟨H,hH⟩:∃ H,H=hearE ⟨b.pars,x.SL,b.t0,b.t1,b.t2⟩ [⟨nth l 0,nth l 1,nth l 2⟩]:=⟨_,rfl⟩;obtain⟨LF,hLF⟩:∃ LF,LF=leftsL ⟨b.pars,x.SL,b.t0,b.t1,b.t2⟩ [⟨nth l 0,nth l 1,nth l 2⟩]:=⟨_,rfl⟩
   have hLn:LF.length=x.SL.length:=by rw[hLF,leftsL_len]
   rw[← hH,← hLF]
   obtain⟨R,hR⟩:∃ R,R=if H≠0 then refuse b H else done { b with sls:=List.zipWith reachTo b.sls LF }:=⟨_,rfl⟩
   rw[← hR];have HR:=hid hR;have HH:=hid hH;have HLF:=hid hLF;have HLN:=hid hLn;clear h hl hok h0 hR hvok hsn hH hLF hLn
   go_enter Tryz.func82,Tryz.ntmps82
   go_wp2_with fail
   go_at_call 104;refine(HS.out).mono ?_;rintro e w1 ⟨rfl,hb9⟩;replace HB:=hdT HB hb9;clear hb9 ;clear HS;have hA1:=(HA.out.below HB.out).blk;have d0:=hA1.cell 14;have d1:=hA1.cell 15;have d2:=hA1.cell 16;have d3:=hA1.cell 17;have d4:=hA1.cell 18;simp[sessV] at d0 d1 d2 d3 d4;have hL1:=HL.out.below HB.out;have n0:=hL1.cell (i:=0) (by decide);have n1:=hL1.cell (i:=1) (by decide);have n2:=hL1.cell (i:=2) (by decide);clear hA1 hL1
   go_wp2_with fail
   refine wp_region_till [] (fun U=>U.cell? ⟨s,14,none⟩=some (.slice x.pa.A x.pa.n x.pa.c)∧U.cell? ⟨s,15,none⟩=some (.slice x.sl.A x.sl.n x.sl.c)∧U.cell? ⟨s,16,none⟩=some (.int .i64 b.t0)∧U.cell? ⟨s,17,none⟩=some (.int .i64 b.t1)∧U.cell? ⟨s,18,none⟩=some (.int .i64 b.t2)∧U.cell? ⟨g,0,none⟩=some (.int .i64 (nth l 0))∧U.cell? ⟨g,1,none⟩=some (.int .i64 (nth l 1))∧U.cell? ⟨g,2,none⟩=some (.int .i64 (nth l 2))) (by kernel_rfl) (by exact⟨d0,d1,d2,d3,d4,n0,n1,n2⟩) (fun hHeld=>?_);have hb9:=(Below.refl w1.heap.size w1).drew;replace HB:=hdT HB hb9;clear hb9;revert hHeld HB;generalize w1.drew=w0;intro hHeld HB;refine tk 0 0 ?_;refine tk 0 1 ?_;refine tk 0 2 ?_;refine tk 0 3 ?_;refine tk 0 4 ?_;refine tk 0 5 ?_;refine tk 0 6 ?_;refine tk 0 7 ?_;refine tk 0 8 ?_;refine tk 0 9 ?_;refine tk 0 10 ?_;refine tk 0 11 ?_;refine tk 0 12 ?_;refine tk 0 13 ?_;refine tk 0 14 ?_;refine tk 0 15 ?_;refine ar [16] (ac (fun K hK=>?_) an);go_simp;have hb9:=(Below.refl w0.heap.size w0).alloc (Nat.le_refl _) (.cells #[.int .i64 (nth l 0),.int .i64 (nth l 1),.int .i64 (nth l 2)] 186);have hn:=Blk.new w0 186 #[.int .i64 (nth l 0),.int .i64 (nth l 1),.int .i64 (nth l 2)];replace HB:=hdT HB hb9;have HE:=hid hn;clear hb9 hn;(try clear hHeld)
   refine hK.out _ _ (by(try dsimp only);exact⟨by simpa[sessV] using (HA.out.below HB.out).blk.cell 14,by simpa[sessV] using (HA.out.below HB.out).blk.cell 15,by simpa[sessV] using (HA.out.below HB.out).blk.cell 16,by simpa[sessV] using (HA.out.below HB.out).blk.cell 17,by simpa[sessV] using (HA.out.below HB.out).blk.cell 18,(HL.out.below HB.out).cell (by decide),(HL.out.below HB.out).cell (by decide),(HL.out.below HB.out).cell (by decide)⟩) (fun hHeld=>?_);clear hK K;refine pt ?_;revert hHeld HB HE;generalize hgA:w0.heap.size=gE;generalize (World.alloc w0 (.cells #[.int .i64 (nth l 0),.int .i64 (nth l 1),.int .i64 (nth l 2)] 186))=w0;intro HB HE hHeld;clear hgA;refine ar [17] (ac (fun K hK=>?_) an);go_simp;have hc:=hear1_c (v:=⟨b.pars,x.SL,b.t0,b.t1,b.t2⟩) (ev:=⟨nth l 0,nth l 1,nth l 2⟩) (pc:=x.pa.c) (sc:=x.sl.c) (lc:=1) (((HA.out.below HB.out).rows.vrow HOK.out).rdv b.t0 b.t1 b.t2) HVK.out (Rd.of_blkE (k:=3) encE_len HE.out (l:=[(⟨nth l 0,nth l 1,nth l 2⟩:Evd)]) rfl rfl);rw[← HH.out,← HLF.out] at hc;have HC:=hid hc;clear hc;go_at_call 107;refine(HC.out).mono ?_;rintro e w1 ⟨AL,nL,cL,rfl,hhr,hb9⟩;have HHR:=hid (fun h0:H=0=>(hhr h0).2.2);have HNL:=hid (fun h0:H=0=>(hhr h0).1);have hrl:H=0→Rd enc2 2 w1 AL x.sl.n LF:=fun h0=>(hhr h0).2.1;have HGB:=hid HB.out.size;clear hhr;replace HB:=hdT HB hb9;replace HE:=hdB HE hb9;have HRL:=hid hrl;clear hb9 hrl;clear HC;(try go_wp2_with fail);(try clear hHeld)
   refine hK.out _ _ (by(try dsimp only);exact⟨by simpa[sessV] using (HA.out.below HB.out).blk.cell 14,by simpa[sessV] using (HA.out.below HB.out).blk.cell 15,by simpa[sessV] using (HA.out.below HB.out).blk.cell 16,by simpa[sessV] using (HA.out.below HB.out).blk.cell 17,by simpa[sessV] using (HA.out.below HB.out).blk.cell 18,(HL.out.below HB.out).cell (by decide),(HL.out.below HB.out).cell (by decide),(HL.out.below HB.out).cell (by decide)⟩) (fun hHeld=>?_);clear hK K;refine pt ?_;refine tk 0 18 ?_;refine tk 0 19 ?_;refine tk 0 20 ?_;refine tk 0 21 ?_;refine tk 0 22 ?_;refine td ?_;(try clear hHeld)
   rcases Classical.em (H=0) with h0 | h0
   · skip
     have hrl:=HRL.out h0;have hnl:=HHR.out h0;obtain rfl:=HNL.out h0;clear HRL HHR HNL d0 d1 d2 d3 d4 n0 n1 n2;have HRL:=hid hrl;have HHR:=hid (fun ad e=>Nat.le_trans HGB.out (hnl ad e));clear hrl hnl HE;have e:=HR.out;rw[if_neg (fun h1=>h1 h0)] at e;have HR2:=hid e;clear e HR HH;subst h0
     go_wp2_with fail
     go_at_call 93;refine(must_t _).mono ?_;rintro e w2 ⟨rfl,hb9⟩;replace HB:=hdT HB hb9;replace HRL:=hid (HRL.out.below hb9);clear hb9 ;have d15:=(HA.out.below HB.out).blk.cell 15;simp[sessV] at d15
     go_wp2_with fail
     go_at_call 106;refine((cloneSli_c (c:=x.sl.c) (HA.out.below HB.out).rows.sl.rd (by have:=HSN.out;omega))).mono ?_;rintro e w3 ⟨v,rfl,hown,hb9⟩;have HSZ:=hid HB.out.size;have HLB:=hid (show 0<x.sl.n→∀ ad,AL=some ad→ad.block<w2.heap.size from fun h0 ad e=>by(obtain⟨b0,o0,e0,hlt,_⟩:=HRL.out.2 h0;rw[e] at e0;cases e0;exact hlt));replace HB:=hdT HB hb9;replace HRL:=hid (HRL.out.below hb9);clear hb9 ;clear d15
     rcases Nat.eq_zero_or_pos x.sl.n with hz | hz
     · skip
       obtain⟨A2,c2,rfl,hnr⟩:=NewR.of_own encS_len hown HSL.out;have HNR:=hid hnr;have hs0:x.SL=[]:=List.length_eq_zero_iff.1 (by rw[HSL.out,hz]);have hl0:LF=[]:=List.length_eq_zero_iff.1 (by rw[HLN.out,hs0];rfl)
       have hb0:b.sls=[]:=by rw[←(HA.out.rows.slc),hs0];rfl
       have HEQ:=hid (And.intro hs0 (And.intro hl0 (And.intro hb0 hz)));rw[hz];clear hown hnr hs0 hl0 hb0 hz;have hA1:=(HA.out.below HB.out).blk;have d15:=hA1.cell 15;have f15:=hA1.frozen 15;simp[sessV] at d15;clear hA1
       go_wp2_with fail
       go_loopw [47] (fun i wr=>i=.int .i64 0∧wr=w3.setCell ⟨s,15,none⟩ (.slice A2 0 c2)) (fun _ _=>0)
       case atStart=>exact⟨rfl,rfl⟩
       case round =>
        obtain⟨rfl,rfl⟩:=hrel;clear d15 f15
        go_wp2_with fail
        go_end0
        rw[HR2.out];obtain⟨hs0,hl0,hb0,hz⟩:=HEQ.out;have hf:FrS s w (w3.setCell ⟨s,15,none⟩ (.slice A2 0 c2)):=(FrS.of_below HB.out).set _;have hr:=HA.out.rows.fr hf;exact MethN.good (x:={ x with sl:=⟨A2,0,c2⟩,SL:=[] }) ⟨by simpa[sessV] using (HA.out.below HB.out).blk.set_ 15 (.slice A2 0 c2),⟨hr.co,hr.col,hr.cbed,hr.li,hr.ce,hr.da,hr.le,hr.pa,⟨Rd.nil _ _ _ _,Nat.zero_le _,fun ad e=>by have:=HNR.out.new ad e;have:=hws.out;have:=HSZ.out;omega⟩,by rw[hb0];rfl,fun i y hy=>by simp at hy,hr.bo,hr.rd⟩⟩ hf (fun G hG h=>{ h with sl:=fun ad e=>by have:=HNR.out.new ad e;have:=HSZ.out;omega,SL:=fun i y hy=>by simp at hy })
     · skip
       obtain⟨g2,c2,rfl,hg2,hc2,hrw⟩:=RowW.of_own encS_len (by decide) hown HSL.out hz
       have hfar:∀ ad,AL=some ad→ad.block≠g2:=fun ad e=>by have:=HLB.out hz ad e;omega
       have hge2:w.heap.size≤g2:=by have:=HSZ.out;omega
       have hbw:=HB.out;have HRW:=hid hrw;have HC2:=hid hc2;have HGE2:=hid hge2;have HFA:=hid hfar;have HZ:=hid hz
       have hne2:g2≠s:=by have:=hws.out;omega
       have HNE2:=hid hne2;have hA1:=(HA.out.below HB.out).blk;have d15:=hA1.cell 15;have f15:=hA1.frozen 15;simp[sessV] at d15;clear hA1 hown hg2 hc2 hrw hfar hge2 hbw hz hne2
       go_wp2_with fail
       clear d15 f15;have hA1:=(HA.out.below HB.out).blk
       have hK:Blk (w3.setCell ⟨s,15,none⟩ (.slice (some ⟨g2,0,none⟩) x.sl.n c2)) s 75 (sessV { x with sl:=⟨some ⟨g2,0,none⟩,x.sl.n,c2⟩ } b now line more):=by simpa[sessV] using hA1.set_ 15 (.slice (some ⟨g2,0,none⟩) x.sl.n c2)
       have HK0:=hid hK;clear hA1 hK
       go_loopw [47] (fun i wr=>∃ k:Nat,k≤x.sl.n∧i=.int .i64 k∧FrS s w wr∧Blk wr s 75 (sessV { x with sl:=⟨some ⟨g2,0,none⟩,x.sl.n,c2⟩ } b now line more)∧RowW wr 179 encS 4 g2 x.sl.n (evT x.SL LF k)∧Rd enc2 2 wr AL x.sl.n LF) (fun i _=>x.sl.n - (intOf i).toNat)
       case atStart =>
        exact⟨0,Nat.zero_le _,rfl,(FrS.of_below HB.out).set _,HK0.out,by rw[evT_zero];exact HRW.out.fr ((FrS.refl s _).set _) HNE2.out,((FrS.refl s _).set _).rd HRL.out fun ad e=>by have:=HHR.out ad e;have:=hws.out;omega⟩
       case round =>
        obtain⟨k,hk,rfl,hf,hkb,hrw,hrl⟩:=hrel;clear HRL HRW HK0 HB;have HF:=hid hf;have HK:=hid hkb;have HRW:=hid hrw;have HRL:=hid hrl
        by_cases hlt:k<x.sl.n
        · obtain⟨b0,o0,r,rfl,hb0,hr,hcel⟩:=hrl.at_ hlt
          have q0:=hcel 0 _ rfl;have q1:=hcel 1 _ rfl;simp only[Nat.add_zero] at q0;have HLR:=hid hr;obtain⟨y,hy⟩:∃ y,x.SL[k]?=some y:=⟨_,List.getElem?_eq_getElem (by have:=HSL.out;omega)⟩;have HY:=hid hy;have HFA0:=hid (HFA.out _ rfl)
          have hi1:(k:Int)<(x.sl.n:Int):=by omega
          have hi0:(0:Int)≤(k:Int):=by omega
          have HW:=hid (Nat.le_of_lt hws.out);clear hcel hr hy hf hkb hrw hrl hb0
          go_upto_region 7 with fail
          have hb9:=(Below.refl wr.heap.size wr).alloc (Nat.le_refl _) (.cells #[.int .i64 r.1,.int .i64 r.2] 177);have hn:=Blk.new wr 177 #[.int .i64 r.1,.int .i64 r.2];have HTG:=hid (HF.out.size);have HST:=hid (HK.out.lt);have HGT:=hid (HRW.out.lt);replace HF:=hid (HF.out.trans (Fr.of_below hb9 _));replace HK:=hdB HK hb9;replace HRW:=hid (HRW.out.below hb9);replace HRL:=hid (HRL.out.below hb9);have HT:=hid hn;clear hb9 hn;revert HTG HST HGT HF HK HRW HRL HT;generalize hgT:wr.heap.size=T;generalize (World.alloc wr (.cells #[.int .i64 r.1,.int .i64 r.2] 177))=w5;intro HTG HST HGT HF HK HRW HRL HT;clear hgT;clear q0 q1;have t0:=HT.out.cell 0;have t1:=HT.out.cell 1;have d15:=HK.out.cell 15;simp[sessV] at t0 t1 d15;refine wp_region_till [10] (fun U=>U.cell? ⟨s,15,none⟩=some (.slice (some ⟨g2,0,none⟩) x.sl.n c2)∧U.cell? ⟨T,0,none⟩=some (.int .i64 r.1)∧U.cell? ⟨T,1,none⟩=some (.int .i64 r.2)) (by kernel_rfl) (by exact⟨d15,t0,t1⟩) (fun hHeld=>?_);have hb9:=(Below.refl w5.heap.size w5).drew;replace HF:=hid (HF.out.trans (Fr.of_below hb9 _));replace HK:=hdB HK hb9;replace HRW:=hid (HRW.out.below hb9);replace HRL:=hid (HRL.out.below hb9);replace HT:=hdB HT hb9;clear hb9;revert hHeld HF HK HRW HRL HT;generalize w5.drew=w0;intro hHeld HF HK HRW HRL HT;refine tk 0 0 ?_;refine tk 0 1 ?_;refine tk 0 2 ?_;refine tk 0 3 ?_;refine tk 0 4 ?_;refine tk 0 5 ?_;refine tk 0 6 ?_;refine tk 0 7 ?_;refine tk 1 8 ?_;refine tk 0 9 ?_;refine ar [10] (al (fun K hK=>?_) an)
          have z2:=HRW.out.cell (j:=2) (evT_at HY.out) rfl;have z3:=HRW.out.cell (j:=3) (evT_at HY.out) rfl;have f2:=HRW.out.frozen (k * 4+2);have f3:=HRW.out.frozen (k * 4+3);go_simp;(try clear hHeld);refine hK.out _ _ ?_;clear hK K;refine pt ?_;refine td ?_;(try clear hHeld);clear z2 z3 f2 f3
          have hlt4:k<(evT x.SL LF k).length:=by rw[evT_len];exact(List.getElem?_eq_some_iff.1 HY.out).1
          have r1:=HRW.out.put1 encS_len (i:=k) (r:=2) (x':=⟨y.A,y.n,y.c,y.way,y.rate,r.1,y.hi⟩) (u:=.int .i64 r.1) (evT_at HY.out) (by decide) rfl (fun j h1 h2=>by
           obtain rfl | rfl | rfl:j=0∨j=1∨j=3:=by omega
           all_goals rfl)
          have r2:=r1.put1 encS_len (i:=k) (r:=3) (x:=⟨y.A,y.n,y.c,y.way,y.rate,r.1,y.hi⟩) (x':=⟨y.A,y.n,y.c,y.way,y.rate,r.1,r.2⟩) (u:=.int .i64 r.2) (by rw[List.getElem?_set,if_pos rfl,if_pos hlt4]) (by decide) rfl (fun j h1 h2=>by
           obtain rfl | rfl | rfl:j=0∨j=1∨j=2:=by omega
           all_goals rfl)
          rw[List.set_set,← evT_succ HY.out HLR.out] at r2;have hf2:FrS s w ((w0.setCell ⟨g2,k * 4+2,none⟩ (.int .i64 r.1)).setCell ⟨g2,k * 4+2+1,none⟩ (.int .i64 r.2)):=Fr.setAt (Fr.setAt HF.out (p:=⟨g2,k * 4+2,none⟩) (.inr HGE2.out) _) (p:=⟨g2,k * 4+2+1,none⟩) (.inr HGE2.out) _;have hg2:FrS g2 w0 ((w0.setCell ⟨g2,k * 4+2,none⟩ (.int .i64 r.1)).setCell ⟨g2,k * 4+2+1,none⟩ (.int .i64 r.2)):=((FrS.refl g2 w0).set (i:=k * 4+2) (.int .i64 r.1)).set (i:=k * 4+2+1) (.int .i64 r.2);have HR3:=hid r2;have HF3:=hid hf2;have HK3:=hid (hg2.blk HK.out (fun e=>HNE2.out e.symm));have HL3:=hid (hg2.rd HRL.out fun ad e=>by cases e;exact HFA0.out);have HKN:=hid hlt;clear r1 r2 hf2 hg2 hlt4 HF HK HRW HRL HT t0 t1 d15 hi1 hi0 hlt
          have hk10:k<10:=by have:=HKN.out;have:=HSN.out;omega
          go_wp2_with fail
          go_roundw
          case rel=>exact⟨k+1,by have:=HKN.out;omega,by go_num,HF3.out,HK3.out,HR3.out,HL3.out⟩
          case measure=>have:=HKN.out;simp[intOf]<;>omega
        · obtain rfl:k=x.sl.n:=by omega
          clear hf hkb hrw hrl hlt hk
          go_wp2_with fail
          go_end0
          rw[HR2.out];have hr:=HA.out.rows.fr HF.out;have hv:=(HA.out.rows.vrow HOK.out).fr HF.out
          exact MethN.good (x:={ x with sl:=⟨some ⟨g2,0,none⟩,x.sl.n,c2⟩,SL:=evT x.SL LF x.sl.n }) ⟨by simpa[sessV] using HK.out,⟨hr.co,hr.col,hr.cbed,hr.li,hr.ce,hr.da,hr.le,hr.pa,⟨HRW.out.rd,HC2.out,fun ad e=>by cases e;exact HNE2.out⟩,by rw[← HSL.out,evT_all HLN.out,HA.out.rows.slc],fun i y hy=>by
           obtain⟨z,hz,e1,e2,e3,e4⟩:=evT_keep hy
           rw[e1,e2,e3,e4];exact hr.sway i z hz,hr.bo,hr.rd⟩⟩ HF.out (fun G hG h=>{ h with sl:=fun ad e=>by cases e;have:=HGE2.out;dsimp only;omega,SL:=fun i y hy ad e=>by(obtain⟨z,hz,e1,_,_,_⟩:=evT_keep hy;rw[e1] at e;exact h.SL i z hz ad e) })
   · skip
     clear HRL HHR HNL d0 d1 d2 d3 d4 n0 n1 n2
     go_wp2_with fail
     go_at_call 93;refine(must_f h0 _).mono ?_;rintro e w1 ⟨rfl,hb9⟩;replace HB:=hdT HB hb9;replace HE:=hdB HE hb9;clear hb9 
     go_wp2_with fail
     have e:=HR.out;rw[if_pos h0] at e;rw[e];exact⟨rfl,MethN.no h0 (HA.out.below HB.out) (FrS.of_below HB.out)⟩
end Go.Proofs.YtkhcliibilkefaaGreatDoor
namespace Go.Proofs.YtkhcliibilkefaaGreatDoor
open Lib (hid)
section
open Go.Shelf Go.Proofs
def insR_ren:Go.Shelf.Ren:=⟨fun | 21=>111 | 27=>148 | 28=>149 | 35=>193 | 39=>221 | n=>n,fun | 22=>28 | n=>n,fun | n=>n⟩
theorem insR:Go.Proofs.Lays2.n21 Tryz.prog insR_ren:={
 mixed:=by kernel_rfl
 f21:=Tryz.func111.trans (congrArg some (by kernel_rfl))
 f27:=Tryz.func148.trans (congrArg some (by kernel_rfl))
 f28:=Tryz.func149.trans (congrArg some (by kernel_rfl))
 f35:=Tryz.func193.trans (congrArg some (by kernel_rfl))
 f39:=Tryz.func221.trans (congrArg some (by kernel_rfl))
 t0:=Tryz.underlying0
 a0:=Tryz.isAgg0
 z0:=Tryz.sizeOf0
 v0:=Tryz.zeroValue0
 t3:=Tryz.underlying3
 a3:=Tryz.isAgg3
 z3:=Tryz.sizeOf3
 v3:=Tryz.zeroValue3
 t4:=Tryz.underlying4
 a4:=Tryz.isAgg4
 z4:=Tryz.sizeOf4
 v4:=Tryz.zeroValue4
 t22:=Tryz.underlying28
 a22:=Tryz.isAgg28
 z22:=Tryz.sizeOf28
 v22:=Tryz.zeroValue28
 i3:=by kernel_rfl }
end
open Go.RowKit Go.Proofs
theorem rd_cells {w:World}{g m:Nat}{L:List Int}(hl:L.length=m)(hg:g<w.heap.size)(h:∀ j y,L[j]?=some y→w.cell? ⟨g,j,none⟩=some (.int .i64 y)):Rd enc1 1 w (some ⟨g,0,none⟩) m L:=by
 refine⟨hl,fun _=>⟨g,0,rfl,hg,fun i y hy j v hv=>?_⟩⟩
 rcases j with _ | j
 · simp[enc1] at hv
   subst hv
   simpa using h i y hy
 · simp[enc1] at hv
theorem flat1_get (l:List Int)(j:Nat):(l.flatMap enc1)[j]?=l[j]?.map fun n=>Value.int .i64 n:=by
 rw[flat_enc1,List.getElem?_map]
theorem ins_get {l:List Int}{i:Nat}{x:Int}(hi:i≤l.length)(j:Nat):(l.take i++x::l.drop i)[j]?=if j<i then l[j]? else if j=i then some x else l[j - 1]?:=by
 by_cases h1:j<i
 · rw[if_pos h1,List.getElem?_append_left (by rw[List.length_take];omega),List.getElem?_take,if_pos h1]
 · rw[if_neg h1,List.getElem?_append_right (by rw[List.length_take];omega),List.length_take,Nat.min_eq_left hi]
   by_cases h2:j=i
   · subst h2;simp
   · rw[if_neg h2]
     obtain⟨k,hk⟩:∃ k,j - i=k+1:=⟨j - i - 1,by omega⟩;rw[hk,List.getElem?_cons_succ,List.getElem?_drop]
     congr 1;omega
theorem ins_len {l:List Int}{i:Nat}{x:Int}(hi:i≤l.length):(l.take i++x::l.drop i).length=l.length+1:=by
 simp only[List.length_append,List.length_take,List.length_cons,List.length_drop];omega
theorem one1 (l:List Int):∀ v∈l.flatMap enc1,v.oneCell'=true:=by
 intro v hv;obtain⟨a,_,ha⟩:=List.mem_flatMap.1 hv;simp[enc1] at ha;subst ha;rfl
theorem bel_sets {B b:Nat}{a:World}(hb:B≤b):∀(vs:List Value) (o:Nat) {w:World},Below B a w→Below B a (w.setCells b o vs)
 | [],_,_,h=>h
 | v::r,o,_,h=>bel_sets hb r (o+1) (h.setCell (p:=⟨b,o,none⟩) hb v)
theorem sets_size (b:Nat):∀(vs:List Value) (o:Nat) (w:World),(w.setCells b o vs).heap.size=w.heap.size
 | [],_,_=>rfl
 | v::r,o,w=>by rw[World.setCells,sets_size b r];simp[World.setCell]
theorem insert_c {l:List Int}{v:Value}{n i:Nat}{x:Int}{base gx:Nat}{w:World}(hown:w.ownsRow base 3 1 v n (l.flatMap enc1))(hln:l.length=n)(hi:i≤n)(hn:n≤1000)
 (hx:Blk w gx 3 #[.int .i64 x]) (hne:∀ g,v.ownBlock=some g→g≠gx) (hbs:base≤w.heap.size) :
 Calls Tryz.prog 111 #[v,.int .i64 i,.slice (some ⟨gx,0,none⟩) 1 1] w fun e w'=>∃ g c,e=.returned (.slice (some ⟨g,0,none⟩) (n+1) c)∧n+1≤c∧base≤g∧Rd enc1 1 w' (some ⟨g,0,none⟩) (n+1) (l.take i++x::l.drop i)∧Below base w w':=by
 have hL:(l.take i++x::l.drop i).length=n+1:=by rw[ins_len (by omega),hln]
 have hvs:∀ j u,[Value.int .i64 x][j]?=some u→w.cell? ⟨gx,0+j,none⟩=some u:=by
  intro j u hu
  rcases j with _ | j
  · have:=hx.cell 0;simp at this hu;subst hu;simpa using this
  · simp at hu
 have h1v:∀ u∈[Value.int .i64 x],u.oneCell'=true:=by intro u hu;simp at hu;subst hu;rfl
 have hfl:(l.flatMap enc1).length=n:=by rw[flat_enc1,List.length_map,hln]
 have hbb:Below base w w:=Below.refl _ _
 have grow:∀(cs:List Value) (c:Nat),(∀ j,j<n→cs[j]?=(l.flatMap enc1)[j]?)→cs.length=n→i=n→Rd enc1 1 (w.drew.alloc (.cells ((cs++[Value.int .i64 x]).toArray++Builtin.zeroCells (Value.int .i64 0).cells c) 3)) (some ⟨w.heap.size,0,none⟩) (n+1) (l.take i++x::l.drop i):=by
  intro cs c hcs hcl hin;refine rd_cells hL (by simp) fun j y hy=>?_;have hb:=Blk.new w.drew 3 ((cs++[Value.int .i64 x]).toArray++Builtin.zeroCells (Value.int .i64 0).cells c);have hb':=hb.cell j;rw[show w.drew.heap.size=w.heap.size from rfl] at hb';rw[hb'];rw[ins_get (by omega)] at hy
  have hjn:j<n+1:=by rw[← hL];exact(List.getElem?_eq_some_iff.1 (by rw[ins_get (by omega)];exact hy)).1
  rw[Array.getElem?_append_left (by simp[hcl];omega),List.getElem?_toArray]
  by_cases h1:j<i
  · rw[if_pos h1] at hy
    rw[List.getElem?_append_left (by omega),hcs j (by omega),flat1_get,hy];rfl
  · rw[if_neg h1] at hy
    obtain rfl:j=i:=by omega
    rw[if_pos rfl] at hy;cases hy;rw[List.getElem?_append_right (by omega),hcl,show j - n=0 by omega];rfl
 rcases hown.2 with ⟨rfl,hz⟩ | ⟨g,cap,cur,rfl,hbg,hb,hnc,h63,hsz,htk⟩
 · have hn0:n=0:=hz
   subst hn0
   obtain rfl:i=0:=by omega
   refine Calls.mono (P:=Tryz.prog) (f:=111) (Any2.slices_Insert_int_end_grow insR none 0 0 gx 0 1 1 [] [.int .i64 x] w (by omega) (by omega) (by omega) (by omega) rfl rfl (fun _=>rfl) (fun a e=>by cases e) hvs h1v) ?_;rintro e w' ⟨rfl,rfl⟩;refine⟨w.heap.size,_,rfl,grownCap_ge _ _ _ _,hbs,?_,hbb.drew.alloc hbs _⟩;exact grow [] _ (fun j hj=>by omega) rfl rfl
 · have hgx:gx≠g:=fun e=>hne g rfl e.symm
   have hcell:∀ j u,(l.flatMap enc1)[j]?=some u→w.cell? ⟨g,j,none⟩=some u:=by
    intro j u hu;have hj:=(List.getElem?_eq_some_iff.1 hu).1;rw[← htk,List.getElem?_take,if_pos (by omega),Array.getElem?_toList] at hu;rw[(show Blk w g 3 cur from hb).cell j];exact hu
   have hcl':∀ j y,l[j]?=some y→w.cell? ⟨g,j,none⟩=some (.int .i64 y):=fun j y hy=>hcell j _ (by rw[flat1_get,hy];rfl);have hlt:g<w.heap.size:=(Array.getElem?_eq_some_iff.1 hb).1
   have hsome:∀ j,j<cap→(w.cell? ⟨g,0+j,none⟩).isSome=true:=fun j hj=>by
    rw[(show Blk w g 3 cur from hb).cell (0+j),Array.getElem?_eq_getElem (by omega)];rfl
   have hfz:∀ j,w.frozen? ⟨g,0+j,none⟩=false:=fun j=>(show Blk w g 3 cur from hb).frozen _
   by_cases hroom:n+1≤cap
   · by_cases hin:i=n
     · subst hin
       refine Calls.mono (P:=Tryz.prog) (f:=111) (Any2.slices_Insert_int_end_room insR g 0 i cap gx 0 1 1 [.int .i64 x] w (by omega) hroom (by unfold maxLen at h63;omega) rfl (fun j hj=>by rw[Nat.add_assoc];exact hsome _ (by omega)) (fun j hj=>by rw[Nat.add_assoc];exact hfz _) hvs h1v) ?_;rintro e w' ⟨rfl,rfl⟩;refine⟨g,cap,rfl,hroom,hbg,rd_cells hL (by simpa[World.setCells] using hlt) fun j y hy=>?_,bel_sets hbg _ _ hbb⟩;rw[ins_get (by omega)] at hy
       have hjn:j<i+1:=by rw[← hL];exact(List.getElem?_eq_some_iff.1 (by rw[ins_get (by omega)];exact hy)).1
       by_cases h1:j<i
       · rw[if_pos h1] at hy
         rw[World.cell?_setCells_out g _ _ _ _ (fun _ _=>.inl (by simpa using h1))];exact hcl' j y hy
       · rw[if_neg h1] at hy
         obtain rfl:j=i:=by omega
         rw[if_pos rfl] at hy;cases hy;have:=World.cell?_setCells_in g [.int .i64 x] (0+j) w (fun k hk=>by rw[Nat.add_assoc];exact hsome _ (by simp at hk;omega)) 0 (by simp)
         simpa using this
     · refine Calls.mono (P:=Tryz.prog) (f:=111) (Any2.slices_Insert_int_shift insR g 0 n cap i gx 0 1 1 (l.flatMap enc1) [.int .i64 x] w (by omega) (by omega) hroom (by unfold maxLen at h63;omega) hgx hfl rfl (fun j u hu=>by rw[Nat.zero_add];exact hcell j u hu) (fun j hj=>hsome j (by omega)) (fun j _=>hfz j) hvs (one1 l) h1v 3 3 1 cur.size (by simp[World.shape?,show w.heap[gx]?=_ from hx]) (by simp[World.shape?,hb]) (by omega) (hx.frozen _) (hx.frozen _)) ?_
       rintro e w' ⟨rfl,rfl⟩;refine⟨g,cap,rfl,hroom,hbg,?_,?_⟩
       · obtain⟨W1,hW1⟩:∃ W1,W1=w.drew.setCells g (0+(i+1)) ((l.flatMap enc1).drop i):=⟨_,rfl⟩
         have hdl:((l.flatMap enc1).drop i).length=n - i:=by rw[List.length_drop,hfl]
         have hsd:∀ k,k<cap→(w.drew.cell? ⟨g,k,none⟩).isSome=true:=fun k hk=>by have:=hsome k hk;rw[Nat.zero_add] at this;exact this
         have hs1:∀ k,k<n+1→(W1.cell? ⟨g,k,none⟩).isSome=true:=fun k hk=>by
          rw[hW1];exact isSome_setCells g _ _ _ (fun j hj=>by rw[Nat.zero_add];exact hsd _ (by omega)) _ (hsd k (by omega))
         rw[← hW1];refine rd_cells hL (by rw[sets_size,hW1,sets_size];exact hlt) fun j y hy=>?_;rw[ins_get (by omega)] at hy
         have hjn:j<n+1:=by rw[← hL];exact(List.getElem?_eq_some_iff.1 (by rw[ins_get (by omega)];exact hy)).1
         by_cases h1:j<i
         · rw[if_pos h1] at hy
           rw[World.cell?_setCells_out g _ _ _ _ (fun _ _=>.inl (by simpa using h1)),hW1,World.cell?_setCells_out g _ _ _ _ (fun _ _=>.inl (by dsimp only;omega))];exact hcl' j y hy
         · rw[if_neg h1] at hy
           by_cases h2:j=i
           · subst h2
             rw[if_pos rfl] at hy;cases hy;have:=World.cell?_setCells_in g [.int .i64 x] (0+j) W1 (fun k hk=>by rw[Nat.zero_add];exact hs1 _ (by simp at hk;omega)) 0 (by simp)
             simpa using this
           · rw[if_neg h2] at hy
             rw[World.cell?_setCells_out g _ _ _ _ (fun _ _=>.inr (by simp;omega)),hW1];obtain⟨k,rfl⟩:∃ k,j=(i+1)+k:=⟨j - (i+1),by omega⟩;have:=World.cell?_setCells_in g ((l.flatMap enc1).drop i) (0+(i+1)) w.drew (fun k hk=>by rw[Nat.zero_add];exact hsd _ (by omega)) k (by omega);rw[Nat.zero_add] at this ⊢;rw[this]
             have h5:(l.flatMap enc1)[i+k]?=some (.int .i64 y):=by rw[flat1_get,show i+k=i+1+k - 1 by omega,hy];rfl
             rw[← List.getElem?_drop] at h5;rw[← List.getElem?_eq_getElem (by omega)];exact h5
       · exact bel_sets hbg _ _ (bel_sets hbg _ _ hbb.drew)
   · by_cases hin:i=n
     · subst hin
       refine Calls.mono (P:=Tryz.prog) (f:=111) (Any2.slices_Insert_int_end_grow insR (some ⟨g,0,none⟩) i cap gx 0 1 1 (l.flatMap enc1) [.int .i64 x] w (by omega) (by omega) (by omega) (by omega) hfl rfl (fun e=>by cases e) (fun a e j u hu=>by cases e;rw[Addr.add_lit,Nat.zero_add];exact hcell j u hu) hvs h1v) ?_;rintro e w' ⟨rfl,rfl⟩;exact⟨w.heap.size,_,rfl,grownCap_ge _ _ _ _,hbs,grow _ _ (fun j hj=>rfl) hfl rfl,hbb.drew.alloc hbs _⟩
     · refine Calls.mono (P:=Tryz.prog) (f:=111) (Any2.slices_Insert_int_grow insR g 0 n cap i gx 0 1 1 (l.flatMap enc1) [.int .i64 x] w (by omega) (by omega) (by omega) (by omega) (by omega) hfl rfl (fun j u hu=>by rw[Nat.zero_add];exact hcell j u hu) hvs (one1 l) h1v) ?_
       rintro e w' ⟨rfl,rfl⟩;refine⟨w.heap.size,_,rfl,grownCap_ge _ _ _ _,hbs,?_,?_⟩
       · obtain⟨W0,hW0⟩:∃ W0,W0=(w.alloc (.cells (((l.flatMap enc1).take i).toArray++Builtin.zeroCells (Value.int .i64 0).cells (n+1 - i)++Builtin.zeroCells (Value.int .i64 0).cells (grownCap w (n+1) cap 3 - (n+1))) 3)).drew:=⟨_,rfl⟩
         obtain⟨W1,hW1⟩:∃ W1,W1=(W0.setCells w.heap.size i [.int .i64 x]).drew:=⟨_,rfl⟩
         have hdl:((l.flatMap enc1).drop i).length=n - i:=by rw[List.length_drop,hfl]
         have hb0:Blk W0 w.heap.size 3 (((l.flatMap enc1).take i).toArray++Builtin.zeroCells (Value.int .i64 0).cells (n+1 - i)++Builtin.zeroCells (Value.int .i64 0).cells (grownCap w (n+1) cap 3 - (n+1))):=by rw[hW0];exact Blk.new w _ _
         have hzs:∀ m,(Builtin.zeroCells (Value.int .i64 0).cells m).size=m:=fun m=>by simp[Builtin.zeroCells,Value.cells]
         have hs0:∀ k,k<n+1→(W0.cell? ⟨w.heap.size,k,none⟩).isSome=true:=fun k hk=>by
          rw[hb0.cell k,Array.getElem?_eq_getElem (by simp only[Array.size_append,hzs,List.size_toArray,List.length_take,hfl];omega)];rfl
         have hs1:∀ k,k<n+1→(W1.cell? ⟨w.heap.size,k,none⟩).isSome=true:=fun k hk=>by
          rw[hW1];exact isSome_setCells _ _ _ _ (fun j hj=>hs0 _ (by simp at hj;omega)) _ (hs0 k hk)
         have hl0:w.heap.size<W0.heap.size:=hb0.lt;rw[show insR_ren.t 3=3 from rfl,← hW0,← hW1];refine rd_cells hL (by rw[sets_size,hW1];show _<(World.setCells _ _ _ _).heap.size;rw[sets_size];exact hl0) fun j y hy=>?_;rw[ins_get (by omega)] at hy
         have hjn:j<n+1:=by rw[← hL];exact(List.getElem?_eq_some_iff.1 (by rw[ins_get (by omega)];exact hy)).1
         by_cases h1:j<i
         · rw[if_pos h1] at hy
           rw[World.cell?_setCells_out _ _ _ _ _ (fun _ _=>.inl (by dsimp only;omega)),hW1];show(World.setCells _ _ _ _).cell? _=_;rw[World.cell?_setCells_out _ _ _ _ _ (fun _ _=>.inl (by dsimp only;omega)),hb0.cell j,Array.append_assoc,Array.getElem?_append_left (by simp[hfl];omega),List.getElem?_toArray,List.getElem?_take,if_pos h1,flat1_get,hy]
           rfl
         · rw[if_neg h1] at hy
           by_cases h2:j=i
           · subst h2
             rw[if_pos rfl] at hy;cases hy;rw[World.cell?_setCells_out _ _ _ _ _ (fun _ _=>.inl (by dsimp only;omega)),hW1];have:=World.cell?_setCells_in w.heap.size [.int .i64 x] j W0 (fun k hk=>hs0 _ (by simp at hk;omega)) 0 (by simp)
             simpa using this
           · rw[if_neg h2] at hy
             obtain⟨k,rfl⟩:∃ k,j=(i+1)+k:=⟨j - (i+1),by omega⟩;have:=World.cell?_setCells_in w.heap.size ((l.flatMap enc1).drop i) (i+1) W1 (fun k hk=>hs1 _ (by omega)) k (by omega);rw[this]
             have h5:(l.flatMap enc1)[i+k]?=some (.int .i64 y):=by rw[flat1_get,show i+k=i+1+k - 1 by omega,hy];rfl
             rw[← List.getElem?_drop] at h5;rw[← List.getElem?_eq_getElem (by omega)];exact h5
       · exact bel_sets hbs _ _ (Below.drew (bel_sets hbs _ _ (Below.drew (hbb.alloc hbs _))))
end Go.Proofs.YtkhcliibilkefaaGreatDoor
