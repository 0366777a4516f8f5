/- METHOD: buy. -/
import Derived.Test.YtkhcliibilkefaaGreatDoorYInsert
import Derived.Test.YtkhcliibilkefaaGreatDoorReading
set_option linter.unusedVariables false
set_option linter.unusedSimpArgs false
set_option maxRecDepth 100000
set_option maxHeartbeats 8000000
namespace Go.Proofs.YtkhcliibilkefaaGreatDoor
open Lib (hid)
open Go.RowKit Go.Proofs
attribute [local go_sem ↓] Go.wp_at_zero Go.wp_at_succ
theorem dAt_can (SL:List Sli)(tr:List Int)(p:Int)(k:Nat):dAt ((SL.map pslOf).map PSl.sli) tr p k=dAt SL tr p k:=by
 unfold dAt;rw[List.getElem?_map,List.getElem?_map];cases SL[k]?<;>cases tr[k]?<;>rfl
theorem dTo_can (SL:List Sli)(tr:List Int)(p:Int):∀ k,dTo ((SL.map pslOf).map PSl.sli) tr p k=dTo SL tr p k
 | 0=>rfl
 | k+1=>by rw[dTo,dTo,dTo_can SL tr p k,dAt_can]
theorem gainsL_can (v:Vly):gainsL v.can=gainsL v:=by
 have e1:endsT v.can true=endsT v true:=by simp only[endsT,Vly.can,List.map_map];rfl
 have e2:∀ tr,dangs v.can tr=dangs v tr:=fun tr=>by
  simp only[dangs,Vly.can,List.length_map]
  congr 1;funext p;exact dTo_can _ _ _ _
 unfold gainsL;rw[e1,e2];rfl
theorem buy1_c {v:Vly}{PA SA:Option Addr}{pn pc sn sc:Nat}{B:Int}{w:World}(h:RdV w PA pn SA sn v)(hok:VOk v) :
 Calls Tryz.prog 108 #[.agg #[.slice PA pn pc,.slice SA sn sc,.int .i64 v.s0,.int .i64 v.s1,.int .i64 v.s2],.int .i64 B] w
  fun e w'=>∃ A n c gain,e=.returned (.tuple #[.slice A n c,.int .i64 gain,.int .i64 (if inB B 0 100000000 then 0 else 2)])∧(inB B 0 100000000=true→n≤12∧(∀ ad,A=some ad→w.heap.size≤ad.block)∧Rd enc1 1 w' A n (bestB (gainsL v) (pricesL v) B).set)∧Below w.heap.size w w':=by
 cases hf:inB B 0 100000000 with
 | false =>
  refine(Buy_fund h hok hf).mono ?_;rintro e w' ⟨rfl,hb⟩;exact⟨none,0,0,0,rfl,fun h0=>(by cases h0),hb⟩
 | true =>
  refine(Buy_ok h hok hf).mono ?_;rintro e w' ⟨A,n,c,rfl,h1,h2,h3,hb⟩;exact⟨A,n,c,_,rfl,fun _=>⟨h1,h2,h3⟩,hb⟩
theorem getD_of {l:List Int}{j:Nat}(hj:j<l.length):l[j]?=some (l.getD j 0):=by
 rw[List.getElem?_eq_getElem hj,List.getD_eq_getElem?_getD,List.getElem?_eq_getElem hj];rfl
theorem bsearch_c {l:List Int}{A:Option Addr}{n c:Nat}{x:Int}{w:World}(h:Rd enc1 1 w A n l)(ha:Asc l)(hn:n≤1000) :
 Calls Tryz.prog 110 #[.slice A n c,.int .i64 x] w fun e w'=>e=.returned (.tuple #[.int .i64 ((l.countP fun y=>decide (y<x):Nat):Int),.bool (decide (x∈l))])∧Below w.heap.size w w':=by
 have hl:=h.len
 rcases Nat.eq_zero_or_pos n with h0 | h0
 · subst h0
   obtain rfl:=List.length_eq_zero_iff.1 hl;refine Calls.mono (P:=Tryz.prog) (f:=110) (slices_BinarySearch_int_empty A c x w) ?_;rintro e w' ⟨rfl,rfl⟩;exact⟨rfl,Below.refl _ _⟩
 · obtain⟨b,o,rfl,hlt,hc⟩:=h.2 h0
   refine Calls.mono (P:=Tryz.prog) (f:=110) (slices_BinarySearch_int b o n c l x w (by omega) (by omega) (fun j hj=>?_) ?_) ?_
   · have:=hc j _ (getD_of hj) 0 _ rfl
     simpa using this
   · rw[List.take_of_length_le (by omega)]
     exact ha.imp fun h=>by omega
   · rintro e w' ⟨rfl,q,rfl⟩
     rw[List.take_of_length_le (by omega)];refine⟨?_,below_drewN (Below.refl _ _) q⟩
     congr 3
     · simp
theorem RowW.put4 {w:World}{g n:Nat}{l:List Par}{k:Nat}{p:Par}(h:RowW w 174 encP 4 g n l)(hp:l[k]?=some p) :
 RowW ((((w.setCell ⟨g,k * 4,none⟩ (.int .i64 p.worth)).setCell ⟨g,k * 4+1,none⟩ (.int .i64 0)).setCell ⟨g,k * 4+2,none⟩ (.int .i64 0)).setCell ⟨g,k * 4+3,none⟩ (.bool false)) 174 encP 4 g n (l.set k ⟨p.worth,0,0,false⟩):=by
 have hk:=(List.getElem?_eq_some_iff.1 hp).1
 have at_:∀ q:Par,(l.set k q)[k]?=some q:=fun q=>by rw[List.getElem?_set,if_pos rfl,if_pos hk]
 have r0:=h.put1 encP_len (i:=k) (r:=0) (x':=⟨p.worth,p.price,p.people,p.ins⟩) (u:=.int .i64 p.worth) hp (by decide) rfl (fun j h1 h2=>by
  obtain rfl | rfl | rfl:j=1∨j=2∨j=3:=by omega
  all_goals rfl)
 have r1:=r0.put1 encP_len (i:=k) (r:=1) (x:=⟨p.worth,p.price,p.people,p.ins⟩) (x':=⟨p.worth,0,p.people,p.ins⟩) (u:=.int .i64 0) (at_ _) (by decide) rfl (fun j h1 h2=>by
  obtain rfl | rfl | rfl:j=0∨j=2∨j=3:=by omega
  all_goals rfl)
 rw[List.set_set] at r1
 have r2:=r1.put1 encP_len (i:=k) (r:=2) (x:=⟨p.worth,0,p.people,p.ins⟩) (x':=⟨p.worth,0,0,p.ins⟩) (u:=.int .i64 0) (at_ _) (by decide) rfl (fun j h1 h2=>by
  obtain rfl | rfl | rfl:j=0∨j=1∨j=3:=by omega
  all_goals rfl)
 rw[List.set_set] at r2
 have r3:=r2.put1 encP_len (i:=k) (r:=3) (x:=⟨p.worth,0,0,p.ins⟩) (x':=⟨p.worth,0,0,false⟩) (u:=.bool false) (at_ _) (by decide) rfl (fun j h1 h2=>by
  obtain rfl | rfl | rfl:j=0∨j=1∨j=2:=by omega
  all_goals rfl)
 rw[List.set_set] at r3;exact r3
theorem buyOne_same (b:Sess)(i:Int):(buyOne b i).cols=b.cols∧(buyOne b i).links=b.links∧(buyOne b i).cells=b.cells∧(buyOne b i).days=b.days∧(buyOne b i).levels=b.levels∧(buyOne b i).sls=b.sls∧(buyOne b i).rds=b.rds:=by
 unfold buyOne;split<;>exact⟨rfl,rfl,rfl,rfl,rfl,rfl,rfl⟩
theorem buySet_same:∀ {S:List Int} {b:Sess},(buySet b S).cols=b.cols∧(buySet b S).links=b.links∧(buySet b S).cells=b.cells∧(buySet b S).days=b.days∧(buySet b S).levels=b.levels∧(buySet b S).sls=b.sls∧(buySet b S).rds=b.rds
 | [],_=>⟨rfl,rfl,rfl,rfl,rfl,rfl,rfl⟩
 | i::S,b=>by
  have h1:=@buySet_same S (buyOne b i);have h2:=buyOne_same b i;exact⟨h1.1.trans h2.1,h1.2.1.trans h2.2.1,h1.2.2.1.trans h2.2.2.1,h1.2.2.2.1.trans h2.2.2.2.1,h1.2.2.2.2.1.trans h2.2.2.2.2.1,h1.2.2.2.2.2.1.trans h2.2.2.2.2.2.1,h1.2.2.2.2.2.2.trans h2.2.2.2.2.2.2⟩
theorem buyOne_at {b:Sess}{k:Nat}{p:Par}(hp:b.pars[k]?=some p):buyOne b (k:Int)={ b with spent:=b.spent+p.price,pars:=b.pars.set k ⟨p.worth,0,0,false⟩,bought:=insAt b.bought (k:Int) }:=by
 unfold buyOne;rw[Int.toNat_natCast,hp]
theorem Rd.frz {α:Type}{enc:α→List Value}{k n:Nat}{E:Nat→Prop}{w w':World}{A:Option Addr}{l:List α}(hf:Fr E w w')(h:Rd enc k w A n l)(hn:∀ ad,A=some ad→n=0∨¬ E ad.block):Rd enc k w' A n l:=by
 rcases Nat.eq_zero_or_pos n with h0 | h0
 · exact⟨h.1,fun h1=>by omega⟩
 · exact hf.rd h fun ad e=>(hn ad e).resolve_left (by omega)
theorem buy_m {s:Nat}{x:SAd}{b:Sess}{now line more:Int}{g c:Nat}{l:List Int}{w:World}(h:SAt w s x b now line more)(hok:SOk b)(hl:NumsAt w s g 1 l) :
 Calls Tryz.prog 83 #[.pointer (some ⟨s,0,none⟩),.slice (some ⟨g,0,none⟩) 1 c] w fun e w'=>MethN w.heap.size x s g now line more (sBuy b l) w e w':=by
 have HA:=hid h;have HB:=hid (Below.refl w.heap.size w);have HL:=hid hl;have HOK:=hid hok;unfold sBuy
 by_cases h0:b.pars.length=0
 · rw[if_pos h0]
   have HS:=hid (settled_f h h0);clear h hl hok h0
   go_enter Tryz.func83,Tryz.ntmps83
   go_wp2_with fail
   go_at_call 104;refine HS.out.mono ?_;rintro e w1 ⟨rfl,hb1⟩
   go_wp2_with fail
   exact⟨rfl,MethN.no (E:=8) (by decide) (HA.out.below hb1) (FrS.of_below hb1)⟩
 · rw[if_neg h0]
   have HS:=hid (settled_t h h0)
   have hvok:VOk ⟨b.pars,x.SL,b.t0,b.t1,b.t2⟩:=by
    rcases hok.val with h4 | h4
    · exact absurd h4.1 h0
    · rw[Sess.vly_can h.rows.slc,VOk.can] at h4;exact h4
   have hpl:=h.rows.pa.len;have HPN:=hid (show 0<x.pa.n∧x.pa.n≤12 by have:=hok.parN;omega);have HVK:=hid hvok;have HPL:=hid hpl;have hws:=hid h.blk.lt;rw[Sess.vly_can h.rows.slc,gainsL_can];obtain⟨S,hS⟩:∃ S,S=(bestB (gainsL ⟨b.pars,x.SL,b.t0,b.t1,b.t2⟩) (pricesL ⟨b.pars,x.SL,b.t0,b.t1,b.t2⟩) (nth l 0)).set:=⟨_,rfl⟩;rw[show(bestB (gainsL ⟨b.pars,x.SL,b.t0,b.t1,b.t2⟩) (b.pars.map (·.price)) (nth l 0)).set=S from hS.symm]
   have HSB:=hid (show ∀ q∈S,0≤q∧q<(x.pa.n:Int) from fun q hq=>by
    rw[hS] at hq;have h1:=bestB_lt _ _ _ q hq;rw[gainsL_len] at h1;have h2:=bestB_nn _ _ _ q hq
    dsimp only at h1;omega)
   have HSE:=hid hS
   obtain⟨R,hR⟩:∃ R,R=if inB (nth l 0) 0 100000000=true then done (buySet b S) else refuse b 2:=⟨_,rfl⟩
   rw[← hR];obtain⟨n0,hn0⟩:∃ z,z=inB (nth l 0) 0 100000000:=⟨_,rfl⟩;rw[← hn0] at hR;have HIN:=hid hn0;have HR:=hid hR;clear h hl hok h0 hvok hpl hS hn0 hR
   go_enter Tryz.func83,Tryz.ntmps83
   go_wp2_with fail
   go_at_call 104;refine(HS.out).mono ?_;rintro e w1 ⟨rfl,hb9⟩;replace HB:=hdT HB hb9;clear hb9 ;clear HS;have hA1:=(HA.out.below HB.out).blk;have d0:=hA1.cell 14;have d1:=hA1.cell 15;have d2:=hA1.cell 16;have d3:=hA1.cell 17;have d4:=hA1.cell 18;simp[sessV] at d0 d1 d2 d3 d4;have m0:=(HL.out.below HB.out).cell (i:=0) (by decide);clear hA1
   go_wp2_with fail
   cases n0
   · skip
     refine wp_region_till [] (fun U=>U.cell? ⟨s,14,none⟩=some (.slice x.pa.A x.pa.n x.pa.c)∧U.cell? ⟨s,15,none⟩=some (.slice x.sl.A x.sl.n x.sl.c)∧U.cell? ⟨s,16,none⟩=some (.int .i64 b.t0)∧U.cell? ⟨s,17,none⟩=some (.int .i64 b.t1)∧U.cell? ⟨s,18,none⟩=some (.int .i64 b.t2)∧U.cell? ⟨g,0,none⟩=some (.int .i64 (nth l 0))) (by kernel_rfl) (by exact⟨d0,d1,d2,d3,d4,m0⟩) (fun hHeld=>?_);have hb9:=(Below.refl w1.heap.size w1).drew;replace HB:=hdT HB hb9;clear hb9;revert hHeld HB;generalize w1.drew=w0;intro hHeld HB;refine tk 0 0 ?_;refine tk 0 1 ?_;refine tk 0 2 ?_;refine tk 0 3 ?_;refine tk 0 4 ?_;refine tk 0 5 ?_;refine tk 0 6 ?_;refine tk 0 7 ?_;refine ar [8] (ac (fun K hK=>?_) an);go_simp;have hc:=buy1_c (v:=⟨b.pars,x.SL,b.t0,b.t1,b.t2⟩) (pc:=x.pa.c) (sc:=x.sl.c) (B:=nth l 0) (((HA.out.below HB.out).rows.vrow HOK.out).rdv b.t0 b.t1 b.t2) HVK.out;rw[← HIN.out,← HSE.out] at hc;have HC:=hid hc;have HGB:=hid HB.out.size;clear hc;go_at_call 108;refine(HC.out).mono ?_;rintro e w2 ⟨AL,nL,cL,gain,rfl,hhr,hb9⟩;have HBUY:=hid hhr;clear hhr;replace HB:=hdT HB hb9;clear hb9 ;clear HC HIN;(try go_wp2_with fail);(try clear hHeld)
     refine hK.out _ _ (by(try dsimp only);exact⟨by simpa[sessV] using (HA.out.below HB.out).blk.cell 14,by simpa[sessV] using (HA.out.below HB.out).blk.cell 15,by simpa[sessV] using (HA.out.below HB.out).blk.cell 16,by simpa[sessV] using (HA.out.below HB.out).blk.cell 17,by simpa[sessV] using (HA.out.below HB.out).blk.cell 18,(HL.out.below HB.out).cell (by decide)⟩) (fun hHeld=>?_);clear hK K;refine pt ?_;refine tk 0 9 ?_;refine tk 0 10 ?_;refine tk 0 11 ?_;refine tk 0 12 ?_;refine tk 0 13 ?_;refine tk 0 14 ?_;refine tk 0 15 ?_;refine td ?_;(try clear hHeld);clear d0 d1 d2 d3 d4 m0
     go_wp2_with fail
     go_at_call 93;refine(must_f (E:=2) (by decide) _).mono ?_;rintro e w1 ⟨rfl,hb9⟩;replace HB:=hdT HB hb9;clear hb9 
     go_wp2_with fail
     have e:=HR.out;rw[if_neg (by simp)] at e;rw[e];exact⟨rfl,MethN.no (E:=2) (by decide) (HA.out.below HB.out) (FrS.of_below HB.out)⟩
   · skip
     refine wp_region_till [] (fun U=>U.cell? ⟨s,14,none⟩=some (.slice x.pa.A x.pa.n x.pa.c)∧U.cell? ⟨s,15,none⟩=some (.slice x.sl.A x.sl.n x.sl.c)∧U.cell? ⟨s,16,none⟩=some (.int .i64 b.t0)∧U.cell? ⟨s,17,none⟩=some (.int .i64 b.t1)∧U.cell? ⟨s,18,none⟩=some (.int .i64 b.t2)∧U.cell? ⟨g,0,none⟩=some (.int .i64 (nth l 0))) (by kernel_rfl) (by exact⟨d0,d1,d2,d3,d4,m0⟩) (fun hHeld=>?_);have hb9:=(Below.refl w1.heap.size w1).drew;replace HB:=hdT HB hb9;clear hb9;revert hHeld HB;generalize w1.drew=w0;intro hHeld HB;refine tk 0 0 ?_;refine tk 0 1 ?_;refine tk 0 2 ?_;refine tk 0 3 ?_;refine tk 0 4 ?_;refine tk 0 5 ?_;refine tk 0 6 ?_;refine tk 0 7 ?_;refine ar [8] (ac (fun K hK=>?_) an);go_simp;have hc:=buy1_c (v:=⟨b.pars,x.SL,b.t0,b.t1,b.t2⟩) (pc:=x.pa.c) (sc:=x.sl.c) (B:=nth l 0) (((HA.out.below HB.out).rows.vrow HOK.out).rdv b.t0 b.t1 b.t2) HVK.out;rw[← HIN.out,← HSE.out] at hc;have HC:=hid hc;have HGB:=hid HB.out.size;clear hc;go_at_call 108;refine(HC.out).mono ?_;rintro e w2 ⟨AL,nL,cL,gain,rfl,hhr,hb9⟩;have HBUY:=hid hhr;clear hhr;replace HB:=hdT HB hb9;clear hb9 ;clear HC HIN;(try go_wp2_with fail);(try clear hHeld)
     refine hK.out _ _ (by(try dsimp only);exact⟨by simpa[sessV] using (HA.out.below HB.out).blk.cell 14,by simpa[sessV] using (HA.out.below HB.out).blk.cell 15,by simpa[sessV] using (HA.out.below HB.out).blk.cell 16,by simpa[sessV] using (HA.out.below HB.out).blk.cell 17,by simpa[sessV] using (HA.out.below HB.out).blk.cell 18,(HL.out.below HB.out).cell (by decide)⟩) (fun hHeld=>?_);clear hK K;refine pt ?_;refine tk 0 9 ?_;refine tk 0 10 ?_;refine tk 0 11 ?_;refine tk 0 12 ?_;refine tk 0 13 ?_;refine tk 0 14 ?_;refine tk 0 15 ?_;refine td ?_;(try clear hHeld);clear d0 d1 d2 d3 d4 m0;obtain⟨hl12,hnew,hrl⟩:=HBUY.out trivial;have HAN:=hid (fun ad e=>Nat.le_trans HGB.out (hnew ad e));have HST:=hid hrl;have HL12:=hid hl12;have HSN:=hid hrl.len;have e:=HR.out;rw[if_pos trivial] at e;have HR2:=hid e;clear HBUY hl12 hnew hrl HSE HR e
     go_wp2_with fail
     go_at_call 93;refine(must_t _).mono ?_;rintro e w3 ⟨rfl,hb9⟩;replace HB:=hdT HB hb9;replace HST:=hid (HST.out.below hb9);clear hb9 ;have d14:=(HA.out.below HB.out).blk.cell 14;simp[sessV] at d14
     go_wp2_with fail
     go_at_call 109;refine((clonePar_c (c:=x.pa.c) (HA.out.below HB.out).rows.pa.rd (by have:=HPN.out;omega))).mono ?_;rintro e w4 ⟨v,rfl,hown,hb9⟩;have HSZ:=hid HB.out.size;have HLB:=hid (show 0<nL→∀ ad,AL=some ad→ad.block<w3.heap.size from fun h0 ad e=>by(obtain⟨b0,o0,e0,hlt,_⟩:=HST.out.2 h0;rw[e] at e0;cases e0;exact hlt));replace HB:=hdT HB hb9;replace HST:=hid (HST.out.below hb9);clear hb9 ;clear d14;obtain⟨g2,c2,rfl,hg2,hc2,hrw⟩:=RowW.of_own encP_len (by decide) hown HPL.out HPN.out.1
     have hge2:w.heap.size≤g2:=by have:=HSZ.out;omega
     have hne2:g2≠s:=by have:=hws.out;omega
     have HFA:=hid (show ∀ ad,AL=some ad→nL=0∨ad.block≠g2 from fun ad e=>by
      rcases Nat.eq_zero_or_pos nL with h0 | h0
      · exact .inl h0
      · have:=HLB.out h0 ad e;exact .inr (by omega))
     have HRW:=hid hrw;have HC2:=hid hc2;have HGE2:=hid hge2;have HNE2:=hid hne2;have hA1:=(HA.out.below HB.out).blk;have d14:=hA1.cell 14;have f14:=hA1.frozen 14;simp[sessV] at d14;clear hA1 hown hg2 hc2 hrw hge2 hne2
     go_wp2_with fail
     clear d14 f14;have hA1:=(HA.out.below HB.out).blk;have HK0:=hid (show Blk (w4.setCell ⟨s,14,none⟩ (.slice (some ⟨g2,0,none⟩) x.pa.n c2)) s 75 (sessV { x with pa:=⟨some ⟨g2,0,none⟩,x.pa.n,c2⟩,bo:=x.bo } b now line more) from by simpa[sessV] using hA1.set_ 14 (.slice (some ⟨g2,0,none⟩) x.pa.n c2));clear hA1
     go_loopw [43] (fun i wr=>∃(j:Nat) (AB:Option Addr) (nB cB:Nat),j≤nL∧i=.int .i64 j∧FrS s w wr∧Blk wr s 75 (sessV { x with pa:=⟨some ⟨g2,0,none⟩,x.pa.n,c2⟩,bo:=⟨AB,nB,cB⟩ } (buySet b (S.take j)) now line more)∧RowW wr 174 encP 4 g2 x.pa.n (buySet b (S.take j)).pars∧Rd enc1 1 wr AL nL S∧SRow s wr enc1 1 ⟨AB,nB,cB⟩ (buySet b (S.take j)).bought∧(∀ ad,AB=some ad→nB=0∨ad.block≠g2)∧((AB=x.bo.A∧nB=x.bo.n)∨∀ ad,AB=some ad→w.heap.size≤ad.block)) (fun i _=>nL - (intOf i).toNat)
     case atStart =>
      refine⟨0,x.bo.A,x.bo.n,x.bo.c,Nat.zero_le _,rfl,(FrS.of_below HB.out).set _,HK0.out,HRW.out.fr ((FrS.refl s _).set _) HNE2.out,Rd.frz ((FrS.refl s _).set _) HST.out (fun ad e=>.inr ?_),(HA.out.below HB.out).rows.bo.fr ((FrS.refl s _).set _),fun ad e=>?_,.inl ⟨rfl,rfl⟩⟩
      · have:=HAN.out ad e;have:=hws.out;omega
      · rcases Nat.eq_zero_or_pos x.bo.n with h0 | h0
        · exact .inl h0
        · obtain⟨b0,o0,e0,hlt,_⟩:=HA.out.rows.bo.rd.2 h0
          rw[e] at e0;cases e0;exact .inr (by have:=HGE2.out;dsimp only at hlt ⊢;omega)
     case round =>
      obtain⟨j,AB,nB,cB,hj,rfl,hf,hkb,hrw,hst,hbo,hbf,hbw⟩:=hrel;clear HK0 HRW HST HB;have HF:=hid hf;have HK:=hid hkb;have HRW:=hid hrw;have HST:=hid hst;have HBO:=hid hbo;have HBF:=hid hbf;have HBW:=hid hbw
      by_cases hlt:j<nL
      · skip
        obtain⟨b0,o0,q,rfl,hb0,hq,hcel⟩:=hst.at_ hlt;have c0:=hcel 0 _ rfl;simp only[Nat.add_zero,Nat.mul_one] at c0;have hqb:=HSB.out q (List.mem_of_getElem? hq);obtain⟨k,rfl⟩:∃ k:Nat,q=(k:Int):=⟨q.toNat,by omega⟩;have hokj:SOk (buySet b (S.take j)):=buySet_ok HOK.out (fun i hi=>(HSB.out i (List.mem_of_mem_take hi)).1);have HNX:=hid (buySet_succ (b:=b) hq);obtain⟨bj,hbj⟩:∃ z,z=buySet b (S.take j):=⟨_,rfl⟩;rw[← hbj] at hokj HK HRW HBO HNX;have hpl:=HRW.out.rd.len;obtain⟨p,hp⟩:∃ p,bj.pars[k]?=some p:=⟨_,List.getElem?_eq_getElem (by omega)⟩;have hpm:=hokj.price p (List.mem_of_getElem? hp);have hsm:=hokj.spent;have hsn:=sumP_nn (fun r hr=>(hokj.price r hr).1);have hparn:=hokj.parN;have HBN:=hid (bought_len hokj);have HASC:=hid hokj.asc;have hw:IntKind.i64.wrap (bj.spent+p.price)=bj.spent+p.price:=wi (by omega);have HP:=hid hp;have HB0S:=hid (show b0≠s∧b0≠g2 from⟨by have h7:w.heap.size≤b0:=HAN.out _ rfl;have:=hws.out;omega,(HFA.out _ rfl).resolve_left (by omega)⟩)
        have hi1:(k:Int)<(x.pa.n:Int):=by omega
        have hi0:(0:Int)≤(k:Int):=by omega
        have hj1:(j:Int)<(nL:Int):=by omega
        have hj0:(0:Int)≤(j:Int):=by omega
        have d14:=HK.out.cell 14;simp[sessV] at d14;have HJ:=hid hlt;clear hcel hq hqb hpl hp hpm hsm hsn hparn hf hkb hrw hst hbo hbf hbw hb0 hbj hokj hj hlt
        go_upto_region 8 with fail
        have d19:=HK.out.cell 19;have z1:=HRW.out.cell (j:=1) HP.out rfl;simp[sessV] at d19;clear c0 d14 hi1 hi0 hj1 hj0;refine wp_region_till [13] (fun U=>U.cell? ⟨s,19,none⟩=some (.int .i64 bj.spent)∧U.cell? ⟨g2,k * 4+1,none⟩=some (.int .i64 p.price)) (by kernel_rfl) (by exact⟨d19,z1⟩) (fun hHeld=>?_);have hb9:=(Below.refl wr.heap.size wr).drew;replace HF:=hid (HF.out.trans (Fr.of_below hb9 _));replace HK:=hdB HK hb9;replace HRW:=hid (HRW.out.below hb9);replace HST:=hid (HST.out.below hb9);replace HBO:=hid (HBO.out.fr (FrS.of_below hb9));clear hb9;revert hHeld HF HK HRW HST HBO;generalize wr.drew=w0;intro hHeld HF HK HRW HST HBO;refine tk 0 0 ?_;refine tk 0 1 ?_;refine tk 0 2 ?_;refine tk 0 3 ?_;refine tk 0 4 ?_;refine tk 0 5 ?_;refine tk 0 6 ?_;refine tk 0 7 ?_;refine tk 0 8 ?_;refine tk 0 9 ?_;refine tk 2 10 ?_;refine tk 1 11 ?_;refine tk 0 12 ?_;refine ar [13] (al (fun K hK=>?_) an);have e19:=HK.out.cell 19;have f19:=HK.out.frozen 19;simp[sessV] at e19;go_simp;(try clear hHeld);refine hK.out _ _ ?_;clear hK K;refine pt ?_;refine td ?_;(try clear hHeld);clear e19 f19 d19 z1 hw;have hg:=(FrS.refl s w0).set (i:=19) (.int .i64 (bj.spent+p.price));have h1:=HF.out.set (i:=19) (.int .i64 (bj.spent+p.price))
        have h2:Blk (w0.setCell ⟨s,19,none⟩ (.int .i64 (bj.spent+p.price))) s 75 (sessV { x with pa:=⟨some ⟨g2,0,none⟩,x.pa.n,c2⟩,bo:=⟨AB,nB,cB⟩ } { bj with spent:=bj.spent+p.price } now line more):=by simpa[sessV] using HK.out.set_ 19 (.int .i64 (bj.spent+p.price))
        have h3:=HRW.out.fr hg HNE2.out
        have h4:=hg.rd HST.out fun ad e=>by cases e;exact HB0S.out.1
        have h5:=HBO.out.fr hg;clear HF HK HRW HST HBO hg;have HF:=hid h1;have HK:=hid h2;have HRW:=hid h3;have HST:=hid h4;have HBO:=hid h5;clear h1 h2 h3 h4 h5;revert HF HK HRW HST HBO;generalize World.setCell w0 ⟨s,19,none⟩ (.int .i64 (bj.spent+p.price))=w5;intro HF HK HRW HST HBO;have z0:=HRW.out.cell (j:=0) HP.out rfl;have z1:=HRW.out.cell (j:=1) HP.out rfl;have z2:=HRW.out.cell (j:=2) HP.out rfl;have z3:=HRW.out.cell (j:=3) HP.out rfl;have f0:=HRW.out.frozen (k * 4);have f1:=HRW.out.frozen (k * 4+1);have f2:=HRW.out.frozen (k * 4+2);have f3:=HRW.out.frozen (k * 4+3);simp only[Nat.add_zero] at z0
        go_upto_region 10 with fail
        clear z0 z1 z2 z3 f0 f1 f2 f3;have hg:=((((FrS.refl g2 w5).set (i:=k * 4) (.int .i64 p.worth)).set (i:=k * 4+1) (.int .i64 0)).set (i:=k * 4+2) (.int .i64 0)).set (i:=k * 4+3) (.bool false);have h1:FrS s w ((((w5.setCell ⟨g2,k * 4,none⟩ (.int .i64 p.worth)).setCell ⟨g2,k * 4+1,none⟩ (.int .i64 0)).setCell ⟨g2,k * 4+2,none⟩ (.int .i64 0)).setCell ⟨g2,k * 4+3,none⟩ (.bool false)):=Fr.setAt (Fr.setAt (Fr.setAt (Fr.setAt HF.out (p:=⟨g2,k * 4,none⟩) (.inr HGE2.out) _) (p:=⟨g2,k * 4+1,none⟩) (.inr HGE2.out) _) (p:=⟨g2,k * 4+2,none⟩) (.inr HGE2.out) _) (p:=⟨g2,k * 4+3,none⟩) (.inr HGE2.out) _;have h2:=hg.blk HK.out (fun e=>HNE2.out e.symm);have h3:=HRW.out.put4 HP.out
        have h4:=hg.rd HST.out fun ad e=>by cases e;exact HB0S.out.2
        have h5:SRow s ((((w5.setCell ⟨g2,k * 4,none⟩ (.int .i64 p.worth)).setCell ⟨g2,k * 4+1,none⟩ (.int .i64 0)).setCell ⟨g2,k * 4+2,none⟩ (.int .i64 0)).setCell ⟨g2,k * 4+3,none⟩ (.bool false)) enc1 1 ⟨AB,nB,cB⟩ bj.bought:=⟨Rd.frz hg HBO.out.rd HBF.out,HBO.out.cap,HBO.out.far⟩;clear HF HK HRW HST HBO hg;have HF:=hid h1;have HK:=hid h2;have HRW:=hid h3;have HST:=hid h4;have HBO:=hid h5;clear h1 h2 h3 h4 h5;revert HF HK HRW HST HBO;generalize ((((w5.setCell ⟨g2,k * 4,none⟩ (.int .i64 p.worth)).setCell ⟨g2,k * 4+1,none⟩ (.int .i64 0)).setCell ⟨g2,k * 4+2,none⟩ (.int .i64 0)).setCell ⟨g2,k * 4+3,none⟩ (.bool false))=w6;intro HF HK HRW HST HBO;have HBL:Hid (bj.bought.length=nB):=hid HBO.out.rd.len;have d20:=HK.out.cell 20;simp[sessV] at d20;have hc:=bsearch_c (c:=cB) (x:=(k:Int)) HBO.out.rd HASC.out (show nB≤1000 by have:=HBN.out;have:=HBL.out;omega)
        have hj30:j<12:=by have:=HJ.out;have:=HL12.out;omega
        by_cases hin:(k:Int)∈bj.bought
        · rw[decide_eq_true hin] at hc
          have HC:=hid hc;have HIN:=hid hin;clear hc hin
          go_wp2_with fail
          go_at_call 110;refine(HC.out).mono ?_;rintro e w7 ⟨rfl,hb9⟩;replace HF:=hid (HF.out.trans (Fr.of_below hb9 _));replace HK:=hdB HK hb9;replace HRW:=hid (HRW.out.below hb9);replace HST:=hid (HST.out.below hb9);replace HBO:=hid (HBO.out.fr (FrS.of_below hb9));clear hb9 ;clear d20 HC
          go_wp2_with fail
          go_roundw
          case rel =>
           refine⟨j+1,AB,nB,cB,by have:=HJ.out;omega,by go_num,HF.out,?_,?_,HST.out,?_,HBF.out,HBW.out⟩<;>rw[HNX.out,buyOne_at HP.out,insAt_in HIN.out]
           · exact HK.out
           · exact HRW.out
           · exact HBO.out
          case measure=>have:=HJ.out;simp[intOf]<;>omega
        · rw[decide_eq_false hin] at hc
          have HC:=hid hc;have HIN:=hid hin;clear hc hin
          go_wp2_with fail
          go_at_call 110;refine(HC.out).mono ?_;rintro e w7 ⟨rfl,hb9⟩;replace HF:=hid (HF.out.trans (Fr.of_below hb9 _));replace HK:=hdB HK hb9;replace HRW:=hid (HRW.out.below hb9);replace HST:=hid (HST.out.below hb9);replace HBO:=hid (HBO.out.fr (FrS.of_below hb9));clear hb9 ;clear d20 HC;have d20:=HK.out.cell 20;simp[sessV] at d20;have hcl:=cloneInt_c (c:=cB) HBO.out.rd (show nB≤100000 by have:=HBN.out;have:=HBL.out;omega)
          go_wp2_with fail
          go_at_call 98;refine hcl.mono ?_;rintro e w8 ⟨v,rfl,hown,hb8⟩;clear hcl d20;have hlt8:∀ gq,v.ownBlock=some gq→gq<w8.heap.size:=fun gq h=>(hown.lt gq h).2;have hown9:=own_mono hown ((Below.refl _ w8).alloc (Nat.le_refl _) (.cells #[.int .i64 (k:Int)] 3));have hx:=Blk.new w8 3 #[.int .i64 (k:Int)];have hb9:=hb8.alloc hb8.size (.cells #[.int .i64 (k:Int)] 3);have HL8:=hid hlt8;have HO9:=hid hown9;have HX9:=hid hx;have HB9:=hid hb9;clear hlt8 hown9 hx hb9 hown hb8
          go_wp2_with fail
          revert HO9 HX9 HB9;generalize (World.alloc w8 (.cells #[.int .i64 (k:Int)] 3))=w9;intro HO9 HX9 HB9;go_at_call 111;refine(insert_c HO9.out HBL.out (by rw[← HBL.out];exact List.countP_le_length) (by have:=HBN.out;have:=HBL.out;omega) HX9.out (fun gq h=>by have:=HL8.out gq h;omega) HB9.out.size).mono ?_;rintro e w10 ⟨g3,c3,rfl,hc3,hg3,hrd3,hb10⟩;have hb:=HB9.out.trans hb10;have HW7:=hid HF.out.size;have HST7:=hid (Nat.le_trans HW7.out hg3);have HGT7:=hid (show g2<g3 by have:=HRW.out.lt;omega);replace HF:=hid (HF.out.trans (Fr.of_below hb _));replace HK:=hdB HK hb;replace HRW:=hid (HRW.out.below hb);replace HST:=hid (HST.out.below hb);replace HBO:=hid (HBO.out.fr (FrS.of_below hb));have HR3:=hid hrd3;have HC3:=hid hc3;clear hb hb10 hrd3 hc3 hg3 HO9 HX9 HB9 HL8 HW7;have d20:=HK.out.cell 20;have f20:=HK.out.frozen 20;simp[sessV] at d20
          go_wp2_with fail
          clear d20 f20;have hg:=(FrS.refl s w10).set (i:=20) (.slice (some ⟨g3,0,none⟩) (nB+1) c3);have h1:=HF.out.set (i:=20) (.slice (some ⟨g3,0,none⟩) (nB+1) c3)
          have hne3:g3≠s:=by have:=hws.out;have:=HST7.out;omega
          have h2:Blk (w10.setCell ⟨s,20,none⟩ (.slice (some ⟨g3,0,none⟩) (nB+1) c3)) s 75 (sessV { x with pa:=⟨some ⟨g2,0,none⟩,x.pa.n,c2⟩,bo:=⟨some ⟨g3,0,none⟩,nB+1,c3⟩ } { bj with spent:=bj.spent+p.price } now line more):=by simpa[sessV] using HK.out.set_ 20 (.slice (some ⟨g3,0,none⟩) (nB+1) c3)
          have h3:=HRW.out.fr hg HNE2.out
          have h4:=hg.rd HST.out fun ad e=>by cases e;exact HB0S.out.1
          have h5:=hg.rd HR3.out fun ad e=>by cases e;exact hne3
          have HF2:=hid h1;have HK2:=hid h2;have HRW2:=hid h3;have HST2:=hid h4;have HBO2:=hid h5;have HNE3:=hid hne3;clear h1 h2 h3 h4 h5 hne3 hg HF HK HRW HST HBO HR3
          go_roundw
          case rel =>
           refine⟨j+1,some ⟨g3,0,none⟩,nB+1,c3,by have:=HJ.out;omega,by go_num,HF2.out,?_,?_,HST2.out,?_,fun ad e=>by cases e;exact .inr (by have:=HGT7.out;dsimp only;omega),.inr (fun ad e=>by cases e;exact HST7.out)⟩<;>rw[HNX.out,buyOne_at HP.out,insAt_new HASC.out HIN.out]
           · exact HK2.out
           · exact HRW2.out
           · exact⟨HBO2.out,HC3.out,fun ad e=>by cases e;exact HNE3.out⟩
          case measure=>have:=HJ.out;simp[intOf]<;>omega
      · obtain rfl:j=nL:=by omega
        clear hf hkb hrw hst hbo hbf hbw hlt hj
        go_wp2_with fail
        go_end0
        rw[HR2.out]
        have hS:S.take j=S:=by rw[← HSN.out];exact List.take_length
        have h1:=HK.out;have h2:=HRW.out;have h3:=HBO.out;rw[hS] at h1 h2 h3;have hr:=HA.out.rows.fr HF.out;exact MethN.good (x:={ x with pa:=⟨some ⟨g2,0,none⟩,x.pa.n,c2⟩,bo:=⟨AB,nB,cB⟩ }) ⟨by simpa[sessV] using h1,⟨hr.co,by rw[buySet_same.1];exact hr.col,hr.cbed,by rw[buySet_same.2.1];exact hr.li,by rw[buySet_same.2.2.1];exact hr.ce,by rw[buySet_same.2.2.2.1];exact hr.da,by rw[buySet_same.2.2.2.2.1];exact hr.le,⟨h2.rd,HC2.out,fun ad e=>by cases e;exact HNE2.out⟩,hr.sl,by rw[buySet_same.2.2.2.2.2.1];exact hr.slc,hr.sway,h3,by rw[buySet_same.2.2.2.2.2.2];exact hr.rd⟩⟩ HF.out (fun G hG h=>{ h with pa:=fun ad e=>by cases e;have:=HGE2.out;dsimp only;omega,bo:=fun ad e hn=>HBW.out.elim (fun h9=>h.bo ad (by rw[← h9.1];exact e) (by rw[← h9.2];exact hn)) (fun h9=>by have:=h9 ad e;omega) })
end Go.Proofs.YtkhcliibilkefaaGreatDoor
