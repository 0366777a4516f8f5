/- METHOD: least. -/
import Derived.Test.YtkhcliibilkefaaGreatDoorYWords
import Derived.Test.YtkhcliibilkefaaGreatDoorYSlope
import Derived.Laws.Cover3
set_option linter.unusedVariables false
set_option linter.unusedSimpArgs false
set_option maxRecDepth 100000
set_option maxHeartbeats 8000000
namespace Go.Proofs.YtkhcliibilkefaaGreatDoor
open Lib (hid)
open Go.RowKit Go.Proofs
attribute [local go_sem ↓] Go.wp_at_zero Go.wp_at_succ
theorem least_m {s:Nat}{x:SAd}{b:Sess}{now line more:Int}{g c:Nat}{l:List Int}{w:World}(h:SAt w s x b now line more)(hok:SOk b)(hl:NumsAt w s g 1 l) :
 Calls Tryz.prog 72 #[.pointer (some ⟨s,0,none⟩),.slice (some ⟨g,0,none⟩) 1 c] w fun e w'=>MethN w.heap.size x s g now line more (sLeast b l) w e w':=by
 have HA:=hid h;have HB:=hid (Below.refl w.heap.size w);have HL:=hid hl
 have hlen:b.cols.length=x.co.n:=by rw[← h.rows.col,List.length_map,h.rows.co.len]
 have hcn:=hok.colN;unfold sLeast;rw[hlen]
 rcases Nat.eq_zero_or_pos x.co.n with h0 | h0
 · rw[if_pos h0]
   have d0:=h.blk.cell 0;simp[sessV] at d0;rw[h0] at d0;clear h hl hok h0 hlen hcn
   go_enter Tryz.func72,Tryz.ntmps72
   go_wp2_with fail
   go_at_call 54;refine(ask_f 8 _).mono ?_;rintro e w1 ⟨rfl,hb1⟩
   go_wp2_with fail
   exact⟨rfl,MethN.no (E:=8) (by decide) (HA.out.below hb1) (FrS.of_below hb1)⟩
 · rw[if_neg (by omega)]
   have hx12:x.co.n≤12:=by omega
   have hcol:=h.rows.col;have d0:=h.blk.cell 0;simp[sessV] at d0
   obtain⟨R,hR⟩:∃ R,R=if slopeOk b.cols (nth l 0) then done { b with least:=nth l 0 } else refuse b 1:=⟨_,rfl⟩
   rw[← hR];have HR:=hid hR;clear h hl hok hlen hcn hR
   go_enter Tryz.func72,Tryz.ntmps72
   go_wp2_with fail
   go_at_call 54;refine(ask_t 8 _).mono ?_;rintro e w1 ⟨rfl,hb9⟩;replace HB:=hdT HB hb9;clear hb9 ;clear d0 h0;have hA1:=HA.out.below HB.out;have d0:=hA1.blk.cell 0;have d1:=hA1.blk.cell 1;simp[sessV] at d0 d1;clear hA1
   go_upto_region 2 with fail
   have hb9:=(Below.refl w1.heap.size w1).alloc (Nat.le_refl _) (.cells #[.slice x.co.A x.co.n x.co.c,.int .i64 b.least] 27);have hn:=Blk.new w1 27 #[.slice x.co.A x.co.n x.co.c,.int .i64 b.least];have HSG:=hid (HB.out.size);replace HB:=hdT HB hb9;have HS:=hid hn;clear hb9 hn;revert HSG HB HS;generalize hgS:w1.heap.size=S;generalize (World.alloc w1 (.cells #[.slice x.co.A x.co.n x.co.c,.int .i64 b.least] 27))=w2;intro HSG HB HS;clear hgS;clear d0 d1;have n0:=(HL.out.below HB.out).cell (i:=0) (by decide);have f1:=HS.out.frozen 1;have s1:=HS.out.cell 1;simp at s1
   go_upto_region 3 with fail
   clear n0 f1 s1;have tHB:=HB.out.setCell (p:=⟨S,1,none⟩) HSG.out (.int .i64 (nth l 0));have tHS:=HS.out.set_ 1 (.int .i64 (nth l 0));simp only[List.setIfInBounds_toArray,List.set_cons_zero,List.set_cons_succ] at tHS;clear HB HS;have HB:=hid tHB;clear tHB;have HS:=hid tHS;clear tHS;revert HB HS;generalize (World.setCell w2 ⟨S,1,none⟩ (.int .i64 (nth l 0)))=w3;intro HB HS;have s0:=HS.out.cell 0;have s1:=HS.out.cell 1;simp at s0 s1;have hA1:=(HA.out.below HB.out).rows;have hc:=CheckSlope_c (c:=x.co.c) (least:=nth l 0) hA1.co.rd (fun i r hr=>(hA1.cbed i r hr).rd) (by unfold maxLen;omega);rw[hcol] at hc
   cases hs:slopeOk b.cols (nth l 0) with
   | true =>
    rw[hs] at hc;have HC:=hid hc;clear hc hA1
    go_wp2_with fail
    go_at_call 94;refine(HC.out).mono ?_;rintro e w1 ⟨rfl,hb9⟩;replace HB:=hdT HB hb9;replace HS:=hdB HS hb9;clear hb9 ;clear s0 s1 HC
    go_wp2_with fail
    go_at_call 93;refine(must_t _).mono ?_;rintro e w1 ⟨rfl,hb9⟩;replace HB:=hdT HB hb9;replace HS:=hdB HS hb9;clear hb9 ;have s0:=HS.out.cell 0;have s1:=HS.out.cell 1;simp at s0 s1;have hA1:=(HA.out.below HB.out).blk;have d0:=hA1.cell 0;have d1:=hA1.cell 1;have f0:=hA1.frozen 0;have f1:=hA1.frozen 1;simp[sessV] at d0 d1;clear hA1
    go_wp2_with fail
    go_end0
    have e:=HR.out;rw[hs,if_pos rfl] at e;rw[e];have hA1:=HA.out.below HB.out;have hf:FrS s w _:=((FrS.of_below HB.out).set (i:=0) (.slice x.co.A x.co.n x.co.c)).set (i:=1) (.int .i64 (nth l 0));have hr:=HA.out.rows.fr hf;exact MethN.good (x:=x) ⟨by simpa[sessV] using (hA1.blk.set_ 0 (.slice x.co.A x.co.n x.co.c)).set_ 1 (.int .i64 (nth l 0)),⟨hr.co,hr.col,hr.cbed,hr.li,hr.ce,hr.da,hr.le,hr.pa,hr.sl,hr.slc,hr.sway,hr.bo,hr.rd⟩⟩ hf (fun _ _ h=>h)
   | false =>
    rw[hs] at hc;have HC:=hid hc;clear hc hA1
    go_wp2_with fail
    go_at_call 94;refine(HC.out).mono ?_;rintro e w1 ⟨rfl,hb9⟩;replace HB:=hdT HB hb9;replace HS:=hdB HS hb9;clear hb9 ;clear s0 s1 HC
    go_wp2_with fail
    go_at_call 93;refine(must_f (E:=1) (by decide) _).mono ?_;rintro e w1 ⟨rfl,hb9⟩;replace HB:=hdT HB hb9;replace HS:=hdB HS hb9;clear hb9 
    go_wp2_with fail
    have e:=HR.out;rw[hs,if_neg (by decide)] at e;rw[e];exact⟨rfl,MethN.no (E:=1) (by decide) (HA.out.below HB.out) (FrS.of_below HB.out)⟩
def Vly.can (v:Vly):Vly:=⟨v.pars,(v.sls.map pslOf).map PSl.sli,v.s0,v.s1,v.s2⟩
theorem errV_can (v:Vly):errV v.can=errV v:=by
 have e:allB (sliOk v.pars.length) ((v.sls.map pslOf).map PSl.sli)=allB (sliOk v.pars.length) v.sls:=by
  simp only[allB,List.all_map];rfl
 simp only[errV,Vly.can,List.length_map,e]
theorem VOk.can {v:Vly}:VOk v.can↔VOk v:=by rw[← errV_zero,errV_can,errV_zero]
theorem Sess.vly_can {b:Sess}{SL:List Sli}(h:SL.map pslOf=b.sls):b.vly=(⟨b.pars,SL,b.t0,b.t1,b.t2⟩:Vly).can:=by
 simp only[Sess.vly,Vly.can,h]
theorem VOk.way12 {v:Vly}(h:VOk v){s:Sli}(hs:s∈v.sls):s.way.length≤12:=by
 obtain⟨i,hi⟩:=List.getElem?_of_mem hs;have h1:=h.slide hi;have h2:=nodup_len v.pars.length s.way (by simpa using h1.1.1) (by simpa using h1.1.2);have:=h.pn;omega
structure VRow (s:Nat) (w:World) (pa sl:Slc) (P:List Par) (SL:List Sli):Prop where
 pa:SRow s w encP 4 pa P
 sl:SRow s w encS 4 sl SL
 way:∀(i:Nat) (y:Sli),SL[i]?=some y→SRow s w enc1 1 ⟨y.A,y.n,y.c⟩ y.way
 small:∀ y∈SL,y.way.length≤1000
theorem VRow.rdv {s:Nat}{w:World}{pa sl:Slc}{P:List Par}{SL:List Sli}(h:VRow s w pa sl P SL)(s0 s1 s2:Int):RdV w pa.A pa.n sl.A sl.n ⟨P,SL,s0,s1,s2⟩ :=
 ⟨h.pa.rd,h.sl.rd,fun i y hy=>⟨(h.way i y hy).rd,by
  have h1:=h.small y (List.mem_of_getElem? hy);have h2:=(h.way i y hy).rd.len;dsimp only at h2
  unfold maxLen;omega,(h.way i y hy).cap⟩⟩
theorem VRow.fr {s:Nat}{w w':World}{pa sl:Slc}{P:List Par}{SL:List Sli}(h:VRow s w pa sl P SL)(hf:FrS s w w'):VRow s w' pa sl P SL :=
 ⟨h.pa.fr hf,h.sl.fr hf,fun i y hy=>(h.way i y hy).fr hf,h.small⟩
theorem SRows.vrow {s:Nat}{w:World}{x:SAd}{b:Sess}(h:SRows w s x b)(hok:SOk b):VRow s w x.pa x.sl b.pars x.SL:=by
 refine⟨h.pa,h.sl,h.sway,fun y hy=>?_⟩
 rcases hok.val with h0 | h0
 · have:x.SL.length=0:=by rw[← List.length_map (f:=pslOf),h.slc];exact h0.2
   rw[List.length_eq_zero_iff.1 this] at hy;cases hy
 · rw[Sess.vly_can h.slc,VOk.can] at h0
   have:=h0.way12 hy;omega
theorem settled_t {s:Nat}{x:SAd}{b:Sess}{now line more:Int}{w:World}(h:SAt w s x b now line more)(hp:¬ b.pars.length=0) :
 Calls Tryz.prog 104 #[.pointer (some ⟨s,0,none⟩)] w fun e w'=>e=.returned (.tuple #[])∧Below w.heap.size w w':=by
 have hl:=h.rows.pa.len
 have h0:0<x.pa.n:=by omega
 have d0:=h.blk.cell 14;simp[sessV] at d0;clear h hl hp
 go_enter Tryz.func104,Tryz.ntmps104
 go_wp2_with fail
 go_at_call 54;refine(ask_t 8 _).mono ?_;rintro e w1 ⟨rfl,hb1⟩
 go_wp2_with fail
 go_end0
 exact⟨rfl,hb1⟩
theorem settled_f {s:Nat}{x:SAd}{b:Sess}{now line more:Int}{w:World}(h:SAt w s x b now line more)(hp:b.pars.length=0) :
 Calls Tryz.prog 104 #[.pointer (some ⟨s,0,none⟩)] w fun e w'=>e=.panicked [{ v:=refV 8,recovered:=false }]∧Below w.heap.size w w':=by
 have hl:=h.rows.pa.len
 have h0:x.pa.n=0:=by omega
 have d0:=h.blk.cell 14;simp[sessV] at d0;rw[h0] at d0;clear h hl hp h0
 go_enter Tryz.func104,Tryz.ntmps104
 go_wp2_with fail
 go_at_call 54;refine(ask_f 8 _).mono ?_;rintro e w1 ⟨rfl,hb1⟩
 go_wp2_with fail
 exact⟨rfl,rfl,hb1⟩
theorem valley_m {s:Nat}{x:SAd}{b:Sess}{now line more:Int}{pa sl:Slc}{P:List Par}{SL:List Sli}{s0 s1 s2:Int}{w:World}(g:Nat)(h:SAt w s x b now line more)(hv:VRow s w pa sl P SL)(hpn:pa.n≤maxLen)(hsn:sl.n≤maxLen){B0:Nat}(haw:∀ G,G<B0→Away x G→Away { x with pa:=pa,sl:=sl,SL:=SL } G) :
 Calls Tryz.prog 103 #[.pointer (some ⟨s,0,none⟩),.agg #[.slice pa.A pa.n pa.c,.slice sl.A sl.n sl.c,.int .i64 s0,.int .i64 s1,.int .i64 s2]] w fun e w'=>MethN B0 x s g now line more (ifV b { b with pars:=P,sls:=SL.map pslOf,t0:=s0,t1:=s1,t2:=s2 }) w e w':=by
 have HA:=hid h;have HB:=hid (Below.refl w.heap.size w);have HV:=hid hv;have HAW:=hid haw;obtain⟨R,hR⟩:∃ R,R=ifV b { b with pars:=P,sls:=SL.map pslOf,t0:=s0,t1:=s1,t2:=s2 }:=⟨_,rfl⟩;rw[← hR];unfold ifV at hR;rw[Sess.vly_can (SL:=SL) rfl,errV_can] at hR;have HR:=hid hR;clear h hv hR haw
 go_enter Tryz.func103,Tryz.ntmps103
 go_upto_region 1 with fail
 have hb9:=(Below.refl w.heap.size w).alloc (Nat.le_refl _) (.cells #[.slice pa.A pa.n pa.c,.slice sl.A sl.n sl.c,.int .i64 s0,.int .i64 s1,.int .i64 s2] 39);have hn:=Blk.new w 39 #[.slice pa.A pa.n pa.c,.slice sl.A sl.n sl.c,.int .i64 s0,.int .i64 s1,.int .i64 s2];replace HB:=hdT HB hb9;have HS:=hid hn;clear hb9 hn;revert HB HS;generalize (World.alloc w (.cells #[.slice pa.A pa.n pa.c,.slice sl.A sl.n sl.c,.int .i64 s0,.int .i64 s1,.int .i64 s2] 39))=w2;intro HB HS;have y0:=HS.out.cell 0;have y1:=HS.out.cell 1;have y2:=HS.out.cell 2;have y3:=HS.out.cell 3;have y4:=HS.out.cell 4;simp at y0 y1 y2 y3 y4;have hc:=checkV_c (pc:=pa.c) (sc:=sl.c) ((HV.out.rdv s0 s1 s2).below HB.out) hpn hsn
 rcases Classical.em (errV ⟨P,SL,s0,s1,s2⟩=0) with hs | hs
 · rw[hs] at hc
   have HC:=hid hc;clear hc
   go_wp2_with fail
   go_at_call 137;refine(HC.out).mono ?_;rintro e w1 ⟨rfl,hb9⟩;replace HB:=hdT HB hb9;replace HS:=hdB HS hb9;clear hb9 ;clear y0 y1 y2 y3 y4 HC
   go_wp2_with fail
   go_at_call 93;refine(must_t _).mono ?_;rintro e w1 ⟨rfl,hb9⟩;replace HB:=hdT HB hb9;replace HS:=hdB HS hb9;clear hb9 ;have y0:=HS.out.cell 0;have y1:=HS.out.cell 1;have y2:=HS.out.cell 2;have y3:=HS.out.cell 3;have y4:=HS.out.cell 4;simp at y0 y1 y2 y3 y4;have hA1:=(HA.out.below HB.out).blk;have d0:=hA1.cell 14;have d1:=hA1.cell 15;have d2:=hA1.cell 16;have d3:=hA1.cell 17;have d4:=hA1.cell 18;have f0:=hA1.frozen 14;have f1:=hA1.frozen 15;have f2:=hA1.frozen 16;have f3:=hA1.frozen 17;have f4:=hA1.frozen 18;simp[sessV] at d0 d1 d2 d3 d4;clear hA1
   go_wp2_with fail
   go_end0
   have e:=HR.out;rw[if_neg (by rw[hs];simp)] at e;rw[e];have hA1:=HA.out.below HB.out;have hf:FrS s w _:=(((((FrS.of_below HB.out).set (i:=14) (.slice pa.A pa.n pa.c)).set (i:=15) (.slice sl.A sl.n sl.c)).set (i:=16) (.int .i64 s0)).set (i:=17) (.int .i64 s1)).set (i:=18) (.int .i64 s2);have hr:=HA.out.rows.fr hf;have hv:=HV.out.fr hf;exact MethN.good (x:={ x with pa:=pa,sl:=sl,SL:=SL }) ⟨by simpa[sessV] using ((((hA1.blk.set_ 14 (.slice pa.A pa.n pa.c)).set_ 15 (.slice sl.A sl.n sl.c)).set_ 16 (.int .i64 s0)).set_ 17 (.int .i64 s1)).set_ 18 (.int .i64 s2),⟨hr.co,hr.col,hr.cbed,hr.li,hr.ce,hr.da,hr.le,hv.pa,hv.sl,rfl,hv.way,hr.bo,hr.rd⟩⟩ hf HAW.out
 · have HC:=hid hc
   clear hc
   go_wp2_with fail
   go_at_call 137;refine(HC.out).mono ?_;rintro e w1 ⟨rfl,hb9⟩;replace HB:=hdT HB hb9;replace HS:=hdB HS hb9;clear hb9 ;clear y0 y1 y2 y3 y4 HC
   go_wp2_with fail
   go_at_call 93;refine(must_f hs _).mono ?_;rintro e w1 ⟨rfl,hb9⟩;replace HB:=hdT HB hb9;replace HS:=hdB HS hb9;clear hb9 
   go_wp2_with fail
   have e:=HR.out;rw[if_pos hs] at e;rw[e];exact⟨rfl,MethN.no hs (HA.out.below HB.out) (FrS.of_below HB.out)⟩
theorem steps_m {s:Nat}{x:SAd}{b:Sess}{now line more:Int}{g c:Nat}{l:List Int}{w:World}(h:SAt w s x b now line more)(hok:SOk b)(hl:NumsAt w s g 3 l) :
 Calls Tryz.prog 79 #[.pointer (some ⟨s,0,none⟩),.slice (some ⟨g,0,none⟩) 3 c] w fun e w'=>MethN w.heap.size x s g now line more (sSteps b l) w e w':=by
 have HA:=hid h;have HB:=hid (Below.refl w.heap.size w);have HL:=hid hl;have HOK:=hid hok;unfold sSteps
 by_cases h0:b.pars.length=0
 · rw[if_pos h0]
   have HS:=hid (settled_f h h0);clear h hl hok h0
   go_enter Tryz.func79,Tryz.ntmps79
   go_wp2_with fail
   go_at_call 104;refine HS.out.mono ?_;rintro e w1 ⟨rfl,hb1⟩
   go_wp2_with fail
   exact⟨rfl,MethN.no (E:=8) (by decide) (HA.out.below hb1) (FrS.of_below hb1)⟩
 · rw[if_neg h0]
   have HS:=hid (settled_t h h0)
   have hpn:x.pa.n≤maxLen:=by have:=h.rows.pa.len;have:=hok.parN;unfold maxLen;omega
   have hsn:x.sl.n≤maxLen:=by
    have h1:=h.rows.sl.len
    have h2:x.SL.length=b.sls.length:=by rw[← h.rows.slc,List.length_map]
    have h3:b.sls.length≤10:=by
     rcases hok.val with h4 | h4
     · omega
     · have:=h4.sn;simpa[Sess.vly] using this
    unfold maxLen;omega
   obtain⟨R,hR⟩:∃ R,R=ifV b { b with t0:=nth l 0,t1:=nth l 1,t2:=nth l 2 }:=⟨_,rfl⟩;rw[← hR];have HR:=hid hR;clear h hl hok h0 hR
   go_enter Tryz.func79,Tryz.ntmps79
   go_wp2_with fail
   go_at_call 104;refine(HS.out).mono ?_;rintro e w1 ⟨rfl,hb9⟩;replace HB:=hdT HB hb9;clear hb9 ;clear HS;have hA1:=(HA.out.below HB.out).blk;have d0:=hA1.cell 14;have d1:=hA1.cell 15;have d2:=hA1.cell 16;have d3:=hA1.cell 17;have d4:=hA1.cell 18;simp[sessV] at d0 d1 d2 d3 d4;clear hA1
   go_upto_region 2 with fail
   have hb9:=(Below.refl w1.heap.size w1).alloc (Nat.le_refl _) (.cells #[.slice x.pa.A x.pa.n x.pa.c,.slice x.sl.A x.sl.n x.sl.c,.int .i64 b.t0,.int .i64 b.t1,.int .i64 b.t2] 39);have hn:=Blk.new w1 39 #[.slice x.pa.A x.pa.n x.pa.c,.slice x.sl.A x.sl.n x.sl.c,.int .i64 b.t0,.int .i64 b.t1,.int .i64 b.t2];have HSG:=hid (HB.out.size);replace HB:=hdT HB hb9;have HS:=hid hn;clear hb9 hn;revert HSG HB HS;generalize hgS:w1.heap.size=S;generalize (World.alloc w1 (.cells #[.slice x.pa.A x.pa.n x.pa.c,.slice x.sl.A x.sl.n x.sl.c,.int .i64 b.t0,.int .i64 b.t1,.int .i64 b.t2] 39))=w2;intro HSG HB HS;clear hgS;clear d0 d1 d2 d3 d4;have hL1:=HL.out.below HB.out;have n0:=hL1.cell (i:=0) (by decide);have n1:=hL1.cell (i:=1) (by decide);have n2:=hL1.cell (i:=2) (by decide);have f2:=HS.out.frozen 2;have f3:=HS.out.frozen 3;have f4:=HS.out.frozen 4;have y2:=HS.out.cell 2;have y3:=HS.out.cell 3;have y4:=HS.out.cell 4;simp at y2 y3 y4;clear hL1;have hat:∀ w,(Instr.arrayAt 35 (.slice (some ⟨g,0,none⟩) 3 c)).run Tryz.prog w=.ok (.pointer (some ⟨g,0,none⟩)) w:=fun w=>run_arrayAt w 35 _ 3 _ 3 c Tryz.underlying35 (by decide)
   go_upto_region 3 with fail
   clear n0 n1 n2 f2 f3 f4 y2 y3 y4 hat;have tHB:=HB.out.setCell (p:=⟨S,2,none⟩) HSG.out (.int .i64 (nth l 0));have tHS:=HS.out.set_ 2 (.int .i64 (nth l 0));simp only[List.setIfInBounds_toArray,List.set_cons_zero,List.set_cons_succ] at tHS;clear HB HS;have HB:=hid tHB;clear tHB;have HS:=hid tHS;clear tHS;revert HB HS;generalize (World.setCell w2 ⟨S,2,none⟩ (.int .i64 (nth l 0)))=w3;intro HB HS;have tHB:=HB.out.setCell (p:=⟨S,3,none⟩) HSG.out (.int .i64 (nth l 1));have tHS:=HS.out.set_ 3 (.int .i64 (nth l 1));simp only[List.setIfInBounds_toArray,List.set_cons_zero,List.set_cons_succ] at tHS;clear HB HS;have HB:=hid tHB;clear tHB;have HS:=hid tHS;clear tHS;revert HB HS;generalize (World.setCell w3 ⟨S,3,none⟩ (.int .i64 (nth l 1)))=w4;intro HB HS;have tHB:=HB.out.setCell (p:=⟨S,4,none⟩) HSG.out (.int .i64 (nth l 2));have tHS:=HS.out.set_ 4 (.int .i64 (nth l 2));simp only[List.setIfInBounds_toArray,List.set_cons_zero,List.set_cons_succ] at tHS;clear HB HS;have HB:=hid tHB;clear tHB;have HS:=hid tHS;clear tHS;revert HB HS;generalize (World.setCell w4 ⟨S,4,none⟩ (.int .i64 (nth l 2)))=w5;intro HB HS;have y0:=HS.out.cell 0;have y1:=HS.out.cell 1;have y2:=HS.out.cell 2;have y3:=HS.out.cell 3;have y4:=HS.out.cell 4;simp at y0 y1 y2 y3 y4;have hA1:=HA.out.below HB.out;have hc:=valley_m (s0:=nth l 0) (s1:=nth l 1) (s2:=nth l 2) g hA1 (hA1.rows.vrow HOK.out) hpn hsn (B0:=w.heap.size) (fun G hG h=>{ h with });rw[hA1.rows.slc] at hc;have HC:=hid hc;clear hc hA1
   go_wp2_with fail
   go_at_call 103;refine HC.out.mono ?_;intro e w6 hm
   have hm:MethN w.heap.size x s g now line more R w e w6:=by rw[HR.out];exact hm.from_ HB.out
   rcases Classical.em (R.2=0) with h0 | h0
   · obtain rfl:=hm.ok h0
     go_wp2_with fail
     go_end0
     exact hm
   · obtain rfl:=hm.bad h0
     go_wp2_with fail
     exact⟨rfl,hm⟩
theorem parcel_m {s:Nat}{x:SAd}{b:Sess}{now line more:Int}{g c:Nat}{l:List Int}{w:World}(h:SAt w s x b now line more)(hok:SOk b)(hl:NumsAt w s g 4 l) :
 Calls Tryz.prog 78 #[.pointer (some ⟨s,0,none⟩),.slice (some ⟨g,0,none⟩) 4 c] w fun e w'=>MethN w.heap.size x s g now line more (sParcel b l) w e w':=by
 have HA:=hid h;have HB:=hid (Below.refl w.heap.size w);have HL:=hid hl;have HOK:=hid hok;unfold sParcel;have n3:=hl.cell (i:=3) (by decide)
 cases h0:inB (nth l 3) 0 1 with
 | false =>
  rw[if_neg (by decide)];have HS:=hid (wwithin_c (nth l 3) 0 1 w);rw[h0] at HS;clear h hl hok h0
  go_enter Tryz.func78,Tryz.ntmps78
  go_wp2_with fail
  go_at_call 37;refine(HS.out).mono ?_;rintro e w1 ⟨rfl,hb9⟩;replace HB:=hdT HB hb9;clear hb9 ;clear n3 HS
  go_wp2_with fail
  go_at_call 54;refine(ask_f 2 _).mono ?_;rintro e w1 ⟨rfl,hb9⟩;replace HB:=hdT HB hb9;clear hb9 
  go_wp2_with fail
  exact⟨rfl,MethN.no (E:=2) (by decide) (HA.out.below HB.out) (FrS.of_below HB.out)⟩
 | true =>
  rw[if_pos rfl];have HS:=hid (wwithin_c (nth l 3) 0 1 w);rw[h0] at HS
  have hpn:x.pa.n≤12:=by have:=h.rows.pa.len;have:=hok.parN;omega
  have hsn:x.sl.n≤maxLen:=by
   have h1:=h.rows.sl.len
   have h2:x.SL.length=b.sls.length:=by rw[← h.rows.slc,List.length_map]
   have h3:b.sls.length≤10:=by
    rcases hok.val with h4 | h4
    · omega
    · have:=h4.sn;simpa[Sess.vly] using this
   unfold maxLen;omega
  obtain⟨p,hp⟩:∃ p:Par,p=⟨nth l 0,nth l 1,nth l 2,decide (nth l 3=1)⟩:=⟨_,rfl⟩;obtain⟨R,hR⟩:∃ R,R=ifV b { b with pars:=b.pars++[p] }:=⟨_,rfl⟩;rw[← hp,← hR];have HR:=hid hR;have HP:=hid hp;have hws:=hid h.blk.lt;clear h hl hok h0 hR hp
  go_enter Tryz.func78,Tryz.ntmps78
  go_wp2_with fail
  go_at_call 37;refine(HS.out).mono ?_;rintro e w1 ⟨rfl,hb9⟩;replace HB:=hdT HB hb9;clear hb9 ;clear n3 HS
  go_wp2_with fail
  go_at_call 54;refine(ask_t 2 _).mono ?_;rintro e w1 ⟨rfl,hb9⟩;replace HB:=hdT HB hb9;clear hb9 ;have hA1:=(HA.out.below HB.out).blk;have d0:=hA1.cell 14;have d1:=hA1.cell 15;have d2:=hA1.cell 16;have d3:=hA1.cell 17;have d4:=hA1.cell 18;simp[sessV] at d0 d1 d2 d3 d4;clear hA1
  go_upto_region 2 with fail
  have hb9:=(Below.refl w1.heap.size w1).alloc (Nat.le_refl _) (.cells #[.slice x.pa.A x.pa.n x.pa.c,.slice x.sl.A x.sl.n x.sl.c,.int .i64 b.t0,.int .i64 b.t1,.int .i64 b.t2] 39);have hn:=Blk.new w1 39 #[.slice x.pa.A x.pa.n x.pa.c,.slice x.sl.A x.sl.n x.sl.c,.int .i64 b.t0,.int .i64 b.t1,.int .i64 b.t2];have HSG:=hid (HB.out.size);replace HB:=hdT HB hb9;have HS:=hid hn;clear hb9 hn;revert HSG HB HS;generalize hgS:w1.heap.size=S;generalize (World.alloc w1 (.cells #[.slice x.pa.A x.pa.n x.pa.c,.slice x.sl.A x.sl.n x.sl.c,.int .i64 b.t0,.int .i64 b.t1,.int .i64 b.t2] 39))=w2;intro HSG HB HS;clear hgS;clear d0 d1 d2 d3 d4;have hL1:=HL.out.below HB.out;have n0:=hL1.cell (i:=0) (by decide);have n1:=hL1.cell (i:=1) (by decide);have n2:=hL1.cell (i:=2) (by decide);have n3:=hL1.cell (i:=3) (by decide);have y0:=HS.out.cell 0;simp at y0;clear hL1;refine wp_region_till [18] (fun U=>U.cell? ⟨S,0,none⟩=some (.slice x.pa.A x.pa.n x.pa.c)∧U.cell? ⟨g,0,none⟩=some (.int .i64 (nth l 0))∧U.cell? ⟨g,1,none⟩=some (.int .i64 (nth l 1))∧U.cell? ⟨g,2,none⟩=some (.int .i64 (nth l 2))∧U.cell? ⟨g,3,none⟩=some (.int .i64 (nth l 3))) (by kernel_rfl) (by exact⟨y0,n0,n1,n2,n3⟩) (fun hHeld=>?_);have hb9:=(Below.refl w2.heap.size w2).drew;replace HB:=hdT HB hb9;replace HS:=hdB HS hb9;clear hb9;revert hHeld HB HS;generalize w2.drew=w0;intro hHeld HB HS;refine tk 0 0 ?_;refine tk 0 1 ?_;refine tk 0 2 ?_;refine tk 0 3 ?_;refine tk 0 4 ?_;refine tk 0 5 ?_;refine tk 0 6 ?_;refine tk 0 7 ?_;refine tk 0 8 ?_
  refine tk 0 9 ?_;refine tk 0 10 ?_;refine tk 0 11 ?_;refine tk 0 12 ?_;refine tk 0 13 ?_;refine tk 0 14 ?_;refine tk 0 15 ?_;refine ar [16] (ac (fun K hK=>?_) an);go_simp;go_at_call 102;refine(withPar_c ⟨nth l 0,nth l 1,nth l 2,nth l 3 == 1⟩ (HA.out.below HB.out).rows.pa.rd (by omega)).mono ?_;rintro e w1 ⟨g2,cap2,rfl,hcap,hge,hrd,hb9⟩;have HGE:=hid (Nat.le_trans HB.out.size hge);have HCAP:=hid hcap;have HNE:Hid (g2≠S):=hid (by have:=HS.out.lt;omega);clear hge hcap;replace HB:=hdT HB hb9;replace HS:=hdB HS hb9;have HRD:=hid hrd;clear hb9 hrd;(try go_wp2_with fail);(try clear hHeld);refine hK.out _ _ (by(try dsimp only);exact⟨by simpa using HS.out.cell 0,(HL.out.below HB.out).cell (by decide),(HL.out.below HB.out).cell (by decide),(HL.out.below HB.out).cell (by decide),(HL.out.below HB.out).cell (by decide)⟩) (fun hHeld=>?_);clear hK K;refine pt ?_;refine tk 0 17 ?_;refine ar [18] (al (fun K hK=>?_) an);have s0:=HS.out.cell 0;have f0:=HS.out.frozen 0;simp at s0;go_simp;(try clear hHeld);refine hK.out _ _ ?_;clear hK K;refine pt ?_;refine td ?_;clear s0 f0;have tHB:=HB.out.setCell (p:=⟨S,0,none⟩) HSG.out (.slice (some ⟨g2,0,none⟩) (x.pa.n+1) cap2);have tHS:=HS.out.set_ 0 (.slice (some ⟨g2,0,none⟩) (x.pa.n+1) cap2);simp only[List.setIfInBounds_toArray,List.set_cons_zero,List.set_cons_succ] at tHS;have tHRD:=((FrS.refl S w1).set (i:=0) (.slice (some ⟨g2,0,none⟩) (x.pa.n+1) cap2)).rd HRD.out (fun ad e=>by cases e;exact HNE.out);clear HB HS HRD;have HB:=hid tHB;clear tHB
  have HS:=hid tHS;clear tHS;have HRD:=hid tHRD;clear tHRD;revert HB HS HRD;generalize (World.setCell w1 ⟨S,0,none⟩ (.slice (some ⟨g2,0,none⟩) (x.pa.n+1) cap2))=w5;intro HB HS HRD;have y0:=HS.out.cell 0;have y1:=HS.out.cell 1;have y2:=HS.out.cell 2;have y3:=HS.out.cell 3;have y4:=HS.out.cell 4;simp at y0 y1 y2 y3 y4;have hA1:=HA.out.below HB.out;have hv:=hA1.rows.vrow HOK.out
  have hv2:VRow s w5 ⟨some ⟨g2,0,none⟩,x.pa.n+1,cap2⟩ x.sl (b.pars++[p]) x.SL :=
   ⟨⟨by rw[HP.out];exact HRD.out,HCAP.out,fun ad e=>by cases e;have:=hws.out;have:=HGE.out;dsimp only;omega⟩,hv.sl,hv.way,hv.small⟩
  have hc:=valley_m (s0:=b.t0) (s1:=b.t1) (s2:=b.t2) g hA1 hv2 (by dsimp only;unfold maxLen;omega) hsn (B0:=w.heap.size) (fun G hG h=>{ h with pa:=fun ad e=>by cases e;have:=HGE.out;dsimp only;omega });rw[hA1.rows.slc] at hc;have HC:=hid hc;clear hc hA1 hv hv2
  go_wp2_with fail
  go_at_call 103;refine HC.out.mono ?_;intro e w6 hm
  have hm:MethN w.heap.size x s g now line more R w e w6:=by rw[HR.out];exact hm.from_ HB.out
  rcases Classical.em (R.2=0) with h0 | h0
  · obtain rfl:=hm.ok h0
    go_wp2_with fail
    go_end0
    exact hm
  · obtain rfl:=hm.bad h0
    go_wp2_with fail
    exact⟨rfl,hm⟩
theorem slide_m {s:Nat}{x:SAd}{b:Sess}{now line more:Int}{g c:Nat}{l:List Int}{w:World}(h:SAt w s x b now line more)(hok:SOk b)(hl:NumsAt w s g 2 l) :
 Calls Tryz.prog 80 #[.pointer (some ⟨s,0,none⟩),.slice (some ⟨g,0,none⟩) 2 c] w fun e w'=>MethN w.heap.size x s g now line more (sSlide b l) w e w':=by
 have HA:=hid h;have HB:=hid (Below.refl w.heap.size w);have HL:=hid hl;have HOK:=hid hok;unfold sSlide
 by_cases h0:b.pars.length=0
 · rw[if_pos h0]
   have HS:=hid (settled_f h h0);clear h hl hok h0
   go_enter Tryz.func80,Tryz.ntmps80
   go_wp2_with fail
   go_at_call 104;refine HS.out.mono ?_;rintro e w1 ⟨rfl,hb1⟩
   go_wp2_with fail
   exact⟨rfl,MethN.no (E:=8) (by decide) (HA.out.below hb1) (FrS.of_below hb1)⟩
 · rw[if_neg h0]
   have HS:=hid (settled_t h h0)
   have hpn:x.pa.n≤maxLen:=by have:=h.rows.pa.len;have:=hok.parN;unfold maxLen;omega
   have hsn:x.sl.n≤10:=by
    have h1:=h.rows.sl.len
    have h2:x.SL.length=b.sls.length:=by rw[← h.rows.slc,List.length_map]
    have h3:b.sls.length≤10:=by
     rcases hok.val with h4 | h4
     · omega
     · have:=h4.sn;simpa[Sess.vly] using this
    omega
   obtain⟨R,hR⟩:∃ R,R=ifV b { b with sls:=b.sls++[⟨[nth l 1],nth l 0,0,1⟩] }:=⟨_,rfl⟩;rw[← hR];have HR:=hid hR;have hws:=hid h.blk.lt;clear h hl hok h0 hR
   go_enter Tryz.func80,Tryz.ntmps80
   go_wp2_with fail
   go_at_call 104;refine(HS.out).mono ?_;rintro e w1 ⟨rfl,hb9⟩;replace HB:=hdT HB hb9;clear hb9 ;clear HS;have hA1:=(HA.out.below HB.out).blk;have d0:=hA1.cell 14;have d1:=hA1.cell 15;have d2:=hA1.cell 16;have d3:=hA1.cell 17;have d4:=hA1.cell 18;simp[sessV] at d0 d1 d2 d3 d4;clear hA1
   go_upto_region 2 with fail
   have hb9:=(Below.refl w1.heap.size w1).alloc (Nat.le_refl _) (.cells #[.slice x.pa.A x.pa.n x.pa.c,.slice x.sl.A x.sl.n x.sl.c,.int .i64 b.t0,.int .i64 b.t1,.int .i64 b.t2] 39);have hn:=Blk.new w1 39 #[.slice x.pa.A x.pa.n x.pa.c,.slice x.sl.A x.sl.n x.sl.c,.int .i64 b.t0,.int .i64 b.t1,.int .i64 b.t2];have HSG:=hid (HB.out.size);replace HB:=hdT HB hb9;have HS:=hid hn;clear hb9 hn;revert HSG HB HS;generalize hgS:w1.heap.size=S;generalize (World.alloc w1 (.cells #[.slice x.pa.A x.pa.n x.pa.c,.slice x.sl.A x.sl.n x.sl.c,.int .i64 b.t0,.int .i64 b.t1,.int .i64 b.t2] 39))=w2;intro HSG HB HS;clear hgS;clear d0 d1 d2 d3 d4;have hL1:=HL.out.below HB.out;have n0:=hL1.cell (i:=0) (by decide);have n1:=hL1.cell (i:=1) (by decide);have y1:=HS.out.cell 1;simp at y1;clear hL1;refine wp_region_till [13] (fun U=>U.cell? ⟨S,1,none⟩=some (.slice x.sl.A x.sl.n x.sl.c)∧U.cell? ⟨g,0,none⟩=some (.int .i64 (nth l 0))∧U.cell? ⟨g,1,none⟩=some (.int .i64 (nth l 1))) (by kernel_rfl) (by exact⟨y1,n0,n1⟩) (fun hHeld=>?_);have hb9:=(Below.refl w2.heap.size w2).drew;replace HB:=hdT HB hb9;replace HS:=hdB HS hb9;clear hb9;revert hHeld HB HS;generalize w2.drew=w0;intro hHeld HB HS;refine tk 0 0 ?_;refine tk 0 1 ?_;refine tk 0 2 ?_;refine tk 0 3 ?_;refine tk 0 4 ?_;refine tk 0 6 ?_;refine tk 0 7 ?_;refine tk 0 8 ?_;refine tk 0 9 ?_;refine ar [5] (ac (fun K hK=>?_) an);go_simp;have hb9:=(Below.refl w0.heap.size w0).alloc (Nat.le_refl _) (.cells #[.int .i64 (nth l 1)] 3)
   have hn:=Blk.new w0 3 #[.int .i64 (nth l 1)];have HNA:Hid (w0.heap.size≠S):=hid (by have:=HS.out.lt;omega);have HGA:=hid HB.out.size;replace HB:=hdT HB hb9;replace HS:=hdB HS hb9;have HW:=hid hn;clear hb9 hn;(try clear hHeld);refine hK.out _ _ (by(try dsimp only);exact⟨by simpa using HS.out.cell 1,(HL.out.below HB.out).cell (by decide),(HL.out.below HB.out).cell (by decide)⟩) (fun hHeld=>?_);clear hK K;refine pt ?_;revert hHeld HNA HGA HB HS HW;generalize hgA:w0.heap.size=gA;generalize (World.alloc w0 (.cells #[.int .i64 (nth l 1)] 3))=w0;intro HNA HGA HB HS HW hHeld;clear hgA;refine tk 0 10 ?_;refine ar [11] (ac (fun K hK=>?_) an);go_simp;go_at_call 105;refine(withSli_c ⟨some ⟨gA,0,none⟩,1,1,[nth l 1],nth l 0,0,1⟩ (HA.out.below HB.out).rows.sl.rd (by omega)).mono ?_;rintro e w1 ⟨g2,cap2,rfl,hcap,hge,hrd,hb9⟩;have HGE:=hid (Nat.le_trans HB.out.size hge);have HCAP:=hid hcap;have HNE:Hid (g2≠S):=hid (by have:=HS.out.lt;omega);clear hge hcap;replace HB:=hdT HB hb9;replace HS:=hdB HS hb9;replace HW:=hdB HW hb9;have HRD:=hid hrd;clear hb9 hrd;(try go_wp2_with fail);(try clear hHeld);refine hK.out _ _ (by(try dsimp only);exact⟨by simpa using HS.out.cell 1,(HL.out.below HB.out).cell (by decide),(HL.out.below HB.out).cell (by decide)⟩) (fun hHeld=>?_);clear hK K;refine pt ?_;refine tk 0 12 ?_;refine ar [13] (al (fun K hK=>?_) an);have s0:=HS.out.cell 1;have f0:=HS.out.frozen 1;simp at s0;go_simp;(try clear hHeld);refine hK.out _ _ ?_;clear hK K;refine pt ?_;refine td ?_
   clear s0 f0;have tHB:=HB.out.setCell (p:=⟨S,1,none⟩) HSG.out (.slice (some ⟨g2,0,none⟩) (x.sl.n+1) cap2);have tHS:=HS.out.set_ 1 (.slice (some ⟨g2,0,none⟩) (x.sl.n+1) cap2);simp only[List.setIfInBounds_toArray,List.set_cons_zero,List.set_cons_succ] at tHS;have tHW:=HW.out.far (p:=⟨S,1,none⟩) (HNA.out) (.slice (some ⟨g2,0,none⟩) (x.sl.n+1) cap2);have tHRD:=((FrS.refl S w1).set (i:=1) (.slice (some ⟨g2,0,none⟩) (x.sl.n+1) cap2)).rd HRD.out (fun ad e=>by cases e;exact HNE.out);clear HB HS HW HRD;have HB:=hid tHB;clear tHB;have HS:=hid tHS;clear tHS;have HW:=hid tHW;clear tHW;have HRD:=hid tHRD;clear tHRD;revert HB HS HW HRD;generalize (World.setCell w1 ⟨S,1,none⟩ (.slice (some ⟨g2,0,none⟩) (x.sl.n+1) cap2))=w5;intro HB HS HW HRD;have y0:=HS.out.cell 0;have y1:=HS.out.cell 1;have y2:=HS.out.cell 2;have y3:=HS.out.cell 3;have y4:=HS.out.cell 4;simp at y0 y1 y2 y3 y4;have hA1:=HA.out.below HB.out;have hv:=hA1.rows.vrow HOK.out;have hwr:SRow s w5 enc1 1 ⟨some ⟨gA,0,none⟩,1,1⟩ [nth l 1]:=⟨Rd.of_blkE (k:=1) enc1_len HW.out (l:=[nth l 1]) rfl rfl,Nat.le_refl _,fun ad e=>by cases e;have:=hws.out;have:=HGA.out;dsimp only;omega⟩
   have hv2:VRow s w5 x.pa ⟨some ⟨g2,0,none⟩,x.sl.n+1,cap2⟩ b.pars (x.SL++[⟨some ⟨gA,0,none⟩,1,1,[nth l 1],nth l 0,0,1⟩]):=by
    refine⟨hv.pa,⟨HRD.out,HCAP.out,fun ad e=>by cases e;have:=hws.out;have:=HGE.out;dsimp only;omega⟩,fun i y hy=>?_,fun y hy=>?_⟩
    · rcases Nat.lt_or_ge i x.SL.length with hi | hi
      · rw[List.getElem?_append_left hi] at hy;exact hv.way i y hy
      · rw[List.getElem?_append_right hi] at hy
        have:=List.mem_of_getElem? hy;rw[List.mem_singleton.1 this];exact hwr
    · rcases List.mem_append.1 hy with hy | hy
      · exact hv.small y hy
      · rw[List.mem_singleton.1 hy];exact(by decide:1≤1000)
   have hSLa:∀ G,G<w.heap.size→Away x G→∀(i:Nat) (y:Sli),(x.SL++[(⟨some ⟨gA,0,none⟩,1,1,[nth l 1],nth l 0,0,1⟩:Sli)])[i]?=some y→∀ ad,y.A=some ad→ad.block≠G:=fun G hG h i y hy=>by
    rcases Nat.lt_or_ge i x.SL.length with hi | hi
    · rw[List.getElem?_append_left hi] at hy;exact h.SL i y hy
    · rw[List.getElem?_append_right hi] at hy
      rw[List.mem_singleton.1 (List.mem_of_getElem? hy)];intro ad e;cases e;have:=HGA.out;dsimp only;omega
   have hc:=valley_m (s0:=b.t0) (s1:=b.t1) (s2:=b.t2) g hA1 hv2 hpn (by dsimp only;unfold maxLen;omega) (B0:=w.heap.size) (fun G hG h=>{ h with sl:=fun ad e=>by cases e;have:=HGE.out;dsimp only;omega,SL:=hSLa G hG h });rw[show(x.SL++[(⟨some ⟨gA,0,none⟩,1,1,[nth l 1],nth l 0,0,1⟩:Sli)]).map pslOf=b.sls++[⟨[nth l 1],nth l 0,0,1⟩] by rw[List.map_append,hA1.rows.slc];rfl] at hc;have HC:=hid hc;clear hc hA1 hv hv2 hwr
   go_wp2_with fail
   go_at_call 103;refine HC.out.mono ?_;intro e w6 hm
   have hm:MethN w.heap.size x s g now line more R w e w6:=by rw[HR.out];exact hm.from_ HB.out
   rcases Classical.em (R.2=0) with h0 | h0
   · obtain rfl:=hm.ok h0
     go_wp2_with fail
     go_end0
     exact hm
   · obtain rfl:=hm.bad h0
     go_wp2_with fail
     exact⟨rfl,hm⟩
end Go.Proofs.YtkhcliibilkefaaGreatDoor
