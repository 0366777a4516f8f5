/- CONTRACT of (*session).wet: the slope with the water of all cells. -/
import Derived.Test.YtkhcliibilkefaaGreatDoorYRest
set_option linter.unusedVariables false
set_option linter.unusedSimpArgs false
set_option maxRecDepth 100000
set_option maxHeartbeats 8000000
namespace Go.Proofs.YtkhcliibilkefaaGreatDoor
open Lib (hid)
open Go.RowKit Go.Proofs
attribute [local go_sem ↓] Go.wp_at_zero Go.wp_at_succ
structure WetA (w:World) (b:Sess) (R S g n B1:Nat) (v:Value) (CL:List ColR) (k:Nat) (W:World):Prop where
 sb:Blk W S 27 #[v,.int .i64 b.least]
 rb:Blk W R 27 #[.slice none 0 0,.int .i64 0]
 own:W.ownsRow B1 154 1 v k (CL.flatMap encC)
 len:CL.length=k
 beds:∀(i:Nat) (r:ColR),CL[i]?=some r→∃ q,r.A=some ⟨q,0,none⟩∧Blk W q 157 (encBed r.bed).toArray
 rows:Rd enc2 2 W (some ⟨g,0,none⟩) n (levL b n)
 lo:g<S∧S<B1∧R<S∧w.heap.size≤R
 bel:Below w.heap.size w W
 sz:B1≤W.heap.size
section
variable {w W W':World} {b:Sess} {R S g n B1 k:Nat} {v:Value} {CL:List ColR}
theorem WetA.fr (h:WetA w b R S g n B1 v CL k W){Z:Nat→Prop}(hf:Fr Z W W')(hz:∀ q,Z q→w.heap.size≤q∧q≠S∧q≠R∧v.ownBlock≠some q∧q≠g∧∀(i:Nat) (r:ColR),CL[i]?=some r→r.A≠some ⟨q,0,none⟩):WetA w b R S g n B1 v CL k W' :=
 ⟨hf.blk h.sb fun e=>(hz _ e).2.1 rfl,hf.blk h.rb fun e=>(hz _ e).2.2.1 rfl,hf.row h.own fun q hq e=>(hz _ e).2.2.2.1 hq,h.len,fun i r hr=>by
  obtain⟨q,e,hb⟩:=h.beds i r hr
  exact⟨q,e,hf.blk hb fun e2=>(hz _ e2).2.2.2.2.2 i r hr e⟩,hf.rd h.rows fun ad e hz'=>(hz _ hz').2.2.2.2.1 (by cases e;rfl),h.lo,h.bel.trans (hf.below h.bel.size fun q hq=>(hz q hq).1),Nat.le_trans h.sz hf.size⟩
theorem WetA.below (h:WetA w b R S g n B1 v CL k W)(hb:Below W.heap.size W W'):WetA w b R S g n B1 v CL k W' :=
 h.fr (Fr.of_below hb fun _=>False) fun _ h=>h.elim
theorem WetA.grow (h:WetA w b R S g n B1 v CL k W){q:Nat}{d:BedS}(hq:Blk W q 157 (encBed d).toArray){v':Value}(hown:W'.ownsRow B1 154 1 v' (k+1) ((CL++[(⟨some ⟨q,0,none⟩,1,d⟩:ColR)]).flatMap encC))(hgr:W.grownBy W' v.ownBlock) :
 WetA w b R S g n B1 v' (CL++[⟨some ⟨q,0,none⟩,1,d⟩]) (k+1) (W'.setCell ⟨S,0,none⟩ v'):=by
 have hf:Fr (fun q=>v.ownBlock=some q) W W':=Fr.of_grown hgr fun q e _=>e;have hlo:=h.lo;have hob:∀ q,v.ownBlock=some q→B1≤q:=fun q e=>(h.own.lt q e).1;have kb:∀ {q:Nat} {t:TypeId} {cs:Array Value},Blk W q t cs→t≠154→Blk W' q t cs:=fun hb ht=>hf.blk hb fun e=>own_blk_ne h.own hb (fun e'=>ht e'.symm) e;have hs:=kb h.sb (by decide);have hs2:Fr (fun q=>q=S) W' (W'.setCell ⟨S,0,none⟩ v'):=Fr.setAt (E:=fun q=>q=S) (Fr.refl _ W') (p:=⟨S,0,none⟩) (.inl rfl) v';refine⟨by simpa using hs.set_ 0 v',hs2.blk (kb h.rb (by decide)) (by omega),hs2.row hown fun q hq e=>by have:=(hown.lt q hq).1;omega,by simp[h.len],fun i r hr=>?_,hs2.rd (hf.rd h.rows fun ad e e2=>by cases e;have:=hob _ e2;dsimp only at this;omega) fun ad e e2=>by cases e;dsimp only at e2;omega,hlo,(h.bel.trans (hf.below h.bel.size fun q e=>by have:=hob q e;omega)).setCell (p:=⟨S,0,none⟩) (by dsimp only;omega) _,Nat.le_trans h.sz (Nat.le_trans hf.size hs2.size)⟩
 rcases Nat.lt_or_ge i CL.length with hi | hi
 · rw[List.getElem?_append_left hi] at hr
   obtain⟨q2,e,hb⟩:=h.beds i r hr;exact⟨q2,e,hs2.blk (kb hb (by decide)) (hb.ne h.sb (by decide))⟩
 · rw[List.getElem?_append_right hi] at hr
   obtain rfl:=List.mem_singleton.1 (List.mem_of_getElem? hr);exact⟨q,rfl,hs2.blk (kb hq (by decide)) (hq.ne h.sb (by decide))⟩
end
set_option linter.unnecessarySimpa false in
theorem wet_c {s:Nat}{x:SAd}{b:Sess}{now line more:Int}{w:World}(h:SAt w s x b now line more)(hf:faultW b.cells b.sn0 b.sn1 b.so0 b.so1 b.melt b.days=0)(hd:b.days.length≠0)(hl:b.links.length=b.cols.length)(hlk:∀ c∈b.links,-1≤c∧c<b.cells.length)(hn:b.cols.length≤12) :
 Calls Tryz.prog 136 #[.pointer (some ⟨s,0,none⟩)] w fun e w'=>∃ A n c CL,e=.returned (.agg #[.slice A n c,.int .i64 b.least])∧CW w'.heap.size w' A n CL∧CL.map (·.bed)=wetS b∧Below w.heap.size w w':=by
 have hcn:b.cols.length=x.co.n:=by rw[← h.rows.col,List.length_map,h.rows.co.len]
 have hwb:=fun i=>waters_bd hf i;have hce:=h.rows.ce.len;have hwc:=fun(W:World) (hW:Below w.heap.size w W)=>water_c (h.below hW) hf hd;have HA:=hid h;have HB:=hid (Below.refl w.heap.size w);have HWC:=hid hwc;have HWB:=hid hwb;have HLK:=hid hlk;have HCE:=hid hce;have HN:=hid (show x.co.n≤12 by omega);have HCN:=hid hcn;have HLI:=hid (show x.li.n=x.co.n by have:=h.rows.li.len;omega);have HLL:=hid hl;obtain⟨i0,hi0,hz0,hz1,hz2⟩:=info_parts infoCol;have HI:=hid hi0;have HZ0:=hid hz0;have HZ1:=hid hz1;have HZ2:=hid hz2;have HCEP:=hid (show 0<x.ce.n by have:=(groundOk_iff.1 (faultW_zero.1 hf).1).1;omega);clear hi0 hz0 hz1 hz2 h hf hd hl hlk hn hcn hwb hce hwc
 go_enter Tryz.func136,Tryz.ntmps136
 go_upto_region 1 with fail
 have hb9:=(Below.refl w.heap.size w).alloc (Nat.le_refl _) (.cells #[.slice none 0 0,.int .i64 0] 27);have hn:=Blk.new w 27 #[.slice none 0 0,.int .i64 0];replace HB:=hdT HB hb9;have HR:=hid hn;clear hb9 hn;revert HB HR;generalize (World.alloc w (.cells #[.slice none 0 0,.int .i64 0] 27))=w1;intro HB HR
 go_wp2_with fail
 go_at_call 180;refine(HWC.out _ HB.out).mono ?_;rintro e w2 ⟨g,rfl,hrd,hb9⟩;have HGL:=hid (show g<w2.heap.size from by obtain⟨b0,o0,e0,h0,_⟩:=hrd.2 HCEP.out;cases e0;exact h0);replace HB:=hdT HB hb9;replace HR:=hdB HR hb9;have HRD:=hid hrd;clear hb9 hrd;clear HWC;have d1:=(HA.out.below HB.out).blk.cell 1;simp[sessV] at d1
 go_upto_region 3 with fail
 have hb9:=(Below.refl w2.heap.size w2).alloc (Nat.le_refl _) (.cells #[.slice none 0 0,.int .i64 b.least] 27);have hn:=Blk.new w2 27 #[.slice none 0 0,.int .i64 b.least];have HRS:=hid (HR.out.lt);have HGS:=hid (show g<w2.heap.size from HGL.out);have HSG:=hid (HB.out.size);replace HB:=hdT HB hb9;replace HR:=hdB HR hb9;replace HRD:=hid (HRD.out.below hb9);have HS:=hid hn;clear hb9 hn;revert HRS HGS HSG HB HR HRD HS;generalize hgS:w2.heap.size=S;generalize (World.alloc w2 (.cells #[.slice none 0 0,.int .i64 b.least] 27))=w3;intro HRS HGS HSG HB HR HRD HS;clear hgS;clear d1;have hS:=HS.out.lt;have hA:WetA w b w.heap.size S g x.ce.n w3.heap.size (.slice none 0 0) [] 0 w3:=⟨HS.out,HR.out,World.ownsRow_nil _ _ _ _,rfl,fun i r hr=>by simp at hr,HRD.out,⟨HGS.out,hS,HRS.out,Nat.le_refl _⟩,HB.out,Nat.le_refl _⟩;obtain⟨B1,hB1⟩:∃ B1,B1=w3.heap.size:=⟨_,rfl⟩;rw[← hB1] at hA;have HW:=hid hA;have d0:=(HA.out.below HB.out).blk.cell 0;simp[sessV] at d0;obtain⟨A0,hA0⟩:∃ A0,A0=x.co.A:=⟨_,rfl⟩;obtain⟨A2,hA2⟩:∃ A2,A2=x.li.A:=⟨_,rfl⟩;rw[← hA0] at d0;have HA0:=hid hA0;have HA2:=hid hA2;clear hA0 hA2;clear hA hS hB1 HB HR HRD HS HRS HGS HSG
 go_wp2_with fail
 clear d0
 go_loopw [25] (fun i wr=>∃(j:Nat) (v:Value) (CL:List ColR),j≤x.co.n∧i=.int .i64 j∧WetA w b w.heap.size S g x.ce.n B1 v CL j wr∧CL.map (·.bed)=(wetS b).take j) (fun i _=>x.co.n - (intOf i).toNat)
 case atStart=>exact⟨0,_,[],Nat.zero_le _,rfl,HW.out,by simp⟩
 case round =>
  obtain⟨j,v,CL,hj,rfl,hw,hcl⟩:=hrel;clear HW;have HW:=hid hw;have HCL:=hid hcl
  by_cases hlt:j<x.co.n
  · have hA1:=HA.out.below hw.bel
    have hco:=hA1.rows.co.rd;rw[← HA0.out] at hco;obtain⟨gc,oc,r0,rfl,_,hr0,y0⟩:=hco.atC hlt;have hbe:=(hA1.rows.cbed j r0 hr0).rd
    have hcolj:b.cols[j]?=some r0.bed:=by rw[← hA1.rows.col,List.getElem?_map,hr0];rfl
    obtain⟨rA,rc,rb⟩:=r0;dsimp only at hbe y0 hcolj;obtain⟨gb,ob,b0,rfl,_,hb0,q0,q1,q2,q3,q4,q5,q6,q7⟩:=hbe.atBed (i:=0) (by decide);obtain rfl:=Option.some.inj hb0;simp only[Nat.zero_mul,Nat.add_zero] at q0 q1 q2 q3 q4 q5 q6 q7;have hli:=hA1.rows.li.rd;rw[← HA2.out] at hli;obtain⟨gl,ol,c,rfl,_,hc,hcc⟩:=hli.at_ (i:=j) (by have:=HLI.out;omega);have HC:=hid hc;have hcm:=HLK.out c (List.mem_of_getElem? hc);have hsucc:=wet_succ hcolj hc;have HSU:=hid hsucc
    have hi1:(j:Int)<(x.co.n:Int):=by omega
    have hi2:(j:Int)<(x.li.n:Int):=by have:=HLI.out;omega
    have hi0:(0:Int)≤(j:Int):=by omega
    have HJ:=hid hlt;clear hA1 hco hbe hli hcc hw hcl hr0 hb0 hcolj hc hsucc hlt hj
    go_upto_region 7 with fail
    have hb9:=(Below.refl wr.heap.size wr).alloc (Nat.le_refl _) (.cells #[.int .i64 rb.drive,.int .i64 rb.normal,.int .i64 rb.f0,.int .i64 rb.f1,.int .i64 rb.c0,.int .i64 rb.c1,.int .i64 rb.w0,.int .i64 rb.w1] 157);have hn:=Blk.new wr 157 #[.int .i64 rb.drive,.int .i64 rb.normal,.int .i64 rb.f0,.int .i64 rb.f1,.int .i64 rb.c0,.int .i64 rb.c1,.int .i64 rb.w0,.int .i64 rb.w1];have HST:=hid (HW.out.sz);have HNT:=hid (show ∀(i:Nat) (r:ColR),CL[i]?=some r→r.A≠some ⟨wr.heap.size,0,none⟩ from fun i r hr e=>by obtain⟨q,e2,hb⟩:=HW.out.beds i r hr;rw[e] at e2;cases e2;exact absurd hb.lt (Nat.lt_irrefl _));have HOT:=hid (show v.ownBlock≠some wr.heap.size from fun e=>absurd (HW.out.own.lt _ e).2 (Nat.lt_irrefl _));replace HW:=hid (HW.out.below hb9);have HT:=hid hn;clear hb9 hn;revert HST HNT HOT HW HT;generalize hgT:wr.heap.size=T;generalize (World.alloc wr (.cells #[.int .i64 rb.drive,.int .i64 rb.normal,.int .i64 rb.f0,.int .i64 rb.f1,.int .i64 rb.c0,.int .i64 rb.c1,.int .i64 rb.w0,.int .i64 rb.w1] 157))=w5;intro HST HNT HOT HW HT;clear hgT;clear q0 q1 q2 q3 q4 q5 q6 q7 y0;have hA1:=HA.out.below HW.out.bel;have d2:=hA1.blk.cell 2;simp[sessV] at d2;rw[← HA2.out] at d2;have hli:=hA1.rows.li.rd;rw[← HA2.out] at hli;obtain⟨gl',ol',c',e',_,hc',hcc'⟩:=hli.at_ (i:=j) (by have:=HLI.out;have:=HJ.out;omega);cases e';obtain rfl:=Option.some.inj (HC.out.symm.trans hc');have l0:=hcc' 0 _ rfl;simp only[Nat.mul_one,Nat.add_zero] at l0;clear hA1 hli hcc' hc'
    by_cases hcn:c=-1
    · have hwet:wetB b rb c=rb:=by unfold wetB;rw[if_pos hcn]
      rw[hwet] at HSU;subst hcn;clear hwet hcm
      go_upto_region 10 with fail
      clear d2 l0;generalize rb=dd at HT HSU;revert HW HT;generalize w5=w6;intro HW HT
      have hj12:j<12:=by have:=HN.out;have:=HJ.out;omega
      have s0:=HW.out.sb.cell 0;have t0:=HT.out.cell 0;have t1:=HT.out.cell 1;have t2:=HT.out.cell 2;have t3:=HT.out.cell 3;have t4:=HT.out.cell 4;have t5:=HT.out.cell 5;have t6:=HT.out.cell 6;have t7:=HT.out.cell 7;simp at s0 t0 t1 t2 t3 t4 t5 t6 t7;have hal:=((Below.refl w6.heap.size w6).alloc (Nat.le_refl _) (.cells #[.int .i64 dd.drive,.int .i64 dd.normal,.int .i64 dd.f0,.int .i64 dd.f1,.int .i64 dd.c0,.int .i64 dd.c1,.int .i64 dd.w0,.int .i64 dd.w1] 157)).alloc (by simp) (.cells #[.slice (some ⟨w6.heap.size,0,none⟩) 1 1] 154);have hbd:=(Blk.new w6 157 (encBed dd).toArray).alloc (.cells #[.slice (some ⟨w6.heap.size,0,none⟩) 1 1] 154);have hcol:=Blk.new (w6.alloc (.cells #[.int .i64 dd.drive,.int .i64 dd.normal,.int .i64 dd.f0,.int .i64 dd.f1,.int .i64 dd.c0,.int .i64 dd.c1,.int .i64 dd.w0,.int .i64 dd.w1] 157)) 154 #[.slice (some ⟨w6.heap.size,0,none⟩) 1 1];have hwn:=HW.out.below hal;have HWN:=hid hwn;have HBD:=hid hbd;have HCO:=hid hcol;clear hal hbd hcol hwn
      go_wp2_with (at_builtin;go_must (refine wpList_append_rd rfl _ _ 25 rfl B1 154 i0 (.slice none 0 0) 1 24 Tryz.underlying25 HI.out HZ0.out HZ1.out HZ2.out rfl (by decide) v j _ rfl HWN.out.own encC_len oneCol (some ⟨w6.heap.size+1,0,none⟩) 1 1 [(⟨some ⟨w6.heap.size,0,none⟩,1,dd⟩:ColR)] rfl (by have h8:=Rd.of_blkE encC_len HCO.out (l:=[(⟨some ⟨w6.heap.size,0,none⟩,1,dd⟩:ColR)]) rfl rfl;simpa using h8) (by have:=HN.out;have:=HJ.out;unfold maxLen;omega) (by have:=HN.out;have:=HJ.out;omega) HWN.out.sz ?_;intro v' w7 hown hgrow;obtain⟨A8,c8,rfl,hc8⟩:=own_form hown;have hsb:=(Fr.of_grown hgrow (E:=fun g=>v.ownBlock=some g) fun g e _=>e).blk HWN.out.sb (fun e=>own_blk_ne HWN.out.own HWN.out.sb (by decide) e);have s9:=hsb.cell 0;have f9:=hsb.frozen 0;simp at s9;clear hsb))
      have hw9:=HWN.out.grow HBD.out (by rw[List.flatMap_append];exact hown) hgrow
      have hc9:(CL++[(⟨some ⟨w6.heap.size,0,none⟩,1,dd⟩:ColR)]).map (·.bed)=(wetS b).take (j+1):=by rw[List.map_append,HCL.out,HSU.out];rfl
      have HW9:=hid hw9;have HC9:=hid hc9;clear hw9 hc9 hown hgrow hc8 s9 f9 s0 t0 t1 t2 t3 t4 t5 t6 t7 HWN HBD HCO HW HT;(try go_wp2_with fail)
      go_roundw
      case rel=>exact⟨j+1,_,_,by have:=HJ.out;omega,by go_num,HW9.out,HC9.out⟩
      case measure=>have:=HJ.out;simp[intOf]<;>omega
    · obtain⟨m,rfl⟩:∃ m:Nat,c=(m:Int):=⟨c.toNat,by omega⟩
      have hne:¬(m:Int)=-1:=by omega
      have hneb:((m:Int) == -1)=false:=by simpa using hne
      have hmlt:m<x.ce.n:=by have:=HCE.out;omega
      have hwet:wetB b rb (m:Int)={ rb with w0:=min 100000 (lvA (lowsS b) m),w1:=min 100000 (lvA (highsS b) m) }:=by unfold wetB;rw[if_neg hcn];rfl
      rw[hwet] at HSU;clear hwet hcm hcn;have HM:=hid hmlt;clear hmlt
      go_upto_region 9 with fail
      clear d2 l0;obtain⟨gg,og,lx,eg,_,hlx,hlc⟩:=HW.out.rows.at_ HM.out;cases eg
      have hlv:lx=(lvA (lowsS b) m,lvA (highsS b) m):=by
       simp only[levL,List.getElem?_map] at hlx;rw[List.getElem?_range HM.out] at hlx;exact(Option.some.inj hlx).symm
      have z0:=hlc 0 _ rfl;have z1:=hlc 1 _ rfl;rw[hlv] at z0 z1;simp at z0 z1;clear hlc hlx hlv
      have hm1:(m:Int)<(x.ce.n:Int):=by have:=HM.out;omega
      have hm0:(0:Int)≤(m:Int):=by omega
      refine wp_region_till [14] (fun U=>U.cell? ⟨g,m * 2,none⟩=some (.int .i64 (lvA (lowsS b) m))∧U.cell? ⟨g,m * 2+1,none⟩=some (.int .i64 (lvA (highsS b) m))) (by kernel_rfl) (by exact⟨z0,z1⟩) (fun hHeld=>?_);have hb9:=(Below.refl w5.heap.size w5).drew;replace HW:=hid (HW.out.below hb9);replace HT:=hdB HT hb9;clear hb9;revert hHeld HW HT;generalize w5.drew=w0;intro hHeld HW HT;refine tk 0 0 ?_;refine tk 0 1 ?_;refine tk 0 2 ?_;refine tk 0 3 ?_;refine tk 0 4 ?_;refine tk 0 5 ?_;refine tk 0 6 ?_;refine tk 0 7 ?_;refine tk 0 8 ?_;refine tk 0 9 ?_;refine tk 0 10 ?_;refine tk 0 11 ?_;refine tk 0 12 ?_;refine tk 0 13 ?_;refine ar [14] (al (fun K hK=>?_) an);have y6:=HT.out.cell 6;have y7:=HT.out.cell 7;have f6:=HT.out.frozen 6;have f7:=HT.out.frozen 7;simp at y6 y7;go_simp;(try clear hHeld);refine hK.out _ _ ?_;clear hK K;refine pt ?_;refine td ?_;(try clear hHeld);clear z0 z1 y6 y7 f6 f7 hm1 hm0 hne hneb;have hlo:=HW.out.lo;have hst:=HST.out;have hf9:Fr (fun q=>q=T) w0 ((w0.setCell ⟨T,6,none⟩ (.int .i64 (min 100000 (lvA (lowsS b) m)))).setCell ⟨T,7,none⟩ (.int .i64 (min 100000 (lvA (highsS b) m)))):=((FrS.refl T w0).set (i:=6) _).set (i:=7) _;have hw9:=HW.out.fr hf9 (fun q e=>by subst e;exact⟨by omega,by omega,by omega,HOT.out,by omega,HNT.out⟩);have ht9:=(HT.out.set_ 6 (.int .i64 (min 100000 (lvA (lowsS b) m)))).set_ 7 (.int .i64 (min 100000 (lvA (highsS b) m)));simp only[List.setIfInBounds_toArray,List.set_cons_zero,List.set_cons_succ] at ht9;clear hlo hst hf9 HW HT HOT HNT
      have HW:=hid hw9;have HT:=hid ht9;clear hw9 ht9;revert HW HT;generalize ((w0.setCell ⟨T,6,none⟩ (.int .i64 (min 100000 (lvA (lowsS b) m)))).setCell ⟨T,7,none⟩ (.int .i64 (min 100000 (lvA (highsS b) m))))=w6;intro HW HT;obtain⟨dd,hdd⟩:∃ dd:BedS,dd={ rb with w0:=min 100000 (lvA (lowsS b) m),w1:=min 100000 (lvA (highsS b) m) }:=⟨_,rfl⟩;rw[← hdd] at HSU;have HT2:Hid (Blk w6 T 157 #[.int .i64 dd.drive,.int .i64 dd.normal,.int .i64 dd.f0,.int .i64 dd.f1,.int .i64 dd.c0,.int .i64 dd.c1,.int .i64 dd.w0,.int .i64 dd.w1]):=hid (by rw[hdd];exact HT.out);clear HT hdd;have HT:=HT2;clear HT2
      go_upto_region 10 with fail
      have hj12:j<12:=by have:=HN.out;have:=HJ.out;omega
      have s0:=HW.out.sb.cell 0;have t0:=HT.out.cell 0;have t1:=HT.out.cell 1;have t2:=HT.out.cell 2;have t3:=HT.out.cell 3;have t4:=HT.out.cell 4;have t5:=HT.out.cell 5;have t6:=HT.out.cell 6;have t7:=HT.out.cell 7;simp at s0 t0 t1 t2 t3 t4 t5 t6 t7;have hal:=((Below.refl w6.heap.size w6).alloc (Nat.le_refl _) (.cells #[.int .i64 dd.drive,.int .i64 dd.normal,.int .i64 dd.f0,.int .i64 dd.f1,.int .i64 dd.c0,.int .i64 dd.c1,.int .i64 dd.w0,.int .i64 dd.w1] 157)).alloc (by simp) (.cells #[.slice (some ⟨w6.heap.size,0,none⟩) 1 1] 154);have hbd:=(Blk.new w6 157 (encBed dd).toArray).alloc (.cells #[.slice (some ⟨w6.heap.size,0,none⟩) 1 1] 154);have hcol:=Blk.new (w6.alloc (.cells #[.int .i64 dd.drive,.int .i64 dd.normal,.int .i64 dd.f0,.int .i64 dd.f1,.int .i64 dd.c0,.int .i64 dd.c1,.int .i64 dd.w0,.int .i64 dd.w1] 157)) 154 #[.slice (some ⟨w6.heap.size,0,none⟩) 1 1];have hwn:=HW.out.below hal;have HWN:=hid hwn;have HBD:=hid hbd;have HCO:=hid hcol;clear hal hbd hcol hwn
      go_wp2_with (at_builtin;go_must (refine wpList_append_rd rfl _ _ 25 rfl B1 154 i0 (.slice none 0 0) 1 24 Tryz.underlying25 HI.out HZ0.out HZ1.out HZ2.out rfl (by decide) v j _ rfl HWN.out.own encC_len oneCol (some ⟨w6.heap.size+1,0,none⟩) 1 1 [(⟨some ⟨w6.heap.size,0,none⟩,1,dd⟩:ColR)] rfl (by have h8:=Rd.of_blkE encC_len HCO.out (l:=[(⟨some ⟨w6.heap.size,0,none⟩,1,dd⟩:ColR)]) rfl rfl;simpa using h8) (by have:=HN.out;have:=HJ.out;unfold maxLen;omega) (by have:=HN.out;have:=HJ.out;omega) HWN.out.sz ?_;intro v' w7 hown hgrow;obtain⟨A8,c8,rfl,hc8⟩:=own_form hown;have hsb:=(Fr.of_grown hgrow (E:=fun g=>v.ownBlock=some g) fun g e _=>e).blk HWN.out.sb (fun e=>own_blk_ne HWN.out.own HWN.out.sb (by decide) e);have s9:=hsb.cell 0;have f9:=hsb.frozen 0;simp at s9;clear hsb))
      have hw9:=HWN.out.grow HBD.out (by rw[List.flatMap_append];exact hown) hgrow
      have hc9:(CL++[(⟨some ⟨w6.heap.size,0,none⟩,1,dd⟩:ColR)]).map (·.bed)=(wetS b).take (j+1):=by rw[List.map_append,HCL.out,HSU.out];rfl
      have HW9:=hid hw9;have HC9:=hid hc9;clear hw9 hc9 hown hgrow hc8 s9 f9 s0 t0 t1 t2 t3 t4 t5 t6 t7 HWN HBD HCO HW HT;(try go_wp2_with fail)
      go_roundw
      case rel=>exact⟨j+1,_,_,by have:=HJ.out;omega,by go_num,HW9.out,HC9.out⟩
      case measure=>have:=HJ.out;simp[intOf]<;>omega
  · obtain rfl:j=x.co.n:=by omega
    have rb0:=HW.out.rb.cell 0;have rb1:=HW.out.rb.cell 1;have rf0:=HW.out.rb.frozen 0;have rf1:=HW.out.rb.frozen 1;have sb0:=HW.out.sb.cell 0;have sb1:=HW.out.sb.cell 1;simp at rb0 rb1 sb0 sb1;clear hw hcl hlt hj;obtain⟨A9,c9,rfl,hnr⟩:=NewR.of_own encC_len HW.out.own HW.out.len;have HNR:=hid hnr;clear hnr
    go_wp2_with fail
    have hf9:Fr (fun q=>q=w.heap.size) wr ((wr.setCell ⟨w.heap.size,0,none⟩ (.slice A9 x.co.n c9)).setCell ⟨w.heap.size,1,none⟩ (.int .i64 b.least)):=((FrS.refl w.heap.size wr).set (i:=0) _).set (i:=1) _;have hlo:=HW.out.lo;have hrb:=(HW.out.rb.set_ 0 (.slice A9 x.co.n c9)).set_ 1 (.int .i64 b.least);have z0:=hrb.cell 0;have z1:=hrb.cell 1;simp at z0 z1
    have hlt:∀ ad,A9=some ad→ad.block<wr.heap.size∧B1≤ad.block:=fun ad e=>by
     have:=HW.out.own.lt ad.block (by rw[e];rfl);exact⟨this.2,this.1⟩
    have hbd:∀(i:Nat) (r:ColR),CL[i]?=some r→Rd encBed 8 wr r.A 1 [r.bed]∧∀ ad,r.A=some ad→ad.block<wr.heap.size∧ad.block≠w.heap.size:=fun i r hr=>by
     obtain⟨q,e,hb⟩:=HW.out.beds i r hr;refine⟨by rw[e];exact Rd.of_blkE (k:=8) encBed_len hb (l:=[r.bed]) (by simp) rfl,fun ad e2=>?_⟩;rw[e] at e2;cases e2;exact⟨hb.lt,fun e3=>hb.ne HW.out.rb (by decide) e3⟩
    refine bodyPost_ret (v:=.agg #[.slice A9 x.co.n c9,.int .i64 b.least]) ?_ rfl ⟨A9,x.co.n,c9,CL,rfl,⟨hf9.rd HNR.out.rd fun ad e e2=>by have:=hlt ad e;omega,fun i r hr=>hf9.rd (hbd i r hr).1 fun ad e e2=>((hbd i r hr).2 ad e).2 e2,fun ad e=>Nat.lt_of_lt_of_le (hlt ad e).1 hf9.size,fun i r hr ad e=>Nat.lt_of_lt_of_le ((hbd i r hr).2 ad e).1 hf9.size⟩,?_,HW.out.bel.trans (hf9.below HW.out.bel.size fun q e=>Nat.le_of_eq e.symm)⟩
    · simp[results,Tryz.f136,go_sem,z0,z1]
    · rw[HCL.out,← HCN.out,← wetS_len HLL.out,List.take_length]
end Go.Proofs.YtkhcliibilkefaaGreatDoor
