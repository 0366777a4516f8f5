/- CONTRACT of (*session).water behind days. -/
import Derived.Test.YtlaengnhfjlphaaGreatDoorYLevels
import Derived.DeepKeys4
import Derived.MapKept
set_option linter.unusedVariables false
set_option linter.unusedSimpArgs false
set_option maxRecDepth 100000
set_option maxHeartbeats 8000000
namespace Go.Proofs.YtlaengnhfjlphaaGreatDoor
open Lib (hid)
open Go.RowKit Go.Proofs
attribute [local go_sem ↓] Go.wp_at_zero Go.wp_at_succ
def levL (b:Sess)(n:Nat):List (Int × Int):=(List.range n).map fun i=>(lvA (lowsS b) i,lvA (highsS b) i)
theorem water_c {s:Nat}{x:SAd}{b:Sess}{now line more:Int}{w:World}(h:SAt w s x b now line more)(hf:faultW b.cells b.sn0 b.sn1 b.so0 b.so1 b.melt b.days=0)(hd:b.days.length≠0) :
 Calls Tryz.prog 163 #[.pointer (some ⟨s,0,none⟩)] w fun e w'=>∃ g,e=.returned (.slice (some ⟨g,0,none⟩) x.ce.n x.ce.n)∧Rd enc2 2 w' (some ⟨g,0,none⟩) x.ce.n (levL b x.ce.n)∧Below w.heap.size w w':=by
 have hdl:=h.rows.da.len
 have hd1:1≤x.da.n:=by omega
 have hdn:x.da.n≤30:=by have:=(faultW_zero.1 hf).2.1;omega
 have hc:=fun(W:World) (hW:Below w.heap.size w W)=>Levels_ok (CS:=x.ce) (DS:=x.da) hf (h.below hW).rows.ce.rd (h.below hW).rows.da.rd hd1;have HA:=hid h;have HB:=hid (Below.refl w.heap.size w);have HC:=hid hc;have HDL:=hid hdl;have HD1:=hid (And.intro hd1 hdn);have d3:=h.blk.cell 3;have d4:=h.blk.cell 4;have d5:=h.blk.cell 5;have d6:=h.blk.cell 6;have d7:=h.blk.cell 7;have d8:=h.blk.cell 8;have d9:=h.blk.cell 9;simp[sessV] at d3 d4 d5 d6 d7 d8 d9;clear h hf hd hdl hd1 hdn hc
 go_enter Tryz.func163,Tryz.ntmps163
 go_upto_region 1 with fail
 refine wp_region_till [10] (fun U=>U.cell? ⟨s,3,none⟩=some (.slice x.ce.A x.ce.n x.ce.c)∧U.cell? ⟨s,4,none⟩=some (.int .i64 b.sn0)∧U.cell? ⟨s,5,none⟩=some (.int .i64 b.sn1)∧U.cell? ⟨s,6,none⟩=some (.int .i64 b.so0)∧U.cell? ⟨s,7,none⟩=some (.int .i64 b.so1)∧U.cell? ⟨s,8,none⟩=some (.int .i64 b.melt)∧U.cell? ⟨s,9,none⟩=some (.slice x.da.A x.da.n x.da.c)) (by kernel_rfl) (by exact⟨d3,d4,d5,d6,d7,d8,d9⟩) (fun hHeld=>?_);have hb9:=(Below.refl w.heap.size w).drew;replace HB:=hdT HB hb9;clear hb9;revert hHeld HB;generalize w.drew=w0;intro hHeld HB;refine tk 4 0 ?_;refine tk 3 1 ?_;refine tk 2 2 ?_;refine tk 1 3 ?_;refine tk 0 4 ?_;refine tk 4 5 ?_;refine tk 3 6 ?_;refine tk 2 7 ?_;refine tk 1 8 ?_;refine tk 0 9 ?_;refine ar [10] (al (fun K hK=>?_) an);go_simp;go_at_call 80;refine(HC.out _ HB.out).mono ?_;rintro e w1 ⟨A,c,vsl,gs,rfl,hcap,hrd,hrow,hb9⟩;have HROW:=hid hrow;clear hrow hcap;replace HB:=hdT HB hb9;have HRD:=hid hrd;clear hb9 hrd;(try go_wp2_with fail);(try clear hHeld);refine hK.out _ _ ?_;clear hK K;refine pt ?_;refine te 11 ?_;refine te 12 ?_;refine te 13 ?_;refine te 14 ?_;refine te 15 ?_;refine te 16 ?_;refine te 17 ?_;refine td ?_;(try clear hHeld);clear d3 d4 d5 d6 d7 d8 d9;obtain⟨hd1,hdn⟩:=HD1.out;obtain⟨B0,o0,g,rfl,hlt,hg,hc0⟩:=HRD.out.at_ (i:=x.da.n - 1) (by omega);have c0:=hc0 0 _ rfl;simp only[Nat.mul_one,Nat.add_zero] at c0;have hrw:=HROW.out _ _ hg;rw[show x.da.n - 1+1=b.days.length by have:=HDL.out;omega] at hrw;have HRW:=hid hrw
 have q1:IntKind.i64.wrap ((x.da.n:Int) - 1)=((x.da.n - 1:Nat):Int):=by rw[wi (by omega)];omega
 have q2:(0:Int) < (x.da.n:Int):=by omega
 have q3:((x.da.n - 1:Nat):Int) < (x.da.n:Int):=by omega
 have q4:(0:Int)≤((x.da.n - 1:Nat):Int):=by omega
 clear hc0 hrw hg hlt hd1 hdn
 go_wp2_with fail
 go_ret
 exact⟨g,rfl,HRW.out,HB.out⟩
end Go.Proofs.YtlaengnhfjlphaaGreatDoor
namespace Go.Proofs.YtlaengnhfjlphaaGreatDoor
open Lib (hid)
open Go.RowKit
theorem lvA_map_le {α:Type}{l:List α}{f g:α→Int}(h:∀ x∈l,f x≤g x)(i:Nat):lvA (l.map f) i≤lvA (l.map g) i:=by
 unfold lvA;rw[List.getD_eq_getElem?_getD,List.getD_eq_getElem?_getD,List.getElem?_map,List.getElem?_map]
 cases hx:l[i]? with
 | none=>exact Int.le_refl _
 | some x=>exact h x (List.mem_of_getElem? hx)
theorem waters_bd {b:Sess}(hf:faultW b.cells b.sn0 b.sn1 b.so0 b.so1 b.melt b.days=0)(i:Nat):0≤lvA (lowsS b) i∧lvA (lowsS b) i≤lvA (highsS b) i∧lvA (highsS b) i≤100000:=by
 obtain⟨h1,h2,h3⟩:=faultW_zero.1 hf;obtain⟨g1,g2,g3,g4,g5,g6⟩:=groundOk_iff.1 h1;have hd:∀ d∈b.days,0≤d.lo∧d.lo≤d.hi∧d.hi≤1000:=fun d hd=>(dayOk_iff.1 (h3 d hd)).1
 have hc:∀ c∈b.cells,0≤c.lo∧c.lo≤c.hi∧c.hi≤100000:=fun c hc=>by have:=g2 c hc;unfold celOk at this;omega
 have e0:=(WE.bd (levE_ok (CS:=⟨none,b.cells.length,0⟩) (DS:=⟨none,b.days.length,0⟩) (LV:=⟨none,0,0⟩) (RN:=⟨none,b.days.length,0⟩) (tsn:=b.sn0) (tso:=b.so0) (rain:=b.days.map (·.lo)) (L0:=b.cells.map (·.lo)) hf rfl rfl rfl (by omega) (by omega)
  (fun x hx=>by obtain⟨c,h,rfl⟩:=List.mem_map.1 hx;have:=hc c h;omega) (by simp) (fun x hx=>by obtain⟨d,h,rfl⟩:=List.mem_map.1 hx;have:=hd d h;omega) (by simp)) b.days.length).1 i
 have e1:=(WE.bd (levE_ok (CS:=⟨none,b.cells.length,0⟩) (DS:=⟨none,b.days.length,0⟩) (LV:=⟨none,0,0⟩) (RN:=⟨none,b.days.length,0⟩) (tsn:=b.sn1) (tso:=b.so1) (rain:=b.days.map (·.hi)) (L0:=b.cells.map (·.hi)) hf rfl rfl rfl (by omega) (by omega)
  (fun x hx=>by obtain⟨c,h,rfl⟩:=List.mem_map.1 hx;have:=hc c h;omega) (by simp) (fun x hx=>by obtain⟨d,h,rfl⟩:=List.mem_map.1 hx;have:=hd d h;omega) (by simp)) b.days.length).1 i
 have hm:=(days_mono (X:=b.days.map (·.warm)) (a:=⟨b.cells.map (·.lo),b.sn0,0⟩) (b:=⟨b.cells.map (·.hi),b.sn1,0⟩) (R:=b.days.map (·.lo)) (U:=b.days.map (·.hi)) g2 g5.1 g4.1 g4.2.1 (fun x hx=>by obtain⟨d,h,rfl⟩:=List.mem_map.1 hx;exact(hd d h).1) (fun j=>lvA_map_le (fun d h=>(hd d h).2.1) j) (fun j=>lvA_map_le (fun c h=>(hc c h).2.1) j) g3.1 g3.2.1 b.days.length).1 i;have a0:lowsS b=((levE ⟨none,b.cells.length,0⟩ ⟨none,b.days.length,0⟩ ⟨none,0,0⟩ ⟨none,b.days.length,0⟩ b.sn0 b.sn1 b.so0 b.so1 b.melt b.sn0 b.so0 b.cells b.days (b.days.map (·.lo)) (b.cells.map (·.lo))).st b.days.length).lv:=rfl;have a1:highsS b=((levE ⟨none,b.cells.length,0⟩ ⟨none,b.days.length,0⟩ ⟨none,0,0⟩ ⟨none,b.days.length,0⟩ b.sn0 b.sn1 b.so0 b.so1 b.melt b.sn1 b.so1 b.cells b.days (b.days.map (·.hi)) (b.cells.map (·.hi))).st b.days.length).lv:=rfl;rw[← a0] at e0;rw[← a1] at e1;exact⟨e0.1,hm,e1.2⟩
theorem wetS_len {b:Sess}(hl:b.links.length=b.cols.length):(wetS b).length=b.cols.length:=by simp[wetS,hl]
theorem wetS_at {b:Sess}{k:Nat}{x:BedS}{c:Int}(hx:b.cols[k]?=some x)(hc:b.links[k]?=some c):(wetS b)[k]?=some (wetB b x c):=by
 simp[wetS,List.getElem?_zipWith,hx,hc]
theorem wet_ok {b:Sess}(hf:faultW b.cells b.sn0 b.sn1 b.so0 b.so1 b.melt b.days=0)(hs:slopeOk b.cols b.least=true)(hl:b.links.length=b.cols.length):slopeOk (wetS b) b.least=true:=by
 obtain⟨h1,h2,h3⟩:=slopeOk_iff.1 hs;refine slopeOk_iff.2 ⟨by rw[wetS_len hl];exact h1,h2,fun y hy=>?_⟩;obtain⟨k,hk⟩:=List.getElem?_of_mem hy
 have hlt:k < b.cols.length:=by have:=(List.getElem?_eq_some_iff.1 hk).1;rw[wetS_len hl] at this;exact this
 have hx:=List.getElem?_eq_getElem hlt;have hc:=List.getElem?_eq_getElem (l:=b.links) (i:=k) (by omega);rw[wetS_at hx hc] at hk;obtain rfl:=Option.some.inj hk;have hb:=h3 _ (List.mem_of_getElem? hx);unfold wetB
 split
 · exact hb
 · have hw:=waters_bd hf (b.links[k]'(by omega)).toNat
   unfold bedOk at hb ⊢;exact⟨hb.1,hb.2.1,hb.2.2.1,hb.2.2.2.1,by dsimp only;omega⟩
theorem wet_succ {b:Sess}{k:Nat}{x:BedS}{c:Int}(hx:b.cols[k]?=some x)(hc:b.links[k]?=some c):(wetS b).take (k+1)=(wetS b).take k++[wetB b x c]:=by
 rw[List.take_add_one,wetS_at hx hc];rfl
end Go.Proofs.YtlaengnhfjlphaaGreatDoor
namespace Go.Proofs.YtlaengnhfjlphaaGreatDoor
open Lib (hid)
open Go.RowKit Go.Proofs Go.WideMaps
theorem laidN:laidOutB Tryz.prog=true:=by kernel_rfl
theorem rowN:299 < Tryz.prog.types.size:=by
 have h:Nat.ble (Nat.succ 299) Tryz.prog.types.size=true:=by kernel_rfl
 exact Nat.lt_of_succ_le (Nat.le_of_ble_eq_true h)
theorem lawN:KeyLaw Tryz.prog 299:=deep_law_laid laidN (m:=2) (by omega) rowN (by kernel_rfl) (by rw[Tryz.underlying299])
def keyN (k:Int × Int):Value:=.agg #[.int .i64 k.1,.int .i64 k.2]
def okN (k:Int × Int):Prop:=(-9223372036854775808≤k.1∧k.1≤9223372036854775807)∧-9223372036854775808≤k.2∧k.2≤9223372036854775807
theorem keyN_inj {a b:Int × Int}(h:keyN a=keyN b):a=b:=by
 simp[keyN] at h;exact Prod.ext h.1 h.2
theorem keyOf_name {k:Int × Int}(h:okN k):∃ l,keyOf Tryz.prog 299 (keyN k)=some l:=by
 have hk:Tryz.prog.keyType 299=true:=by kernel_rfl
 have wa:(Lit.int .i64 k.1).wf=true:=WalkArith.wf_i64 (by have:=h.1;omega);have wb:(Lit.int .i64 k.2).wf=true:=WalkArith.wf_i64 (by have:=h.2;omega);unfold keyOf;simp only[Tryz.underlying299]
 have c1:Tryz.prog.cellsOf 299=2:=by kernel_rfl
 have c2:Tryz.prog.cellsOf 3=1:=by kernel_rfl
 rw[if_pos (by simp[hk,Value.formed,keyN,Tryz.underlying299,c1])];obtain⟨m,hm⟩:∃ m,Tryz.prog.types.size=m+1:=⟨Tryz.prog.types.size - 1,by have:=rowN;omega⟩;rw[hm];unfold Program.keyLits;simp only[Tryz.underlying299,keyN,Value.cells];simp[c1,c2,Program.keyLits,Tryz.underlying3,wa,wb]
def entN (i:Nat)(p:(Int × Int) × Int):MapEntry:=⟨keyN p.1,.int .i64 p.2,i⟩
def ents (ps:List ((Int × Int) × Int)):Array MapEntry:=(ps.mapIdx entN).toArray
def IsM (w:World)(M:Nat)(ps:List ((Int × Int) × Int)):Prop:=w.heap[M]?=some (.map (ents ps) ps.length)
def putM (w:World)(M:Nat)(ps:List ((Int × Int) × Int)):World:={ w with heap:=w.heap.setIfInBounds M (.map (ents ps) ps.length) }
theorem ents_get (ps:List ((Int × Int) × Int))(i:Nat):(ents ps).toList[i]?=ps[i]?.map (entN i):=by simp[ents]
theorem IsM.lt {w:World}{M:Nat}{ps:List ((Int × Int) × Int)}(h:IsM w M ps):M < w.heap.size:=(Array.getElem?_eq_some_iff.1 h).1
theorem IsM.put {w:World}{M:Nat}{ps:List ((Int × Int) × Int)}(h:IsM w M ps)(qs:List ((Int × Int) × Int)):IsM (putM w M qs) M qs:=by
 have:=h.lt;unfold IsM putM;simp[this]
theorem putM_grown (w:World)(M:Nat)(qs:List ((Int × Int) × Int)):w.grownBy (putM w M qs) (some M):=by
 refine⟨rfl,rfl,rfl,by simp[putM],fun k hk hne=>?_⟩;have:M≠k:=fun e=>hne (by rw[e]);simp[putM,Array.getElem?_setIfInBounds,this]
theorem IsM.grown {w w':World}{M:Nat}{ps:List ((Int × Int) × Int)}{row:Option Nat}(h:IsM w M ps)(hg:w.grownBy w' row)(hne:some M≠row):IsM w' M ps:=(hg.block M h.lt hne).trans h
theorem IsM.below {w w':World}{M:Nat}{ps:List ((Int × Int) × Int)}(h:IsM w M ps)(hb:Below w.heap.size w w'):IsM w' M ps:=(hb.block M h.lt).trans h
def KeysOk (ps:List ((Int × Int) × Int)):Prop:=∀ p∈ps,okN p.1
def Dist (ps:List ((Int × Int) × Int)):Prop:=∀(i j:Nat) (k:Int × Int) (c d:Int),ps[i]?=some (k,c)→ps[j]?=some (k,d)→i=j
theorem keys_of {ps:List ((Int × Int) × Int)}(hk:KeysOk ps):∀ e∈(ents ps).toList,∃ l,keyOf Tryz.prog 299 e.key=some l:=by
 intro e he;obtain⟨i,hi⟩:=List.getElem?_of_mem he;rw[ents_get] at hi;obtain⟨p,hp,rfl⟩:=Option.map_eq_some_iff.1 hi;exact keyOf_name (hk p (List.mem_of_getElem? hp))
theorem find_no {ps:List ((Int × Int) × Int)}(hk:KeysOk ps){x:Int × Int}(hx:okN x)(hno:∀ p∈ps,p.1≠x)(W:World):(Instr.findKey 299 (keyN x) (ents ps).toList).run Tryz.prog W=.ok none W:=by
 obtain⟨l,hl⟩:=keyOf_name hx
 rcases lawN.find W hl (ents ps).toList (keys_of hk) with ⟨h,_⟩ | ⟨j,e,_,he,hek⟩
 · exact h
 · exfalso
   rw[ents_get] at he;obtain⟨p,hp,rfl⟩:=Option.map_eq_some_iff.1 he;exact hno p (List.mem_of_getElem? hp) (keyN_inj hek)
theorem find_yes {ps:List ((Int × Int) × Int)}(hk:KeysOk ps)(hd:Dist ps){x:Int × Int}(hx:okN x){j:Nat}{c:Int}(hj:ps[j]?=some (x,c))(W:World):(Instr.findKey 299 (keyN x) (ents ps).toList).run Tryz.prog W=.ok (some (j,.int .i64 c)) W:=by
 obtain⟨l,hl⟩:=keyOf_name hx
 rcases lawN.find W hl (ents ps).toList (keys_of hk) with ⟨_,h⟩ | ⟨j',e,h,he,hek⟩
 · exfalso
   exact h (entN j (x,c)) (List.mem_of_getElem? (by rw[ents_get,hj];rfl)) rfl
 · rw[ents_get] at he
   obtain⟨⟨k,d⟩,hp,rfl⟩:=Option.map_eq_some_iff.1 he;obtain rfl:k=x:=keyN_inj hek;obtain rfl:j'=j:=hd _ _ _ _ _ hp hj;rw[hp] at hj;cases hj;exact h
theorem check_n {x:Int × Int}(hx:okN x)(em:Bool)(W:World):(Instr.checkKey em 10000 299 (keyN x)).run Tryz.prog W=.ok () W:=by
 obtain⟨l,hl⟩:=keyOf_name hx;exact lawN.check W em hl
theorem get_m {ps:List ((Int × Int) × Int)}{W:World}{M:Nat}(h:IsM W M ps):(getObj M).run Tryz.prog W=.ok (.map (ents ps) ps.length) W:=by
 simp[getObj,Sem.run,show W.heap[M]?=_ from h]
theorem set_m {ps:List ((Int × Int) × Int)}{W:World}{M:Nat}(h:IsM W M ps)(o:Obj):(setObj M o).run Tryz.prog W=.ok () { W with heap:=W.heap.setIfInBounds M o }:=by
 simp[setObj,Sem.run,show W.heap[M]?=_ from h]
theorem lookup_yes {ps:List ((Int × Int) × Int)}{W:World}{M:Nat}(h:IsM W M ps)(hk:KeysOk ps)(hd:Dist ps){x:Int × Int}(hx:okN x){j:Nat}{c:Int}(hj:ps[j]?=some (x,c)) :
 (Instr.lookup 296 (.map (some M)) (keyN x) false).run Tryz.prog W=.ok (.int .i64 c) W:=by
 simp[Instr.lookup,run_underlying Tryz.underlying296,get_m h,check_n hx,find_yes hk hd hx hj]
theorem ents_push (ps:List ((Int × Int) × Int))(x:Int × Int)(v:Int):(ents ps).push ⟨keyN x,.int .i64 v,ps.length⟩=ents (ps++[(x,v)]):=by
 simp[ents,List.mapIdx_concat,entN]
theorem look_no {ps:List ((Int × Int) × Int)}{W:World}{M:Nat}(h:IsM W M ps)(hk:KeysOk ps){x:Int × Int}(hx:okN x)(hno:∀ p∈ps,p.1≠x) :
 (Instr.lookup 296 (.map (some M)) (keyN x) true).run Tryz.prog W=.ok (.tuple #[.int .i64 0,.bool false]) W:=by
 simp[Instr.lookup,run_underlying Tryz.underlying296,get_m h,check_n hx,find_no hk hx hno,Tryz.zeroValue3]
theorem look_yes {ps:List ((Int × Int) × Int)}{W:World}{M:Nat}(h:IsM W M ps)(hk:KeysOk ps)(hd:Dist ps){x:Int × Int}(hx:okN x){j:Nat}{c:Int}(hj:ps[j]?=some (x,c)) :
 (Instr.lookup 296 (.map (some M)) (keyN x) true).run Tryz.prog W=.ok (.tuple #[.int .i64 c,.bool true]) W:=by
 simp[Instr.lookup,run_underlying Tryz.underlying296,get_m h,check_n hx,find_yes hk hd hx hj]
theorem upd_no {ps:List ((Int × Int) × Int)}{W:World}{M:Nat}(h:IsM W M ps)(hk:KeysOk ps){x:Int × Int}(hx:okN x)(hno:∀ p∈ps,p.1≠x)(v:Int) :
 (Instr.mapUpdate 296 (.map (some M)) (keyN x) (.int .i64 v)).run Tryz.prog W=.ok () (putM W M (ps++[(x,v)])):=by
 simp[Instr.mapUpdate,run_underlying Tryz.underlying296,get_m h,check_n hx,find_no hk hx hno,set_m h,ents_push,putM]
end Go.Proofs.YtlaengnhfjlphaaGreatDoor
