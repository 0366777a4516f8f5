/- CONTRACT of (*session).water behind days. -/
import Derived.Test.YtkhcliibilkefaaGreatDoorYLevels
import Derived.DeepKeys4
import Derived.MapKept
set_option linter.unusedVariables false
set_option linter.unusedSimpArgs false
set_option maxRecDepth 100000
set_option maxHeartbeats 8000000
namespace Go.Proofs.YtkhcliibilkefaaGreatDoor
open Lib (hid)
open Go.RowKit Go.Proofs
attribute [local go_sem ↓] Go.wp_at_zero Go.wp_at_succ
def levL (b:Sess)(n:Nat):List (Int×Int):=(List.range n).map fun i=>(lvA (lowsS b) i,lvA (highsS b) i)
theorem water_c {s:Nat}{x:SAd}{b:Sess}{now line more:Int}{w:World}(h:SAt w s x b now line more)(hf:faultW b.cells b.sn0 b.sn1 b.so0 b.so1 b.melt b.days=0)(hd:b.days.length≠0) :
 Calls Tryz.prog 180 #[.pointer (some ⟨s,0,none⟩)] w fun e w'=>∃ g,e=.returned (.slice (some ⟨g,0,none⟩) x.ce.n x.ce.n)∧Rd enc2 2 w' (some ⟨g,0,none⟩) x.ce.n (levL b x.ce.n)∧Below w.heap.size w w':=by
 have hdl:=h.rows.da.len
 have hd1:1≤x.da.n:=by omega
 have hdn:x.da.n≤30:=by have:=(faultW_zero.1 hf).2.1;omega
 have hc:=fun(W:World) (hW:Below w.heap.size w W)=>Levels_ok (CS:=x.ce) (DS:=x.da) hf (h.below hW).rows.ce.rd (h.below hW).rows.da.rd hd1;have HA:=hid h;have HB:=hid (Below.refl w.heap.size w);have HC:=hid hc;have HDL:=hid hdl;have HD1:=hid (And.intro hd1 hdn);have d3:=h.blk.cell 3;have d4:=h.blk.cell 4;have d5:=h.blk.cell 5;have d6:=h.blk.cell 6;have d7:=h.blk.cell 7;have d8:=h.blk.cell 8;have d9:=h.blk.cell 9;simp[sessV] at d3 d4 d5 d6 d7 d8 d9;clear h hf hd hdl hd1 hdn hc
 go_enter Tryz.func180,Tryz.ntmps180
 go_upto_region 1 with fail
 refine wp_region_till [10] (fun U=>U.cell? ⟨s,3,none⟩=some (.slice x.ce.A x.ce.n x.ce.c)∧U.cell? ⟨s,4,none⟩=some (.int .i64 b.sn0)∧U.cell? ⟨s,5,none⟩=some (.int .i64 b.sn1)∧U.cell? ⟨s,6,none⟩=some (.int .i64 b.so0)∧U.cell? ⟨s,7,none⟩=some (.int .i64 b.so1)∧U.cell? ⟨s,8,none⟩=some (.int .i64 b.melt)∧U.cell? ⟨s,9,none⟩=some (.slice x.da.A x.da.n x.da.c)) (by kernel_rfl) (by exact⟨d3,d4,d5,d6,d7,d8,d9⟩) (fun hHeld=>?_);have hb9:=(Below.refl w.heap.size w).drew;replace HB:=hdT HB hb9;clear hb9;revert hHeld HB;generalize w.drew=w0;intro hHeld HB;refine tk 4 0 ?_;refine tk 3 1 ?_;refine tk 2 2 ?_;refine tk 1 3 ?_;refine tk 0 4 ?_;refine tk 4 5 ?_;refine tk 3 6 ?_;refine tk 2 7 ?_;refine tk 1 8 ?_;refine tk 0 9 ?_;refine ar [10] (al (fun K hK=>?_) an);go_simp;go_at_call 100;refine(HC.out _ HB.out).mono ?_;rintro e w1 ⟨A,c,vsl,gs,rfl,hcap,hrd,hrow,hb9⟩;have HROW:=hid hrow;clear hrow hcap;replace HB:=hdT HB hb9;have HRD:=hid hrd;clear hb9 hrd;(try go_wp2_with fail);(try clear hHeld);refine hK.out _ _ ?_;clear hK K;refine pt ?_;refine te 11 ?_;refine te 12 ?_;refine te 13 ?_;refine te 14 ?_;refine te 15 ?_;refine te 16 ?_;refine te 17 ?_;refine td ?_;(try clear hHeld);clear d3 d4 d5 d6 d7 d8 d9;obtain⟨hd1,hdn⟩:=HD1.out;obtain⟨B0,o0,g,rfl,hlt,hg,hc0⟩:=HRD.out.at_ (i:=x.da.n - 1) (by omega);have c0:=hc0 0 _ rfl;simp only[Nat.mul_one,Nat.add_zero] at c0;have hrw:=HROW.out _ _ hg;rw[show x.da.n - 1+1=b.days.length by have:=HDL.out;omega] at hrw;have HRW:=hid hrw
 have q1:IntKind.i64.wrap ((x.da.n:Int) - 1)=((x.da.n - 1:Nat):Int):=by rw[wi (by omega)];omega
 have q2:(0:Int)<(x.da.n:Int):=by omega
 have q3:((x.da.n - 1:Nat):Int)<(x.da.n:Int):=by omega
 have q4:(0:Int)≤((x.da.n - 1:Nat):Int):=by omega
 clear hc0 hrw hg hlt hd1 hdn
 go_wp2_with fail
 go_ret
 exact⟨g,rfl,HRW.out,HB.out⟩
end Go.Proofs.YtkhcliibilkefaaGreatDoor
namespace Go.Proofs.YtkhcliibilkefaaGreatDoor
open Lib (hid)
open Go.RowKit
theorem lvA_map_le {α:Type}{l:List α}{f g:α→Int}(h:∀ x∈l,f x≤g x)(i:Nat):lvA (l.map f) i≤lvA (l.map g) i:=by
 unfold lvA;rw[List.getD_eq_getElem?_getD,List.getD_eq_getElem?_getD,List.getElem?_map,List.getElem?_map]
 cases hx:l[i]? with
 | none=>exact Int.le_refl _
 | some x=>exact h x (List.mem_of_getElem? hx)
theorem waters_bd {b:Sess}(hf:faultW b.cells b.sn0 b.sn1 b.so0 b.so1 b.melt b.days=0)(i:Nat):0≤lvA (lowsS b) i∧lvA (lowsS b) i≤lvA (highsS b) i∧lvA (highsS b) i≤100000:=by
 obtain⟨h1,h2,h3⟩:=faultW_zero.1 hf;obtain⟨g1,g2,g3,g4,g5,g6⟩:=groundOk_iff.1 h1;have hd:∀ d∈b.days,0≤d.lo∧d.lo≤d.hi∧d.hi≤1000:=fun d hd=>(dayOk_iff.1 (h3 d hd)).1
 have hc:∀ c∈b.cells,0≤c.lo∧c.lo≤c.hi∧c.hi≤100000:=fun c hc=>by have:=g2 c hc;unfold celOk at this;omega
 have e0:=(WE.bd (levE_ok (CS:=⟨none,b.cells.length,0⟩) (DS:=⟨none,b.days.length,0⟩) (LV:=⟨none,0,0⟩) (RN:=⟨none,b.days.length,0⟩) (tsn:=b.sn0) (tso:=b.so0) (rain:=b.days.map (·.lo)) (L0:=b.cells.map (·.lo)) hf rfl rfl rfl (by omega) (by omega)
  (fun x hx=>by obtain⟨c,h,rfl⟩:=List.mem_map.1 hx;have:=hc c h;omega) (by simp) (fun x hx=>by obtain⟨d,h,rfl⟩:=List.mem_map.1 hx;have:=hd d h;omega) (by simp)) b.days.length).1 i
 have e1:=(WE.bd (levE_ok (CS:=⟨none,b.cells.length,0⟩) (DS:=⟨none,b.days.length,0⟩) (LV:=⟨none,0,0⟩) (RN:=⟨none,b.days.length,0⟩) (tsn:=b.sn1) (tso:=b.so1) (rain:=b.days.map (·.hi)) (L0:=b.cells.map (·.hi)) hf rfl rfl rfl (by omega) (by omega)
  (fun x hx=>by obtain⟨c,h,rfl⟩:=List.mem_map.1 hx;have:=hc c h;omega) (by simp) (fun x hx=>by obtain⟨d,h,rfl⟩:=List.mem_map.1 hx;have:=hd d h;omega) (by simp)) b.days.length).1 i
 have hm:=(days_mono (X:=b.days.map (·.warm)) (a:=⟨b.cells.map (·.lo),b.sn0,0⟩) (b:=⟨b.cells.map (·.hi),b.sn1,0⟩) (R:=b.days.map (·.lo)) (U:=b.days.map (·.hi)) g2 g5.1 g4.1 g4.2.1 (fun x hx=>by obtain⟨d,h,rfl⟩:=List.mem_map.1 hx;exact(hd d h).1) (fun j=>lvA_map_le (fun d h=>(hd d h).2.1) j) (fun j=>lvA_map_le (fun c h=>(hc c h).2.1) j) g3.1 g3.2.1 b.days.length).1 i;have a0:lowsS b=((levE ⟨none,b.cells.length,0⟩ ⟨none,b.days.length,0⟩ ⟨none,0,0⟩ ⟨none,b.days.length,0⟩ b.sn0 b.sn1 b.so0 b.so1 b.melt b.sn0 b.so0 b.cells b.days (b.days.map (·.lo)) (b.cells.map (·.lo))).st b.days.length).lv:=rfl;have a1:highsS b=((levE ⟨none,b.cells.length,0⟩ ⟨none,b.days.length,0⟩ ⟨none,0,0⟩ ⟨none,b.days.length,0⟩ b.sn0 b.sn1 b.so0 b.so1 b.melt b.sn1 b.so1 b.cells b.days (b.days.map (·.hi)) (b.cells.map (·.hi))).st b.days.length).lv:=rfl;rw[← a0] at e0;rw[← a1] at e1;exact⟨e0.1,hm,e1.2⟩
theorem wetS_len {b:Sess}(hl:b.links.length=b.cols.length):(wetS b).length=b.cols.length:=by simp[wetS,hl]
theorem wetS_at {b:Sess}{k:Nat}{x:BedS}{c:Int}(hx:b.cols[k]?=some x)(hc:b.links[k]?=some c):(wetS b)[k]?=some (wetB b x c):=by
 simp[wetS,List.getElem?_zipWith,hx,hc]
theorem wet_ok {b:Sess}(hf:faultW b.cells b.sn0 b.sn1 b.so0 b.so1 b.melt b.days=0)(hs:slopeOk b.cols b.least=true)(hl:b.links.length=b.cols.length):slopeOk (wetS b) b.least=true:=by
 obtain⟨h1,h2,h3⟩:=slopeOk_iff.1 hs;refine slopeOk_iff.2 ⟨by rw[wetS_len hl];exact h1,h2,fun y hy=>?_⟩;obtain⟨k,hk⟩:=List.getElem?_of_mem hy
 have hlt:k<b.cols.length:=by have:=(List.getElem?_eq_some_iff.1 hk).1;rw[wetS_len hl] at this;exact this
 have hx:=List.getElem?_eq_getElem hlt;have hc:=List.getElem?_eq_getElem (l:=b.links) (i:=k) (by omega);rw[wetS_at hx hc] at hk;obtain rfl:=Option.some.inj hk;have hb:=h3 _ (List.mem_of_getElem? hx);unfold wetB
 split
 · exact hb
 · have hw:=waters_bd hf (b.links[k]'(by omega)).toNat
   unfold bedOk at hb ⊢;exact⟨hb.1,hb.2.1,hb.2.2.1,hb.2.2.2.1,by dsimp only;omega⟩
theorem wet_succ {b:Sess}{k:Nat}{x:BedS}{c:Int}(hx:b.cols[k]?=some x)(hc:b.links[k]?=some c):(wetS b).take (k+1)=(wetS b).take k++[wetB b x c]:=by
 rw[List.take_add_one,wetS_at hx hc];rfl
end Go.Proofs.YtkhcliibilkefaaGreatDoor
namespace Go.Proofs.YtkhcliibilkefaaGreatDoor
open Lib (hid)
open Go.RowKit Go.Proofs Go.WideMaps
theorem laidN:laidOutB Tryz.prog=true:=by kernel_rfl
theorem rowN:312<Tryz.prog.types.size:=by
 have h:Nat.ble (Nat.succ 312) Tryz.prog.types.size=true:=by kernel_rfl
 exact Nat.lt_of_succ_le (Nat.le_of_ble_eq_true h)
theorem lawN:KeyLaw Tryz.prog 312:=deep_law_laid laidN (m:=2) (by omega) rowN (by kernel_rfl) (by rw[Tryz.underlying312])
def keyN (k:Int×Int):Value:=.agg #[.int .i64 k.1,.int .i64 k.2]
def okN (k:Int×Int):Prop:=(-9223372036854775808≤k.1∧k.1≤9223372036854775807)∧-9223372036854775808≤k.2∧k.2≤9223372036854775807
theorem keyN_inj {a b:Int×Int}(h:keyN a=keyN b):a=b:=by
 simp[keyN] at h;exact Prod.ext h.1 h.2
theorem keyOf_name {k:Int×Int}(h:okN k):∃ l,keyOf Tryz.prog 312 (keyN k)=some l:=by
 have hk:Tryz.prog.keyType 312=true:=by kernel_rfl
 have wa:(Lit.int .i64 k.1).wf=true:=WalkArith.wf_i64 (by have:=h.1;omega);have wb:(Lit.int .i64 k.2).wf=true:=WalkArith.wf_i64 (by have:=h.2;omega);unfold keyOf;simp only[Tryz.underlying312]
 have c1:Tryz.prog.cellsOf 312=2:=by kernel_rfl
 have c2:Tryz.prog.cellsOf 3=1:=by kernel_rfl
 rw[if_pos (by simp[hk,Value.formed,keyN,Tryz.underlying312,c1])];obtain⟨m,hm⟩:∃ m,Tryz.prog.types.size=m+1:=⟨Tryz.prog.types.size - 1,by have:=rowN;omega⟩;rw[hm];unfold Program.keyLits;simp only[Tryz.underlying312,keyN,Value.cells];simp[c1,c2,Program.keyLits,Tryz.underlying3,wa,wb]
def entN (i:Nat)(p:(Int×Int)×Int):MapEntry:=⟨keyN p.1,.int .i64 p.2,i⟩
def ents (ps:List ((Int×Int)×Int)):Array MapEntry:=(ps.mapIdx entN).toArray
def IsM (w:World)(M:Nat)(ps:List ((Int×Int)×Int)):Prop:=w.heap[M]?=some (.map (ents ps) ps.length)
def putM (w:World)(M:Nat)(ps:List ((Int×Int)×Int)):World:={ w with heap:=w.heap.setIfInBounds M (.map (ents ps) ps.length) }
theorem ents_get (ps:List ((Int×Int)×Int))(i:Nat):(ents ps).toList[i]?=ps[i]?.map (entN i):=by simp[ents]
theorem IsM.lt {w:World}{M:Nat}{ps:List ((Int×Int)×Int)}(h:IsM w M ps):M<w.heap.size:=(Array.getElem?_eq_some_iff.1 h).1
theorem IsM.put {w:World}{M:Nat}{ps:List ((Int×Int)×Int)}(h:IsM w M ps)(qs:List ((Int×Int)×Int)):IsM (putM w M qs) M qs:=by
 have:=h.lt;unfold IsM putM;simp[this]
theorem putM_grown (w:World)(M:Nat)(qs:List ((Int×Int)×Int)):w.grownBy (putM w M qs) (some M):=by
 refine⟨rfl,rfl,rfl,by simp[putM],fun k hk hne=>?_⟩;have:M≠k:=fun e=>hne (by rw[e]);simp[putM,Array.getElem?_setIfInBounds,this]
theorem IsM.grown {w w':World}{M:Nat}{ps:List ((Int×Int)×Int)}{row:Option Nat}(h:IsM w M ps)(hg:w.grownBy w' row)(hne:some M≠row):IsM w' M ps:=(hg.block M h.lt hne).trans h
theorem IsM.below {w w':World}{M:Nat}{ps:List ((Int×Int)×Int)}(h:IsM w M ps)(hb:Below w.heap.size w w'):IsM w' M ps:=(hb.block M h.lt).trans h
def KeysOk (ps:List ((Int×Int)×Int)):Prop:=∀ p∈ps,okN p.1
def Dist (ps:List ((Int×Int)×Int)):Prop:=∀(i j:Nat) (k:Int×Int) (c d:Int),ps[i]?=some (k,c)→ps[j]?=some (k,d)→i=j
theorem keys_of {ps:List ((Int×Int)×Int)}(hk:KeysOk ps):∀ e∈(ents ps).toList,∃ l,keyOf Tryz.prog 312 e.key=some l:=by
 intro e he;obtain⟨i,hi⟩:=List.getElem?_of_mem he;rw[ents_get] at hi;obtain⟨p,hp,rfl⟩:=Option.map_eq_some_iff.1 hi;exact keyOf_name (hk p (List.mem_of_getElem? hp))
theorem find_no {ps:List ((Int×Int)×Int)}(hk:KeysOk ps){x:Int×Int}(hx:okN x)(hno:∀ p∈ps,p.1≠x)(W:World):(Instr.findKey 312 (keyN x) (ents ps).toList).run Tryz.prog W=.ok none W:=by
 obtain⟨l,hl⟩:=keyOf_name hx
 rcases lawN.find W hl (ents ps).toList (keys_of hk) with ⟨h,_⟩ | ⟨j,e,_,he,hek⟩
 · exact h
 · exfalso
   rw[ents_get] at he;obtain⟨p,hp,rfl⟩:=Option.map_eq_some_iff.1 he;exact hno p (List.mem_of_getElem? hp) (keyN_inj hek)
theorem find_yes {ps:List ((Int×Int)×Int)}(hk:KeysOk ps)(hd:Dist ps){x:Int×Int}(hx:okN x){j:Nat}{c:Int}(hj:ps[j]?=some (x,c))(W:World):(Instr.findKey 312 (keyN x) (ents ps).toList).run Tryz.prog W=.ok (some (j,.int .i64 c)) W:=by
 obtain⟨l,hl⟩:=keyOf_name hx
 rcases lawN.find W hl (ents ps).toList (keys_of hk) with ⟨_,h⟩ | ⟨j',e,h,he,hek⟩
 · exfalso
   exact h (entN j (x,c)) (List.mem_of_getElem? (by rw[ents_get,hj];rfl)) rfl
 · rw[ents_get] at he
   obtain⟨⟨k,d⟩,hp,rfl⟩:=Option.map_eq_some_iff.1 he;obtain rfl:k=x:=keyN_inj hek;obtain rfl:j'=j:=hd _ _ _ _ _ hp hj;rw[hp] at hj;cases hj;exact h
theorem check_n {x:Int×Int}(hx:okN x)(em:Bool)(W:World):(Instr.checkKey em 10000 312 (keyN x)).run Tryz.prog W=.ok () W:=by
 obtain⟨l,hl⟩:=keyOf_name hx;exact lawN.check W em hl
theorem get_m {ps:List ((Int×Int)×Int)}{W:World}{M:Nat}(h:IsM W M ps):(getObj M).run Tryz.prog W=.ok (.map (ents ps) ps.length) W:=by
 simp[getObj,Sem.run,show W.heap[M]?=_ from h]
theorem set_m {ps:List ((Int×Int)×Int)}{W:World}{M:Nat}(h:IsM W M ps)(o:Obj):(setObj M o).run Tryz.prog W=.ok () { W with heap:=W.heap.setIfInBounds M o }:=by
 simp[setObj,Sem.run,show W.heap[M]?=_ from h]
theorem lookup_yes {ps:List ((Int×Int)×Int)}{W:World}{M:Nat}(h:IsM W M ps)(hk:KeysOk ps)(hd:Dist ps){x:Int×Int}(hx:okN x){j:Nat}{c:Int}(hj:ps[j]?=some (x,c)) :
 (Instr.lookup 309 (.map (some M)) (keyN x) false).run Tryz.prog W=.ok (.int .i64 c) W:=by
 simp[Instr.lookup,run_underlying Tryz.underlying309,get_m h,check_n hx,find_yes hk hd hx hj]
theorem ents_push (ps:List ((Int×Int)×Int))(x:Int×Int)(v:Int):(ents ps).push ⟨keyN x,.int .i64 v,ps.length⟩=ents (ps++[(x,v)]):=by
 simp[ents,List.mapIdx_concat,entN]
theorem look_no {ps:List ((Int×Int)×Int)}{W:World}{M:Nat}(h:IsM W M ps)(hk:KeysOk ps){x:Int×Int}(hx:okN x)(hno:∀ p∈ps,p.1≠x) :
 (Instr.lookup 309 (.map (some M)) (keyN x) true).run Tryz.prog W=.ok (.tuple #[.int .i64 0,.bool false]) W:=by
 simp[Instr.lookup,run_underlying Tryz.underlying309,get_m h,check_n hx,find_no hk hx hno,Tryz.zeroValue3]
theorem look_yes {ps:List ((Int×Int)×Int)}{W:World}{M:Nat}(h:IsM W M ps)(hk:KeysOk ps)(hd:Dist ps){x:Int×Int}(hx:okN x){j:Nat}{c:Int}(hj:ps[j]?=some (x,c)) :
 (Instr.lookup 309 (.map (some M)) (keyN x) true).run Tryz.prog W=.ok (.tuple #[.int .i64 c,.bool true]) W:=by
 simp[Instr.lookup,run_underlying Tryz.underlying309,get_m h,check_n hx,find_yes hk hd hx hj]
theorem upd_no {ps:List ((Int×Int)×Int)}{W:World}{M:Nat}(h:IsM W M ps)(hk:KeysOk ps){x:Int×Int}(hx:okN x)(hno:∀ p∈ps,p.1≠x)(v:Int) :
 (Instr.mapUpdate 309 (.map (some M)) (keyN x) (.int .i64 v)).run Tryz.prog W=.ok () (putM W M (ps++[(x,v)])):=by
 simp[Instr.mapUpdate,run_underlying Tryz.underlying309,get_m h,check_n hx,find_no hk hx hno,set_m h,ents_push,putM]
end Go.Proofs.YtkhcliibilkefaaGreatDoor
namespace Go.Proofs.YtkhcliibilkefaaGreatDoor
open Lib (hid)
open Go.RowKit Go.Proofs Go.Shelf
attribute [local go_sem] Oper.semAt_some
attribute [local go_sem ↓] Go.wp_at_zero Go.wp_at_succ
structure CW (B0:Nat) (W:World) (A:Option Addr) (n:Nat) (CL:List ColR):Prop where
 rd:Rd encC 1 W A n CL
 bed:∀(i:Nat) (r:ColR),CL[i]?=some r→Rd encBed 8 W r.A 1 [r.bed]
 low:∀ ad,A=some ad→ad.block<B0
 lowb:∀(i:Nat) (r:ColR),CL[i]?=some r→∀ ad,r.A=some ad→ad.block<B0
theorem CW.fr {B0:Nat}{E:Nat→Prop}{W W':World}{A:Option Addr}{n:Nat}{CL:List ColR}(h:CW B0 W A n CL)(hf:Fr E W W')(hE:∀ g,E g→B0≤g):CW B0 W' A n CL :=
 ⟨hf.rd h.rd fun ad e hc=>by have:=h.low ad e;have:=hE _ hc;omega,fun i r hr=>hf.rd (h.bed i r hr) fun ad e hc=>by have:=h.lowb i r hr ad e;have:=hE _ hc;omega,h.low,h.lowb⟩
theorem CW.below {B0:Nat}{W W':World}{A:Option Addr}{n:Nat}{CL:List ColR}(h:CW B0 W A n CL)(hb:Below W.heap.size W W'):CW B0 W' A n CL:=h.fr (E:=fun _=>False) (Fr.of_below hb _) (fun g hg=>hg.elim)
theorem CW.col1 {B0:Nat}{W:World}{A:Option Addr}{n:Nat}{CL:List ColR}(h:CW B0 W A n CL)(hn:1≤n):∃ g o,Col1 W A g o∧g<B0:=by
 obtain⟨g,o,r0,rfl,hgl,hr0,y0⟩:=h.rd.atC (i:=0) (by omega);exact⟨g,o,⟨rfl,hgl,r0.A,r0.c,by simpa using y0⟩,h.low _ rfl⟩
structure REnv (W:World) (TO PR KN LK RS M:Nat) (lk:Array Value) (tt:Nat):Prop where
 bto:Blk W TO 3 #[.int .i64 (tt:Int)]
 bpr:Blk W PR 293 #[.func (.func 235) #[.agg lk] #[]]
 bkn:Blk W KN 309 #[.map (some M)]
 blk:Blk W LK 253 lk
 brs:Blk W RS 310 #[.func (.func 236) #[] #[.pointer (some ⟨TO,0,none⟩),.pointer (some ⟨PR,0,none⟩),.pointer (some ⟨KN,0,none⟩),.pointer (some ⟨LK,0,none⟩),.pointer (some ⟨RS,0,none⟩)]]
theorem REnv.fr {E:Nat→Prop}{W W':World}{TO PR KN LK RS M:Nat}{lk:Array Value}{tt:Nat}(h:REnv W TO PR KN LK RS M lk tt)(hf:Fr E W W')(hE:¬ E TO∧¬ E PR∧¬ E KN∧¬ E LK∧¬ E RS):REnv W' TO PR KN LK RS M lk tt :=
 ⟨hf.blk h.bto hE.1,hf.blk h.bpr hE.2.1,hf.blk h.bkn hE.2.2.1,hf.blk h.blk hE.2.2.2.1,hf.blk h.brs hE.2.2.2.2⟩
theorem REnv.below {W W':World}{TO PR KN LK RS M:Nat}{lk:Array Value}{tt:Nat}(h:REnv W TO PR KN LK RS M lk tt)(hb:Below W.heap.size W W'):REnv W' TO PR KN LK RS M lk tt:=h.fr (E:=fun _=>False) (Fr.of_below hb _) ⟨fun h=>h,fun h=>h,fun h=>h,fun h=>h,fun h=>h⟩
theorem REnv.ne {W:World}{TO PR KN LK RS M:Nat}{lk:Array Value}{tt:Nat}{ps:List ((Int×Int)×Int)}(h:REnv W TO PR KN LK RS M lk tt)(hM:IsM W M ps):TO≠M∧PR≠M∧KN≠M∧LK≠M∧RS≠M:=by
 have k:∀ {g:Nat} {t:TypeId} {cs:Array Value},Blk W g t cs→g≠M:=by
  rintro g t cs hg rfl;have hM':W.heap[g]?=some (.map (ents ps) ps.length):=hM;rw[show W.heap[g]?=_ from hg] at hM';cases hM'
 exact⟨k h.bto,k h.bpr,k h.bkn,k h.blk,k h.brs⟩
theorem REnv.lt {W:World}{TO PR KN LK RS M:Nat}{lk:Array Value}{tt:Nat}(h:REnv W TO PR KN LK RS M lk tt):TO<W.heap.size∧PR<W.heap.size∧KN<W.heap.size∧LK<W.heap.size∧RS<W.heap.size:=⟨h.bto.lt,h.bpr.lt,h.bkn.lt,h.blk.lt,h.brs.lt⟩
structure PsOk (Q:Nat→Int) (tt:Nat) (ps:List ((Int×Int)×Int)):Prop where
 keys:KeysOk ps
 dist:Dist ps
 val:∀(j:Nat) (k:Int×Int) (v:Int),ps[j]?=some (k,v)→∃ c:Nat,k=((c:Int),0)∧c≤tt∧v=sumS Q (tt - c) c
theorem PsOk.add {Q:Nat→Int}{tt c:Nat}{ps:List ((Int×Int)×Int)}(h:PsOk Q tt ps)(hc:c≤tt)(ht:tt≤100)(hno:∀ p∈ps,p.1≠((c:Int),0)):PsOk Q tt (ps++[(((c:Int),0),sumS Q (tt - c) c)]):=by
 refine⟨fun p hp=>?_,fun i j k a b hi hj=>?_,fun j k v hj=>?_⟩
 · rcases List.mem_append.1 hp with hp | hp
   · exact h.keys p hp
   · obtain rfl:=List.mem_singleton.1 hp
     exact⟨⟨by simp only;omega,by simp only;omega⟩,by simp,by simp⟩
 · rw[List.getElem?_append] at hi hj
   split at hi<;>split at hj
   · exact h.dist i j k a b hi hj
   · rename_i h1 h2
     obtain⟨hj1,hj2⟩:=List.getElem?_eq_some_iff.1 hj;simp at hj1 hj2;exact absurd hj2.1.symm (hno _ (List.mem_of_getElem? hi))
   · rename_i h1 h2
     obtain⟨hj1,hj2⟩:=List.getElem?_eq_some_iff.1 hi;simp at hj1 hj2;exact absurd hj2.1.symm (hno _ (List.mem_of_getElem? hj))
   · have a1:=(List.getElem?_eq_some_iff.1 hi).1;have a2:=(List.getElem?_eq_some_iff.1 hj).1
     simp at a1 a2;omega
 · rw[List.getElem?_append] at hj
   split at hj
   · exact h.val j k v hj
   · obtain⟨hj1,hj2⟩:=List.getElem?_eq_some_iff.1 hj
     simp at hj1 hj2;exact⟨c,hj2.1.symm,hc,hj2.2.symm⟩
structure RPost (Q:Nat→Int) (tt c M:Nat) (ps:List ((Int×Int)×Int)) (W W':World):Prop where
 fr:Fr (fun g=>g=M) W W'
 map:∃ qs,IsM W' M qs∧PsOk Q tt qs∧∀ q∈qs,q∈ps∨∃ d:Nat,c≤d∧q.1=((d:Int),0)
structure RIn (Q:Nat→Int) (tt c M:Nat) (ps:List ((Int×Int)×Int)) (m:Int) (W U:World):Prop where
 b0:Blk U W.heap.size 312 #[.int .i64 (c:Int),.int .i64 0]
 b1:Blk U (W.heap.size+1) 3 #[.int .i64 m]
 fr:Fr (fun g=>g=M∨W.heap.size≤g) W U
 map:∃ qs,IsM U M qs∧PsOk Q tt qs∧∀ q∈qs,q∈ps∨∃ d:Nat,c+1≤d∧q.1=((d:Int),0)
theorem IsM.fr {E:Nat→Prop}{W W':World}{M:Nat}{ps:List ((Int×Int)×Int)}(h:IsM W M ps)(hf:Fr E W W')(hE:¬ E M):IsM W' M ps:=(hf.block M h.lt hE).trans h
theorem RIn.step {Q:Nat→Int}{tt c M:Nat}{ps:List ((Int×Int)×Int)}{m:Int}{W U U':World}(h:RIn Q tt c M ps m W U)(hM:M<W.heap.size){E:Nat→Prop}(hf:Fr E U U')(hE:∀ g,E g→W.heap.size+1<g):RIn Q tt c M ps m W U':=by
 obtain⟨qs,h1,h2,h3⟩:=h.map;refine⟨hf.blk h.b0 fun he=>by have:=hE _ he;omega,hf.blk h.b1 fun he=>by have:=hE _ he;omega,h.fr.comp hf fun g he=>.inl (.inr (by have:=hE _ he;omega)),qs,h1.fr hf fun he=>by have:=hE _ he;omega,h2,h3⟩
theorem RIn.below {Q:Nat→Int}{tt c M:Nat}{ps:List ((Int×Int)×Int)}{m:Int}{W U U':World}(h:RIn Q tt c M ps m W U)(hb:Below U.heap.size U U'):RIn Q tt c M ps m W U':=by
 obtain⟨qs,h1,h2,h3⟩:=h.map;exact⟨h.b0.below hb h.b0.lt,h.b1.below hb h.b1.lt,h.fr.comp (Fr.of_below hb fun _=>False) (fun _ hg=>hg.elim),qs,h1.below hb,h2,h3⟩
theorem RIn.call {Q:Nat→Int}{tt c M:Nat}{ps qs:List ((Int×Int)×Int)}{m:Int}{W U U':World}(h:RIn Q tt c M ps m W U)(hM:M<W.heap.size)(hq:∀ q∈qs,q∈ps∨∃ d:Nat,c+1≤d∧q.1=((d:Int),0))(hr:RPost Q tt (c+1) M qs U U'):RIn Q tt c M ps m W U':=by
 obtain⟨rs,h1,h2,h3⟩:=hr.map;refine⟨hr.fr.blk h.b0 (by omega),hr.fr.blk h.b1 (by omega),h.fr.comp hr.fr (fun g hg=>.inl (.inl hg)),rs,h1,h2,fun q hqr=>?_⟩
 rcases h3 q hqr with h4 | h4
 · exact hq q h4
 · exact .inr h4
theorem RIn.set {Q:Nat→Int}{tt c M:Nat}{ps:List ((Int×Int)×Int)}{m:Int}{W U:World}(h:RIn Q tt c M ps m W U)(hM:M<W.heap.size)(m':Int):RIn Q tt c M ps m' W (U.setCell ⟨W.heap.size+1,0,none⟩ (.int .i64 m')):=by
 obtain⟨qs,h1,h2,h3⟩:=h.map;have hf:Fr (fun g=>g=W.heap.size+1) U (U.setCell ⟨W.heap.size+1,0,none⟩ (.int .i64 m')):=Fr.setAt (E:=fun g=>g=W.heap.size+1) (p:=⟨W.heap.size+1,0,none⟩) (Fr.refl _ U) (.inl rfl) _;exact⟨hf.blk h.b0 (by omega),h.b1.set_ 0 _,h.fr.comp hf (fun g hg=>.inl (.inr (by omega))),qs,h1.fr hf (by omega),h2,h3⟩
theorem RIn.env {Q:Nat→Int}{tt c M:Nat}{ps:List ((Int×Int)×Int)}{m:Int}{W U:World}(h:RIn Q tt c M ps m W U){TO PR KN LK RS:Nat}{lk:Array Value}(he:REnv W TO PR KN LK RS M lk tt)(hm:IsM W M ps):REnv U TO PR KN LK RS M lk tt:=by
 have h1:=he.ne hm;have h2:=he.lt;exact he.fr h.fr ⟨by omega,by omega,by omega,by omega,by omega⟩
theorem RIn.cw {Q:Nat→Int}{tt c M B0:Nat}{ps:List ((Int×Int)×Int)}{m:Int}{W U:World}(h:RIn Q tt c M ps m W U){A:Option Addr}{n:Nat}{CL:List ColR}(hc:CW B0 W A n CL)(hB:B0≤M)(hM:M<W.heap.size):CW B0 U A n CL :=
 hc.fr h.fr fun g hg=>by omega
theorem Fr.more {E:Nat→Prop}{a b c:World}(h:Fr E a b)(k:Below b.heap.size b c):Fr E a c:=h.comp (Fr.of_below k fun _=>False) (fun _ hg=>hg.elim)
theorem sum_bd9 {Q:Nat→Int}(hQ:∀ j,-1500000000≤Q j∧Q j≤1500000000){d:Nat}(hd:d≤12)(c:Nat):-30000000000≤sumS Q d c∧sumS Q d c≤30000000000:=by
 have:=sum_bd (B:=1500000000) (P:=Q) (fun j=>⟨by have:=hQ j;omega,(hQ j).2⟩) d c;omega
def DefAt (D:Nat)(U:World):Prop:=U.heap[D]?=some (.deferred (some []))
theorem DefAt.lt {D:Nat}{U:World}(h:DefAt D U):D<U.heap.size:=(Array.getElem?_eq_some_iff.1 h).1
theorem DefAt.below {D:Nat}{U U':World}(h:DefAt D U)(hb:Below U.heap.size U U'):DefAt D U':=(hb.block D h.lt).trans h
abbrev restA (TO PR KN LK RS:Nat) (c:Nat):Array Value:=#[.agg #[.int .i64 (c:Int),.int .i64 0],.pointer (some ⟨TO,0,none⟩),.pointer (some ⟨PR,0,none⟩),.pointer (some ⟨KN,0,none⟩),.pointer (some ⟨LK,0,none⟩),.pointer (some ⟨RS,0,none⟩)]
section
variable {B0 TO PR KN LK RS M:Nat} {A:Option Addr} {n cc:Nat} {least factor:Int} {T:FuncId} {CL:List ColR} {Q:Nat→Int} {tt:Nat}
theorem rest_zero (hto:tt<n)
 (hcost:∀(W:World) (k:Nat),k<n→CW B0 W A n CL→Calls Tryz.prog 235 #[.agg (lkA A n cc least factor T),.int .i64 k,.int .i64 0] W fun e w'=>e=.returned (.int .i64 (Q k))∧Below W.heap.size W w')
 {ps:List ((Int×Int)×Int)} {W:World} (hcw:CW B0 W A n CL) (he:REnv W TO PR KN LK RS M (lkA A n cc least factor T) tt) (hm:IsM W M ps) (hp:PsOk Q tt ps) :
 Calls Tryz.prog 236 (restA TO PR KN LK RS tt) W fun e W'=>e=.returned (.int .i64 (sumS Q 0 tt))∧RPost Q tt tt M ps W W':=by
 have hal:=(Below.refl W.heap.size W).alloc (Nat.le_refl _) (.cells #[.int .i64 (tt:Int),.int .i64 0] 312);have he1:=he.below hal;have e0:=he1.bto.cell 0;have e1:=he1.bpr.cell 0;simp at e0 e1;have HC:=hid (hcost _ tt hto (hcw.below hal));have HB:=hid hal;have HM:=hid hm;have HP:=hid hp;clear hcost hcw he hm hp hal he1;refine(callsIn_wide (n:=8)).1 ?_;refine callsIn_of_wp_marks Tryz.func236 rfl trivial ?_ rfl;simp only[restA,Tryz.ntmps236,List.size_toArray,List.length_cons,List.length_nil,Nat.reduceAdd,Nat.reduceSub,Array.replicate_succ,Array.replicate_zero,List.push_toArray,List.append_toArray,List.nil_append,List.cons_append]
 gi_wp2_with (refine⟨trivial,?_⟩;gi_at_call 235;refine(callsIn_wide.2 HC.out).mono ?_;rintro e w2 ⟨rfl,hb2⟩)
 have hb3:=HB.out.trans (hb2.mono HB.out.size);refine⟨.int .i64 (Q tt),?_,rfl,⟨Fr.of_below hb3 _,ps,(hb3.block M HM.out.lt).trans HM.out,HP.out,fun q hq=>.inl hq⟩⟩;simp[results,Tryz.f236,go_sem]
theorem rest_hit {c j:Nat}{v:Int}(hct:c<tt)(ht9:tt≤100)
 {ps:List ((Int×Int)×Int)} {W:World} (he:REnv W TO PR KN LK RS M (lkA A n cc least factor T) tt) (hm:IsM W M ps) (hp:PsOk Q tt ps) (hj:ps[j]?=some (((c:Int),0),v)) :
 Calls Tryz.prog 236 (restA TO PR KN LK RS c) W fun e W'=>e=.returned (.int .i64 (sumS Q (tt - c) c))∧RPost Q tt c M ps W W':=by
 have hal:=(Below.refl W.heap.size W).alloc (Nat.le_refl _) (.cells #[.int .i64 (c:Int),.int .i64 0] 312);have he1:=he.below hal;have e0:=he1.bto.cell 0;have e1:=he1.bkn.cell 0;simp at e0 e1;obtain⟨d,hd1,hd2,hd3⟩:=hp.val j _ v hj
 have hdc:(d:Int)=(c:Int):=by have:=congrArg Prod.fst hd1;simpa using this.symm
 obtain rfl:d=c:=by omega
 have hlk:=look_yes (h:=hm.below hal) hp.keys hp.dist (x:=((d:Int),0)) ⟨⟨by simp only;omega,by simp only;omega⟩,by simp,by simp⟩ hj;simp only[keyN] at hlk
 have hne:¬((d:Int)=(tt:Int)):=by omega
 have HB:=hid hal;have HM:=hid hm;have HP:=hid hp;have HV:=hid hd3;clear he hm hp hal he1 hj hd1 hd2 hd3 hdc;refine(callsIn_wide (n:=8)).1 ?_;refine callsIn_of_wp_marks Tryz.func236 rfl trivial ?_ rfl;simp only[restA,Tryz.ntmps236,List.size_toArray,List.length_cons,List.length_nil,Nat.reduceAdd,Nat.reduceSub,Array.replicate_succ,Array.replicate_zero,List.push_toArray,List.append_toArray,List.nil_append,List.cons_append]
 gi_wp2
 refine⟨.int .i64 v,?_,by rw[HV.out],⟨Fr.of_below HB.out _,ps,HM.out.below HB.out,HP.out,fun q hq=>.inl hq⟩⟩;simp[results,Tryz.f236,go_sem]
theorem rest_step (htn:tt<n)(ht9:tt≤12)(hB0:B0≤M)
 (hcost:∀(W:World) (k:Nat),k<n→CW B0 W A n CL→Calls Tryz.prog 235 #[.agg (lkA A n cc least factor T),.int .i64 k,.int .i64 0] W fun e w'=>e=.returned (.int .i64 (Q k))∧Below W.heap.size W w')
 (hQ:∀ j,-1500000000≤Q j∧Q j≤1500000000)
 {c:Nat} (hct:c<tt)
 (ih:∀(ps:List ((Int×Int)×Int)) (W:World),CW B0 W A n CL→REnv W TO PR KN LK RS M (lkA A n cc least factor T) tt→IsM W M ps→PsOk Q tt ps →
  Calls Tryz.prog 236 (restA TO PR KN LK RS (c+1)) W fun e W'=>e=.returned (.int .i64 (sumS Q (tt - (c+1)) (c+1)))∧RPost Q tt (c+1) M ps W W')
 {ps:List ((Int×Int)×Int)} {W:World} (hcw:CW B0 W A n CL) (he:REnv W TO PR KN LK RS M (lkA A n cc least factor T) tt) (hm:IsM W M ps) (hp:PsOk Q tt ps) (hno:∀ p∈ps,p.1≠((c:Int),0)) :
 Calls Tryz.prog 236 (restA TO PR KN LK RS c) W fun e W'=>e=.returned (.int .i64 (sumS Q (tt - c) c))∧RPost Q tt c M ps W W':=by
 have hal:=(Below.refl W.heap.size W).alloc (Nat.le_refl _) (.cells #[.int .i64 (c:Int),.int .i64 0] 312);have hal2:=hal.alloc hal.size (.cells #[.int .i64 1000000000000000] 3);have he1:=he.below hal;have he2:=he.below hal2;have e0:=he1.bto.cell 0;have e1:=he1.bkn.cell 0;have l0:=he2.blk.cell 0;have l1:=he2.blk.cell 1;have l2:=he2.blk.cell 2;have l3:=he2.blk.cell 3;simp[lkA] at e0 e1 l0 l1 l2 l3;have hlk:=look_no (h:=hm.below hal) hp.keys (x:=((c:Int),0)) ⟨⟨by simp only;omega,by simp only;omega⟩,by simp,by simp⟩ hno;simp only[keyN] at hlk
 have hne:¬((c:Int)=(tt:Int)):=by omega
 have HCO:=hid hcost;have HC:=hid hcw;have HB:=hid hal2;have HM:=hid hm;have HP:=hid hp;have HE:=hid he;have hcast:((c+1:Nat):Int)=(c:Int)+1:=by omega
 obtain⟨R,hR⟩:∃ R,R=sumS Q (tt - (c+1)) (c+1):=⟨_,rfl⟩;simp only[restA,hcast,← hR] at ih;have HRR:=hid hR;clear hR;have HIH:=hid ih;have HNO:=hid hno;have HQ:=hid hQ;clear hcost hcw he hm hp hal hal2 he1 he2 ih hno hQ;refine(callsIn_wide (n:=8)).1 ?_;refine callsIn_of_wp_marks Tryz.func236 rfl trivial ?_ rfl;simp only[restA,Tryz.ntmps236,List.size_toArray,List.length_cons,List.length_nil,Nat.reduceAdd,Nat.reduceSub,Array.replicate_succ,Array.replicate_zero,List.push_toArray,List.append_toArray,List.nil_append,List.cons_append]
 gi_wp2_with (refine⟨trivial,?_⟩;gi_at_call 237;refine(callsIn_wide.2 (next_c A n cc least factor 0 T _)).mono ?_;rintro e w2 ⟨rfl,rfl⟩)
 have hMW:=HM.out.lt;obtain⟨W4,hW4⟩:∃ W4:World,((((W.alloc (.cells #[.int .i64 (c:Int),.int .i64 0] 312)).alloc (.cells #[.int .i64 1000000000000000] 3)).alloc (.cells (lkA A n cc least factor T) 253)).alloc (.cells #[.int .i64 0] 3))=W4:=⟨_,rfl⟩;have b0:=(((Blk.new W 312 #[.int .i64 (c:Int),.int .i64 0]).alloc (.cells #[.int .i64 1000000000000000] 3)).alloc (.cells (lkA A n cc least factor T) 253)).alloc (.cells #[.int .i64 0] 3);have b1:=((Blk.new (W.alloc (.cells #[.int .i64 (c:Int),.int .i64 0] 312)) 3 #[.int .i64 1000000000000000]).alloc (.cells (lkA A n cc least factor T) 253)).alloc (.cells #[.int .i64 0] 3);have b2:=(Blk.new ((W.alloc (.cells #[.int .i64 (c:Int),.int .i64 0] 312)).alloc (.cells #[.int .i64 1000000000000000] 3)) 253 (lkA A n cc least factor T)).alloc (.cells #[.int .i64 0] 3);have b3:=Blk.new (((W.alloc (.cells #[.int .i64 (c:Int),.int .i64 0] 312)).alloc (.cells #[.int .i64 1000000000000000] 3)).alloc (.cells (lkA A n cc least factor T) 253)) 3 #[.int .i64 0];simp only[World.size_alloc] at b1 b2 b3
 have hb4:Below W.heap.size W W4:=by
  rw[← hW4];exact((((Below.refl _ W).alloc (Nat.le_refl _) _).alloc (by simp) _).alloc (by simp;omega) _).alloc (by simp;omega) _
 have hsz:W4.heap.size=W.heap.size+1+1+1+1:=by rw[← hW4];simp
 rw[hW4] at b0 b1 b2 b3 ⊢;clear hW4 e0 e1 l0 l1 l2 l3 hlk
 have hn1:1≤n:=by omega
 obtain⟨g0,o0,hc1,hg0⟩:=(HC.out.below hb4).col1 hn1;have hri:RIn Q tt c M ps 1000000000000000 W W4:=⟨b0,b1,Fr.of_below hb4 _,ps,HM.out.below hb4,HP.out,fun q hq=>.inl hq⟩
 have hRb:-30000000000≤R∧R≤30000000000:=by rw[HRR.out];exact sum_bd9 HQ.out (by omega) _
 have henv:=HE.out.ne HM.out;have hlt:=HE.out.lt
 refine wpIn_rangeFunc_ownH rfl (by omega) (gf:=246) (lb:=#[.pointer (some ⟨W.heap.size+1+1+1,0,none⟩),.pointer (some ⟨W.heap.size+1+1,0,none⟩)]) rfl trivial (enters_of Tryz.func246 (by kernel_rfl) rfl)
  (next_stops 7 (by omega) W.heap.size M (W.heap.size+1+1+1) (W.heap.size+1+1) b3 b2 hc1 hn1 ⟨by omega,by omega⟩ ⟨by omega,by omega⟩) kpN_t (kpN_b (by omega) (by omega) (by omega)) (Below.refl _ _) (fun _=>rfl)
  (fun(pre:List Unit) U=>RIn Q tt c M ps (if pre.length=0 then 1000000000000000 else R) W U)
  (fun _ _ _=>False)
  (fun pre X Y row hs hg hr=>by
   refine hs.step hMW (E:=fun g=>row=some g) (Fr.of_grown hg fun g e _=>e) fun g e=>?_
   have:=(hr g e).1;omega)
  (fun _ _ _ _ _ hs _ _=>hs)
  hri
  (fun _ a' _=>a'={ tmps:=#[.agg #[.int .i64 (c:Int),.int .i64 0],.pointer (some ⟨TO,0,none⟩),.pointer (some ⟨PR,0,none⟩),.pointer (some ⟨KN,0,none⟩),.pointer (some ⟨LK,0,none⟩),.pointer (some ⟨RS,0,none⟩),.pointer (some ⟨W.heap.size,0,none⟩),.int .i64 0,.int .i64 0,.bool false,.pointer (some ⟨W.heap.size+1,0,none⟩),.int .i64 0,.pointer (some ⟨W.heap.size,0,none⟩),.int .i64 (c:Int),.int .i64 (tt:Int),.bool false,undef,undef,undef,undef,undef,undef,.tuple #[.int .i64 0,.bool false],.map (some M),.agg #[.int .i64 (c:Int),.int .i64 0],.tuple #[.int .i64 0,.bool false],.int .i64 0,.bool false,.bool false,undef,.agg #[.slice A n cc,.int .i64 least,.int .i64 factor,.func (.func T) #[] #[]],.pointer (some ⟨W.heap.size,1,none⟩),.int .i64 0,.func (.func 246) #[] #[.pointer (some ⟨W.heap.size+1+1+1,0,none⟩),.pointer (some ⟨W.heap.size+1+1,0,none⟩)],.int .i64 0,undef,undef,undef,undef,undef,undef,undef,undef,undef,undef,undef,undef,undef,undef,undef,undef,undef,undef,undef,undef,undef,undef,undef],defers:=[] })
  (fun _ _ _ _ _ _ hs _ _=>hs)
  ?assign ?body ?done ?stop
 case assign =>
  rintro l pre x U K hI hK;dsimp only[encU]
  gi_wp2
  exact hK _ _ ((KeepsOthers.refl _).from _) (Fr.refl _ _) hI rfl
 case body =>
  rintro l pre x a' U hl ⟨r,hr⟩ hI rfl hlen;obtain rfl:pre=[]:=List.eq_nil_of_length_eq_zero (by omega);have HI:=hid (show RIn Q tt c M ps 1000000000000000 W U from hI);have HK:=hid (Fr.refl (fun g=>g=M∨g=W.heap.size+1) U);clear hI hlen b0 b1 b2 b3 hb4 hri hc1 hg0;have hw1:IntKind.i64.wrap ((c:Int)+1)=(c:Int)+1:=wi (by omega)
  gi_wp2_with fail
  refine wpIn_region_till_round [10] (fun V=>V.cell? ⟨W.heap.size+1,0,none⟩=some (.int .i64 1000000000000000)∧V.cell? ⟨RS,0,none⟩=some (.func (.func 236) #[] #[.pointer (some ⟨TO,0,none⟩),.pointer (some ⟨PR,0,none⟩),.pointer (some ⟨KN,0,none⟩),.pointer (some ⟨LK,0,none⟩),.pointer (some ⟨RS,0,none⟩)])∧V.cell? ⟨W.heap.size,0,none⟩=some (.int .i64 (c:Int))) (by kernel_rfl) (by kernel_rfl) (by have hd0:=HI.out.below ((Below.refl U.heap.size U).drew);exact⟨by simpa using hd0.b1.cell 0,by simpa using (hd0.env HE.out HM.out).brs.cell 0,by simpa using hd0.b0.cell 0⟩) (fun hHeld=>?_);have hb9:=(Below.refl U.heap.size U).drew;replace HI:=hid (HI.out.below hb9);replace HK:=hid (HK.out.trans (Fr.of_below hb9 _));clear hb9;revert hHeld HI HK;generalize U.drew=w0;intro hHeld HI HK;refine tk 0 0 ?_;refine tk 0 1 ?_;refine tk 0 2 ?_;refine tk 0 3 ?_;refine tk 0 4 ?_;refine tk 0 5 ?_;refine tk 0 6 ?_;refine ar [7] (ac (fun K hK=>?_) an);go_simp;obtain⟨qs,hq1,hq2,hq3⟩:=HI.out.map;go_at_call 236;refine(HIH.out qs _ (HI.out.cw HC.out hB0 hMW) (HI.out.env HE.out HM.out) hq1 hq2).mono ?_;rintro e w1 ⟨rfl,hr9⟩;have hI2:=HI.out.call hMW hq3 hr9;have hK2:=HK.out.comp hr9.fr (fun g hg=>.inl (.inl hg));clear HI HK hr9 hq1 hq2 hq3;have HI:=hid hI2;have HK:=hid hK2;clear hI2 hK2;(try go_wp2_with fail);(try clear hHeld);refine hK.out _ _ (by(try dsimp only);exact⟨by simpa using HI.out.b1.cell 0,by simpa using (HI.out.env HE.out HM.out).brs.cell 0,by simpa using HI.out.b0.cell 0⟩) (fun hHeld=>?_)
  clear hK K;refine pt ?_;refine ar [8] (ac (fun K hK=>?_) an);go_simp;have hal:=(Below.refl w1.heap.size w1).alloc (Nat.le_refl _) (.cells #[.int .i64 1000000000000000,.int .i64 R] 3);have hn:=Blk.new w1 3 #[.int .i64 1000000000000000,.int .i64 R];replace HI:=hid (HI.out.below hal);replace HK:=hid (HK.out.trans (Fr.of_below hal _));have HA:=hid hn;clear hal hn;(try clear hHeld);refine hK.out _ _ (by(try dsimp only);exact⟨by simpa using HI.out.b1.cell 0,by simpa using (HI.out.env HE.out HM.out).brs.cell 0,by simpa using HI.out.b0.cell 0⟩) (fun hHeld=>?_);clear hK K;refine pt ?_;revert hHeld HI HK HA;generalize hgA:w1.heap.size=gA;generalize (World.alloc w1 (.cells #[.int .i64 1000000000000000,.int .i64 R] 3))=w0;intro HI HK HA hHeld;clear hgA;refine ar [9] (ac (fun K hK=>?_) an);go_simp;go_at_call 238;refine(least_c (Rd.of_blkE (l:=[1000000000000000,R]) enc1_len HA.out rfl rfl)).mono ?_;rintro e w1 ⟨rfl,hb9⟩;replace HI:=hid (HI.out.below hb9);replace HK:=hid (HK.out.trans (Fr.of_below hb9 _));replace HA:=hdB HA hb9;clear hb9 ;clear HA;(try go_wp2_with fail);(try clear hHeld);refine hK.out _ _ (by(try dsimp only);exact⟨by simpa using HI.out.b1.cell 0,by simpa using (HI.out.env HE.out HM.out).brs.cell 0,by simpa using HI.out.b0.cell 0⟩) (fun hHeld=>?_);clear hK K;refine pt ?_;refine ar [10] (al (fun K hK=>?_) an);have s0:=HI.out.b1.cell 0;have f0:=HI.out.b1.frozen 0;simp at s0
  have hmR:min 1000000000000000 R=R:=by omega
  rw[hmR];go_simp;(try clear hHeld);refine hK.out _ _ ?_;clear hK K;refine pt ?_;refine td ?_;dsimp only[OnlyN]
  gi_wp2
  have hK3:Fr (fun g=>g=M∨g=W.heap.size+1) U (w1.setCell ⟨W.heap.size+1,0,none⟩ (.int .i64 R)):=HK.out.setAt (p:=⟨W.heap.size+1,0,none⟩) (.inl (.inr rfl)) _;refine⟨hK3.keeps fun g o hE hB _=>?_,hK3.wide fun g _ hE=>?_,HI.out.set hMW R⟩
  · omega
  · omega
 case done =>
  rintro D ys V hD hys hI hK;have HI:=hid (show RIn Q tt c M ps R W V by have h:=hI;simp only[hys] at h;exact h);have HD:=hid (show DefAt D V from hK);clear hI hK hys b0 b1 b2 b3 hb4 hri hc1 hg0
  have hDM:D≠M:=by omega
  have hDW:W.heap.size+1<D:=by omega
  have hQc:=HQ.out c;have hw2:IntKind.i64.wrap (Q c+R)=Q c+R:=wi (by omega);have HCC:=hid (fun(U:World) (h:CW B0 U A n CL)=>HCO.out U c (by omega) h)
  gi_wp2_with fail
  refine wpIn_region_till_wide [10] (fun U=>U.cell? ⟨KN,0,none⟩=some (.map (some M))∧U.cell? ⟨W.heap.size,0,none⟩=some (.int .i64 (c:Int))∧U.cell? ⟨W.heap.size,1,none⟩=some (.int .i64 0)∧U.cell? ⟨PR,0,none⟩=some (.func (.func 235) #[.agg (lkA A n cc least factor T)] #[])∧U.cell? ⟨W.heap.size+1,0,none⟩=some (.int .i64 R)) (by kernel_rfl) (by have hd0:=HI.out.below ((Below.refl V.heap.size V).drew);exact⟨by simpa using (hd0.env HE.out HM.out).bkn.cell 0,by simpa using hd0.b0.cell 0,by simpa using hd0.b0.cell 1,by simpa using (hd0.env HE.out HM.out).bpr.cell 0,by simpa using hd0.b1.cell 0⟩) (fun hHeld=>?_);have hb9:=(Below.refl V.heap.size V).drew;replace HI:=hid (HI.out.below hb9);replace HD:=hid (HD.out.below hb9);clear hb9;revert hHeld HI HD;generalize V.drew=w0;intro hHeld HI HD;refine tk 0 0 ?_;refine tk 0 1 ?_;refine tk 0 2 ?_;refine tk 0 3 ?_;refine tk 0 4 ?_;refine tk 0 5 ?_;refine tk 0 6 ?_;refine tk 0 8 ?_;refine ar [7] (ac (fun K hK=>?_) an);go_simp;go_at_call 235;refine(HCC.out _ (HI.out.cw HC.out hB0 hMW)).mono ?_;rintro e w1 ⟨rfl,hb9⟩;replace HI:=hid (HI.out.below hb9);replace HD:=hid (HD.out.below hb9);clear hb9 ;(try go_wp2_with fail);(try clear hHeld);refine hK.out _ _ (by(try dsimp only);exact⟨by simpa using (HI.out.env HE.out HM.out).bkn.cell 0,by simpa using HI.out.b0.cell 0,by simpa using HI.out.b0.cell 1,by simpa using (HI.out.env HE.out HM.out).bpr.cell 0,by simpa using HI.out.b1.cell 0⟩) (fun hHeld=>?_);clear hK K;refine pt ?_;refine tk 0 9 ?_
  refine ar [10] (al (fun K hK=>?_) an);obtain⟨qs,hq1,hq2,hq3⟩:=HI.out.map
  have hqn:∀ q∈qs,q.1≠((c:Int),0):=fun q hq e=>by
   rcases hq3 q hq with h | ⟨d,hd,h⟩
   · exact HNO.out q h e
   · rw[h] at e;have:=congrArg Prod.fst e;simp at this;omega
  have hup:=upd_no hq1 hq2.keys (x:=((c:Int),0)) ⟨⟨by simp only;omega,by simp only;omega⟩,by simp,by simp⟩ hqn (Q c+R);simp only[keyN] at hup;have HQ1:=hid hq1;have HQ2:=hid hq2;have HQ3:=hid hq3;have HQN:=hid hqn;clear hq1 hq2 hq3 hqn;go_simp;(try clear hHeld);refine hK.out _ _ ?_;clear hK K;refine pt ?_;refine td ?_;dsimp only[OnlyN];clear hup
  have hsum:Q c+R=sumS Q (tt - c) c:=by
   rw[HRR.out,show tt - c=(tt - (c+1))+1 by omega];rfl
  have hok:=HQ2.out.add (c:=c) (by omega) (by omega) HQN.out;rw[← hsum] at hok;have hgr:=putM_grown w1 M (qs++[(((c:Int),0),Q c+R)]);have him:=HQ1.out.put (qs++[(((c:Int),0),Q c+R)]);have henv1:=HI.out.env HE.out HM.out;have hne1:=HE.out.ne HM.out;have k0:=(henv1.bkn.grown hgr (by intro e;cases e;omega)).cell 0;have a0:=(HI.out.b0.grown hgr (by intro e;cases e;omega)).cell 0;have a1:=(HI.out.b0.grown hgr (by intro e;cases e;omega)).cell 1;simp at k0 a0 a1;have hlk:=lookup_yes him hok.keys hok.dist (x:=((c:Int),0)) ⟨⟨by simp only;omega,by simp only;omega⟩,by simp,by simp⟩ (j:=qs.length) (c:=Q c+R) (by simp);simp only[keyN] at hlk;have hdf:=(hgr.block D HD.out.lt (by intro e;cases e;omega)).trans HD.out;have hfr1:Fr (fun g=>g=M∨W.heap.size≤g) W (putM w1 M (qs++[(((c:Int),0),Q c+R)])):=HI.out.fr.comp (Fr.of_grown hgr (E:=fun g=>g=M) fun g e _=>by cases e;rfl) fun g hg=>.inl (.inl hg);have HOK:=hid hok;have HIM:=hid him;have HFR:=hid hfr1;have HSUM:=hid hsum;clear hok him hfr1 hgr henv1 hsum;generalize putM w1 M (qs++[(((c:Int),0),Q c+R)])=w2 at *
  gi_wp2
  refine⟨by simp,.inl ?_⟩;refine⟨_,_,rfl,run_takeDeferred hdf,?_⟩;have gD:=grownBy_putObj' w2 D (.deferred none);refine⟨.int .i64 (Q c+R),?_,by rw[HSUM.out],⟨?_,_,HIM.out.grown gD (by intro e;cases e;omega),HOK.out,?_⟩⟩
  · simp[results,Tryz.f236,go_sem]
  · exact(HFR.out.comp (Fr.of_grown gD (E:=fun g=>g=D) fun g e _=>by cases e;rfl) fun g hg=>.inl (.inr (by omega))).wide fun g hlt hg=>by omega
  · intro q hq
    rcases List.mem_append.1 hq with hq | hq
    · rcases HQ3.out q hq with h | ⟨d,hd,h⟩
      · exact .inl h
      · exact .inr ⟨d,by omega,h⟩
    · obtain rfl:=List.mem_singleton.1 hq
      exact .inr ⟨c,Nat.le_refl _,rfl⟩
 case stop =>
  rintro D c pre W _ _ h _;exact h.elim
theorem rest_c (htn:tt<n)(ht9:tt≤12)(hB0:B0≤M)
 (hcost:∀(W:World) (k:Nat),k<n→CW B0 W A n CL→Calls Tryz.prog 235 #[.agg (lkA A n cc least factor T),.int .i64 k,.int .i64 0] W fun e w'=>e=.returned (.int .i64 (Q k))∧Below W.heap.size W w')
 (hQ:∀ j,-1500000000≤Q j∧Q j≤1500000000) :
 ∀(d c:Nat),c+d=tt→∀(ps:List ((Int×Int)×Int)) (W:World),CW B0 W A n CL→REnv W TO PR KN LK RS M (lkA A n cc least factor T) tt→IsM W M ps→PsOk Q tt ps →
  Calls Tryz.prog 236 (restA TO PR KN LK RS c) W fun e W'=>e=.returned (.int .i64 (sumS Q (tt - c) c))∧RPost Q tt c M ps W W'
 | 0,c,hcd,ps,W,h1,h2,h3,h4=>by
  obtain rfl:c=tt:=by omega
  rw[Nat.sub_self];exact rest_zero htn hcost h1 h2 h3 h4
 | d+1,c,hcd,ps,W,h1,h2,h3,h4=>by
  by_cases hk:∃(j:Nat) (v:Int),ps[j]?=some (((c:Int),0),v)
  · obtain⟨j,v,hj⟩:=hk
    exact rest_hit (by omega) (by omega) h2 h3 h4 hj
  · refine rest_step htn ht9 hB0 hcost hQ (by omega) (rest_c htn ht9 hB0 hcost hQ d (c+1) (by omega)) h1 h2 h3 h4 fun p hp e=>hk ?_
    obtain⟨j,hj⟩:=List.getElem?_of_mem hp;exact⟨j,p.2,by rw[hj,← e]⟩
end
end Go.Proofs.YtkhcliibilkefaaGreatDoor
