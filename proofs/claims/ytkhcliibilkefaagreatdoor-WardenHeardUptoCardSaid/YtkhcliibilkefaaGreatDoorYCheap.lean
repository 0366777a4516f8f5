/- THE CONTRACT of slope.cheapest at columns of one bed. -/
import Derived.Test.YtkhcliibilkefaaGreatDoorYRest
set_option linter.unusedVariables false
set_option linter.unusedSimpArgs false
set_option maxRecDepth 100000
set_option maxHeartbeats 8000000
namespace Go.Proofs.YtkhcliibilkefaaGreatDoor
open Lib (hid)
open Go.RowKit Go.Proofs Go.Shelf
attribute [local go_sem] Oper.semAt_some
attribute [local go_sem ↓] Go.wp_at_zero Go.wp_at_succ
structure CEnv (Q:Nat→Int) (tt:Nat) (lk:Array Value) (w U:World):Prop where
 be:Below w.heap.size w U
 env:REnv U (w.heap.size+1) (w.heap.size+1+1+1+1+1) (w.heap.size+1+1+1+1) w.heap.size (w.heap.size+1+1+1+1+1+1) (w.heap.size+1+1+1) lk tt
 map:∃ ps,IsM U (w.heap.size+1+1+1) ps∧PsOk Q tt ps
theorem CEnv.below {Q:Nat→Int}{tt:Nat}{lk:Array Value}{w U U':World}(h:CEnv Q tt lk w U)(hb:Below U.heap.size U U'):CEnv Q tt lk w U':=by
 obtain⟨ps,h1,h2⟩:=h.map;exact⟨h.be.trans (hb.mono h.be.size),h.env.below hb,ps,h1.below hb,h2⟩
theorem CEnv.fr {Q:Nat→Int}{tt:Nat}{lk:Array Value}{w U U':World}(h:CEnv Q tt lk w U){E:Nat→Prop}(hf:Fr E U U')(hE:∀ g,E g→w.heap.size+1+1+1+1+1+1<g∨g=w.heap.size+1+1):CEnv Q tt lk w U':=by
 obtain⟨ps,h1,h2⟩:=h.map;refine⟨h.be.trans (hf.below h.be.size fun g hg=>by have:=hE g hg;omega),h.env.fr hf ⟨fun hg=>by have:=hE _ hg;omega,fun hg=>by have:=hE _ hg;omega,fun hg=>by have:=hE _ hg;omega,fun hg=>by have:=hE _ hg;omega,fun hg=>by have:=hE _ hg;omega⟩,ps,h1.fr hf fun hg=>by have:=hE _ hg;omega,h2⟩
theorem CEnv.call {Q:Nat→Int}{tt c:Nat}{lk:Array Value}{w U U':World}{ps:List ((Int×Int)×Int)}(h:CEnv Q tt lk w U)(hr:RPost Q tt c (w.heap.size+1+1+1) ps U U'):CEnv Q tt lk w U':=by
 obtain⟨qs,h1,h2,_⟩:=hr.map;exact⟨h.be.trans (hr.fr.below h.be.size fun g hg=>by omega),h.env.fr hr.fr ⟨by omega,by omega,by omega,by omega,by omega⟩,qs,h1,h2⟩
theorem CW.be {B0:Nat}{W W':World}{A:Option Addr}{n:Nat}{CL:List ColR}(h:CW B0 W A n CL)(hb:Below B0 W W'):CW B0 W' A n CL:=by
 refine⟨?_,fun i r hr=>?_,h.low,h.lowb⟩
 · refine⟨h.rd.1,fun h0=>?_⟩
   obtain⟨b,o,e,hlt,hc⟩:=h.rd.2 h0;have hlo:=h.low _ e;exact⟨b,o,e,Nat.lt_of_lt_of_le hlt hb.size,fun i x hx j v hv=>(hb.cell (p:=⟨b,_,none⟩) (show b<B0 from hlo)).trans (hc i x hx j v hv)⟩
 · have hrr:=h.bed i r hr
   refine⟨hrr.1,fun h0=>?_⟩;obtain⟨b,o,e,hlt,hc⟩:=hrr.2 h0;have hlo:=h.lowb i r hr _ e;exact⟨b,o,e,Nat.lt_of_lt_of_le hlt hb.size,fun i x hx j v hv=>(hb.cell (p:=⟨b,_,none⟩) (show b<B0 from hlo)).trans (hc i x hx j v hv)⟩
structure CS (Q:Nat→Int) (tt:Nat) (lk:Array Value) (ff:Nat) (w:World) (c AT S m k:Nat) (ls:List Int) (ds:List Nat) (U:World):Prop where
 ev:CEnv Q tt lk w U
 ub:Blk U (w.heap.size+1+1) 221 #[.int .i64 (ff:Int),.slice (some ⟨S,0,none⟩) m k]
 at_:Blk U AT 312 #[.int .i64 (c:Int),.int .i64 0]
 own:U.ownsRow (w.heap.size+1+1+1+1+1+1+1) 3 1 (.slice (some ⟨S,0,none⟩) m k) m (ls.flatMap enc1)
 hAT:w.heap.size+1+1+1+1+1+1+1≤AT
 hS:w.heap.size+1+1+1+1+1+1+1≤S∧S<U.heap.size
 mks:∀ D∈ds,DefAt D U∧w.heap.size+1+1+1+1+1+1+1≤D
 nd:ds.Nodup
section
variable {Q:Nat→Int} {tt:Nat} {lk:Array Value} {ff:Nat} {w:World} {c AT S m k:Nat} {ls:List Int} {ds:List Nat} {U U':World}
theorem CS.fr (h:CS Q tt lk ff w c AT S m k ls ds U){E:Nat→Prop}(hf:Fr E U U')(hev:CEnv Q tt lk w U')(hE:∀ g,E g→g≠w.heap.size+1+1∧g≠AT∧g≠S∧g ∉ ds):CS Q tt lk ff w c AT S m k ls ds U':=by
 refine⟨hev,hf.blk h.ub fun e=>(hE _ e).1 rfl,hf.blk h.at_ fun e=>(hE _ e).2.1 rfl,hf.row h.own fun g hg e=>?_,h.hAT,⟨h.hS.1,Nat.lt_of_lt_of_le h.hS.2 hf.size⟩,fun D hD=>⟨(hf.block D (h.mks D hD).1.lt fun e=>(hE _ e).2.2.2 hD).trans (h.mks D hD).1,(h.mks D hD).2⟩,h.nd⟩;simp[Value.ownBlock] at hg;exact(hE _ e).2.2.1 hg.symm
theorem CS.below (h:CS Q tt lk ff w c AT S m k ls ds U)(hb:Below U.heap.size U U'):CS Q tt lk ff w c AT S m k ls ds U':=h.fr (E:=fun _=>False) (Fr.of_below hb _) (h.ev.below hb) fun g hg=>hg.elim
theorem CS.call (h:CS Q tt lk ff w c AT S m k ls ds U)(hev:CEnv Q tt lk w U')(hf:Fr (fun g=>g=w.heap.size+1+1+1) U U'):CS Q tt lk ff w c AT S m k ls ds U' :=
 h.fr hf hev fun g hg=>⟨by omega,by have:=h.hAT;omega,by have:=h.hS;omega,fun hD=>by have:=(h.mks g hD).2;omega⟩
end
def LI (A:Option Addr)(n cc:Nat)(least factor:Int)(T:FuncId)(Q:Nat→Int)(ff tt:Nat)(R:Int)(w:World)(d:Nat)(a:Act)(U:World):Prop :=
 ∃(c AT S m k:Nat) (ls:List Int) (ds:List Nat),c+d=tt∧CS Q tt (lkA A n cc least factor T) ff w c AT S m k ls ds U∧m≤c+1∧ls.length=m∧w.heap.size+1+1+1+1+1+1+1≤U.heap.size ∧
  ∃(u4 u11 u12 u13 u15 u16 u17 u18 u19 u20 u21 u22 u23 u24 u25 u26 u27 u28 u29 u30 u31 u32 u33 u34 u35 u36 u37 u38 u39 u40 u41 u42 u43 u44 u45 u46 u47 u48 u49 u50 u51 u52 u53 u54 u55 u56 u57 u58 u59 u60 u61 u62 u63 u64 u65 u66 u67 u68 u69 u70 u71 u72 u73 u74 u75 u76 u77 u78 u79 u80 u81 u82:Value),a={ tmps:=#[.agg #[.slice A n cc,.int .i64 least,.int .i64 factor,.func (.func T) #[] #[]],.int .i64 (ff:Int),.int .i64 (tt:Int),.pointer (some ⟨w.heap.size,0,none⟩),u4,.pointer (some ⟨w.heap.size+1,0,none⟩),.pointer (some ⟨w.heap.size+1+1,0,none⟩),.int .i64 R,.pointer (some ⟨w.heap.size+1+1+1+1,0,none⟩),.pointer (some ⟨w.heap.size+1+1+1+1+1,0,none⟩),.pointer (some ⟨w.heap.size+1+1+1+1+1+1,0,none⟩),u11,u12,u13,.pointer (some ⟨AT,0,none⟩),u15,u16,u17,u18,u19,u20,u21,u22,u23,u24,u25,u26,u27,u28,u29,u30,u31,u32,u33,u34,u35,u36,u37,u38,u39,u40,u41,u42,u43,u44,u45,u46,u47,u48,u49,u50,u51,u52,u53,u54,u55,u56,u57,u58,u59,u60,u61,u62,u63,u64,u65,u66,u67,u68,u69,u70,u71,u72,u73,u74,u75,u76,u77,u78,u79,u80,u81,u82],defers:=ds.map fun D=>{ target:=.collected D,args:=#[] } }
theorem rounds_step {F:Fence}{n:Nat}{P:Program}{c:Code}{Q:Exit→Act→World→Prop}{m:Nat}{a:Act}{w:World}(h:∀ KK:Act→World→Prop,(∀ a w,Code.roundsIn F n P c Q m a w→KK a w)→c.wpIn F n P (Exit.then KK Q) a w):Code.roundsIn F n P c Q (m+1) a w:=h _ (fun _ _ h=>h)
theorem leaves_marks {F:Fence}{n:Nat}{P:Program}{fn:Func}{tmps:Array Value}{R:Ending→World→Prop}:∀(ds:List Nat) (U:World),(∀ D∈ds,DefAt D U)→ds.Nodup→(∀ U',Fr (fun g=>g∈ds) U U'→LeavesInM F n P fn tmps R [] .returning U') →
 LeavesInM F n P fn tmps R (ds.map fun D=>{ target:=.collected D,args:=#[] }) .returning U
 | [],U,_,_,h=>h U (Fr.refl _ _)
 | D::ds,U,hd,hn,h=>by
  have gD:=grownBy_putObj' U D (.deferred none);rw[List.nodup_cons] at hn;refine⟨by simp,.inl ⟨_,_,rfl,run_takeDeferred (hd D (by simp)),?_⟩⟩;refine leaves_marks ds _ (fun E hE=>(gD.block E (hd E (by simp[hE])).lt (fun e=>hn.1 (by cases e;exact hE))).trans (hd E (by simp[hE]))) hn.2 fun U' hf=>h U' ?_;exact(Fr.of_grown gD (E:=fun g=>g∈D::ds) fun g e _=>by cases e;simp).comp hf fun g hg=>.inl (by simp[hg])
section
variable {A:Option Addr} {n cc:Nat} {least factor:Int} {T:FuncId} {CL:List ColR} {Q:Nat→Int} {ff tt:Nat}
theorem cheap_in (hft:ff≤tt)(htn:tt<n)(ht9:tt≤12){w:World}(hcw:CW w.heap.size w A n CL)
 (hcost:∀(W:World) (k:Nat),k<n→CW w.heap.size W A n CL→Calls Tryz.prog 235 #[.agg (lkA A n cc least factor T),.int .i64 k,.int .i64 0] W fun e w'=>e=.returned (.int .i64 (Q k))∧Below W.heap.size W w')
 (hQ:∀ j,-1500000000≤Q j∧Q j≤1500000000) :
 CallsIn Fence.wide 8 Tryz.prog 213 #[.agg (lkA A n cc least factor T),.int .i64 (ff:Int),.int .i64 (tt:Int)] w fun e W'=>∃(z:Int) (S:Option Addr) (m k:Nat),e=.returned (.tuple #[.agg #[.int .i64 z,.slice S m k],.int .i64 (sumS Q (tt - ff) ff)])∧Below w.heap.size w W':=by
 have HCO:=hid hcost;have HC:=hid hcw;have HQ:=hid hQ
 have hn1:1≤n:=by omega
 have HREST:=hid (fun(c:Nat) (hc:c≤tt) (U:World) (hU:CEnv Q tt (lkA A n cc least factor T) w U)=>hU.map.elim fun ps hp=>(rest_c (B0:=w.heap.size) htn ht9 (by omega) hcost hQ (tt - c) c (by omega) ps U (hcw.be hU.be) hU.env hp.1 hp.2).mono fun e U' ⟨he,hr⟩=>(⟨he,hU.call hr,hr.fr⟩:e=Ending.returned (.int .i64 (sumS Q (tt - c) c))∧CEnv Q tt (lkA A n cc least factor T) w U'∧Fr (fun g=>g=w.heap.size+1+1+1) U U'));clear hcost hcw hQ;refine callsIn_of_wp_marks Tryz.func213 rfl trivial ?_ rfl;simp only[Tryz.ntmps213,List.size_toArray,List.length_cons,List.length_nil,Nat.reduceAdd,Nat.reduceSub,Array.replicate_succ,Array.replicate_zero,List.push_toArray,List.append_toArray,List.nil_append,List.cons_append];have hmf:∀(fn:Fn) (first cap:Array Value) (w:World),(Instr.makeFunc fn first cap).run Tryz.prog w=.ok (.func fn first cap) w:=fun _ _ _ _=>rfl;have hmm:=@run_makeMap Tryz.prog;refine wpIn_wide.2 ?_
 go_upto_region 2 with fail
 obtain⟨U,hU⟩:∃ U:World,((((w.alloc (.cells (lkA A n cc least factor T) 253)).alloc (.cells #[.int .i64 (tt:Int)] 3)).alloc (.cells #[.int .i64 0,.slice none 0 0] 221)).alloc (.map #[] 0)).alloc (.cells #[.map (some (w.heap.size+1+1+1))] 309)=U:=⟨_,rfl⟩;have b0:=((((Blk.new w 253 (lkA A n cc least factor T)).alloc (.cells #[.int .i64 (tt:Int)] 3)).alloc (.cells #[.int .i64 0,.slice none 0 0] 221)).alloc (.map #[] 0)).alloc (.cells #[.map (some (w.heap.size+1+1+1))] 309);have b1:=(((Blk.new (w.alloc (.cells (lkA A n cc least factor T) 253)) 3 #[.int .i64 (tt:Int)]).alloc (.cells #[.int .i64 0,.slice none 0 0] 221)).alloc (.map #[] 0)).alloc (.cells #[.map (some (w.heap.size+1+1+1))] 309);have b2:=((Blk.new ((w.alloc (.cells (lkA A n cc least factor T) 253)).alloc (.cells #[.int .i64 (tt:Int)] 3)) 221 #[.int .i64 0,.slice none 0 0]).alloc (.map #[] 0)).alloc (.cells #[.map (some (w.heap.size+1+1+1))] 309)
 have b3:IsM U (w.heap.size+1+1+1) []:=by
  rw[← hU];unfold IsM;rw[Below.heap_alloc _ _ _ (by simp)];have h9:=heap_alloc_new (((w.alloc (.cells (lkA A n cc least factor T) 253)).alloc (.cells #[.int .i64 (tt:Int)] 3)).alloc (.cells #[.int .i64 0,.slice none 0 0] 221)) (.map #[] 0);simp only[World.size_alloc] at h9;exact h9
 have b4:=Blk.new ((((w.alloc (.cells (lkA A n cc least factor T) 253)).alloc (.cells #[.int .i64 (tt:Int)] 3)).alloc (.cells #[.int .i64 0,.slice none 0 0] 221)).alloc (.map #[] 0)) 309 #[.map (some (w.heap.size+1+1+1))];simp only[World.size_alloc] at b1 b2 b4
 have hbe:Below w.heap.size w U:=by
  rw[← hU];exact(((((Below.refl _ w).alloc (Nat.le_refl _) _).alloc (by simp) _).alloc (by simp;omega) _).alloc (by simp;omega) _).alloc (by simp;omega) _
 have hsz:U.heap.size=w.heap.size+1+1+1+1+1:=by rw[← hU];simp
 rw[hU] at b0 b1 b2 b4 ⊢;clear hU;have l0:=b0.cell 0;have l1:=b0.cell 1;have l2:=b0.cell 2;have l3:=b0.cell 3;simp[lkA] at l0 l1 l2 l3
 go_upto_region 5 with fail
 obtain⟨V,hV⟩:∃ V:World,((U.alloc (.cells #[(.func (.func 235) #[.agg (lkA A n cc least factor T)] #[])] 293)).alloc (.cells #[(.func (.func 236) #[] #[.pointer (some ⟨w.heap.size+1,0,none⟩),.pointer (some ⟨w.heap.size+1+1+1+1+1,0,none⟩),.pointer (some ⟨w.heap.size+1+1+1+1,0,none⟩),.pointer (some ⟨w.heap.size,0,none⟩),.pointer (some ⟨w.heap.size+1+1+1+1+1+1,0,none⟩)])] 310))=V:=⟨_,rfl⟩;have c5:=(Blk.new U 293 #[(.func (.func 235) #[.agg (lkA A n cc least factor T)] #[])]).alloc (.cells #[(.func (.func 236) #[] #[.pointer (some ⟨w.heap.size+1,0,none⟩),.pointer (some ⟨w.heap.size+1+1+1+1+1,0,none⟩),.pointer (some ⟨w.heap.size+1+1+1+1,0,none⟩),.pointer (some ⟨w.heap.size,0,none⟩),.pointer (some ⟨w.heap.size+1+1+1+1+1+1,0,none⟩)])] 310);have c6:=Blk.new (U.alloc (.cells #[(.func (.func 235) #[.agg (lkA A n cc least factor T)] #[])] 293)) 310 #[(.func (.func 236) #[] #[.pointer (some ⟨w.heap.size+1,0,none⟩),.pointer (some ⟨w.heap.size+1+1+1+1+1,0,none⟩),.pointer (some ⟨w.heap.size+1+1+1+1,0,none⟩),.pointer (some ⟨w.heap.size,0,none⟩),.pointer (some ⟨w.heap.size+1+1+1+1+1+1,0,none⟩)])];simp only[World.size_alloc,hsz] at c5 c6
 have hbv:Below U.heap.size U V:=by rw[← hV];exact((Below.refl _ U).alloc (Nat.le_refl _) _).alloc (by simp) _
 have hsv:V.heap.size=w.heap.size+1+1+1+1+1+1+1:=by rw[← hV];simp[hsz]
 rw[hV] at c5 c6
 have hfold:∀ P:World→Prop,P V→P ((U.alloc (.cells #[.func (.func 235) #[.agg #[.slice A n cc,.int .i64 least,.int .i64 factor,.func (.func T) #[] #[]]] #[]] 293)).alloc (.cells #[(.func (.func 236) #[] #[.pointer (some ⟨w.heap.size+1,0,none⟩),.pointer (some ⟨w.heap.size+1+1+1+1+1,0,none⟩),.pointer (some ⟨w.heap.size+1+1+1+1,0,none⟩),.pointer (some ⟨w.heap.size,0,none⟩),.pointer (some ⟨w.heap.size+1+1+1+1+1+1,0,none⟩)])] 310)):=fun P h=>by rw[← hV] at h;exact h
 refine hfold _ ?_;clear hfold hV;have hev:CEnv Q tt (lkA A n cc least factor T) w V:=⟨hbe.trans (hbv.mono hbe.size),⟨b1.below hbv b1.lt,c5,b4.below hbv b4.lt,b0.below hbv b0.lt,c6⟩,[],b3.below hbv,⟨fun p hp=>by simp at hp,fun i j k a b hi=>by simp at hi,fun j k v hj=>by simp at hj⟩⟩;have hub:=b2.below hbv b2.lt;have HV:=hid hev;have HU:=hid hub;clear b0 b1 b2 b3 b4 c5 c6 hbe hbv hsz l0 l1 l2 l3 hev hub;have l0:=HV.out.env.blk.cell 0;have l1:=HV.out.env.blk.cell 1;have l2:=HV.out.env.blk.cell 2;have l3:=HV.out.env.blk.cell 3;simp[lkA] at l0 l1 l2 l3;obtain⟨g0,o0,hc1,hg0⟩:=(HC.out.be HV.out.be).col1 hn1
 go_wp2_with fail
 go_at_call 239;refine(beds_c hc1 hn1).mono ?_;rintro e w1 ⟨rfl,hb9⟩;have HV1:=hid (HV.out.below hb9);have HU1:=hid (HU.out.below hb9 HU.out.lt);have hsv1:=Nat.le_trans (Nat.le_of_eq hsv.symm) hb9.size;clear HV HU hb9 l0 l1 l2 l3 hc1 hsv;have HV:=HV1;have HU:=HU1;clear HV1 HU1;have l0:=HV.out.env.brs.cell 0;simp at l0;obtain⟨R,hR⟩:∃ R,R=sumS Q (tt - ff) ff:=⟨_,rfl⟩
 have hRb:-30000000000≤R∧R≤30000000000:=by rw[hR];exact sum_bd9 HQ.out (by omega) _
 have hRM:R<1000000000000000:=by omega
 have hcall:=HREST.out ff hft w1 HV.out;simp only[restA,← hR] at hcall;have HCALL:=hid hcall;have HRR:=hid hR;clear hcall hR
 go_wp2_with fail
 refine wp_loop_rounds 2 ?_;rw[rounds_succ]
 go_wp2_with fail
 go_at_call 236;refine HCALL.out.mono ?_;rintro e w2 ⟨rfl,hev2,hfr2⟩;have HV2:=hid hev2;have HU2:=hid (hfr2.blk HU.out (by omega));have hsv2:=Nat.le_trans hsv1 hfr2.size;clear HV HU hev2 hfr2 l0 hsv1 HCALL;have HV:=HV2;have HU:=HU2;clear HV2 HU2
 go_wp2_with fail
 rw[rounds_succ]
 go_upto_region 14 with fail
 have hrow:=Blk.new w2 3 #[.int .i64 0];have hal:=(Below.refl w2.heap.size w2).alloc (Nat.le_refl _) (.cells #[.int .i64 0] 3);have hu1:=HU.out.alloc (.cells #[.int .i64 0] 3);have u0:=hu1.cell 0;have u1:=hu1.cell 1;have f0:=hu1.frozen 0;have f1:=hu1.frozen 1;simp at u0 u1
 go_upto_region 15 with fail
 have hu2:=(hu1.set_ 0 (.int .i64 (ff:Int))).set_ 1 (.slice (some ⟨w2.heap.size,0,none⟩) 1 1)
 have hfr:Fr (fun g=>g=w.heap.size+1+1) (w2.alloc (.cells #[.int .i64 0] 3)) (((w2.alloc (.cells #[.int .i64 0] 3)).setCell ⟨w.heap.size+1+1,0,none⟩ (.int .i64 (ff:Int))).setCell ⟨w.heap.size+1+1,1,none⟩ (.slice (some ⟨w2.heap.size,0,none⟩) 1 1)) :=
  Fr.setAt (E:=fun g=>g=w.heap.size+1+1) (p:=⟨w.heap.size+1+1,1,none⟩) (Fr.setAt (E:=fun g=>g=w.heap.size+1+1) (p:=⟨w.heap.size+1+1,0,none⟩) (Fr.refl _ _) (.inl rfl) _) (.inl rfl) _
 have hev:=(HV.out.below hal).fr hfr fun g hg=>.inr (by omega);obtain⟨Y,hY⟩:∃ Y:World,(((w2.alloc (.cells #[.int .i64 0] 3)).setCell ⟨w.heap.size+1+1,0,none⟩ (.int .i64 (ff:Int))).setCell ⟨w.heap.size+1+1,1,none⟩ (.slice (some ⟨w2.heap.size,0,none⟩) 1 1))=Y:=⟨_,rfl⟩
 have hrow2:Blk Y w2.heap.size 3 #[.int .i64 0]:=by rw[← hY];exact hfr.blk hrow (by omega)
 have hsy:w.heap.size+1+1+1+1+1+1+1≤Y.heap.size:=by rw[← hY];simp;omega
 simp at hu2;rw[hY] at hev hu2 ⊢;clear hY hfr hrow hal hu1 u0 u1 f0 f1 HU;have HEV:=hid hev;have HU:=hid hu2;have HROW:=hid hrow2;clear hev hu2 hrow2
 go_upto_region 16 with fail
 refine(wpIn_wide (n:=8)).1 ?_;refine(fun(H:∀(d:Nat) (a:Act) (U:World),LI A n cc least factor T Q ff tt R w d a U→Code.roundsIn Fence.wide 8 Tryz.prog _ _ (d+1) a U)=>wpIn_loop_rounds (tt - ff+1) (H (tt - ff) _ _ ?inv)) ?H
 case inv =>
  -- [Z
  have hal:=(Below.refl Y.heap.size Y).alloc (Nat.le_refl _) (.cells #[.int .i64 (ff:Int),.int .i64 0] 312);refine⟨ff,Y.heap.size,w2.heap.size,1,1,[0],[],by omega,⟨HEV.out.below hal,HU.out.below hal HU.out.lt,Blk.new _ _ _,?_,hsy,⟨by omega,by have:=HROW.out.lt;simp;omega⟩,by simp,List.nodup_nil⟩,by omega,rfl,by simp;omega,_,_,_,_,_,_,_,_,_,_,_,_,_,_,_,_,_,_,_,_,_,_,_,_,_,_,_,_,_,_,_,_,_,_,_,_,_,_,_,_,_,_,_,_,_,_,_,_,_,_,_,_,_,_,_,_,_,_,_,_,_,_,_,_,_,_,_,_,_,_,_,_,rfl⟩;exact⟨rfl,.inr ⟨w2.heap.size,1,#[.int .i64 0],rfl,by omega,HROW.out.below hal HROW.out.lt,Nat.le_refl _,by unfold maxLen;omega,rfl,rfl⟩⟩
  -- Z]
 case H =>
  clear HEV HU HROW hsy HV hsv2;intro d
  induction d with
  | zero =>
   -- [Z
   intro a U hI;obtain⟨c,AT,S,m,k,ls,ds,hcd,hcs,hm,hls,hus,u4,u11,u12,u13,u15,u16,u17,u18,u19,u20,u21,u22,u23,u24,u25,u26,u27,u28,u29,u30,u31,u32,u33,u34,u35,u36,u37,u38,u39,u40,u41,u42,u43,u44,u45,u46,u47,u48,u49,u50,u51,u52,u53,u54,u55,u56,u57,u58,u59,u60,u61,u62,u63,u64,u65,u66,u67,u68,u69,u70,u71,u72,u73,u74,u75,u76,u77,u78,u79,u80,u81,u82,rfl⟩:=hI
   obtain rfl:c=tt:=by omega
   rw[roundsIn_succ];have t0:=hcs.ev.env.bto.cell 0;have a0:=hcs.at_.cell 0;have x0:=hcs.ub.cell 0;have x1:=hcs.ub.cell 1;have f0:=hcs.ub.frozen 0;have f1:=hcs.ub.frozen 1;simp at t0 a0 x0 x1;have HCS:=hid hcs;clear hcs
   gi_wp2
   go_wp2_with fail
   have hx:=(HCS.out.ub.set_ 0 (.int .i64 (ff:Int))).set_ 1 (.slice (some ⟨S,0,none⟩) m k)
   have hf2:Fr (fun g=>g=w.heap.size+1+1) U ((U.setCell ⟨w.heap.size+1+1,0,none⟩ (.int .i64 (ff:Int))).setCell ⟨w.heap.size+1+1,1,none⟩ (.slice (some ⟨S,0,none⟩) m k)) :=
    Fr.setAt (E:=fun g=>g=w.heap.size+1+1) (p:=⟨w.heap.size+1+1,1,none⟩) (Fr.setAt (E:=fun g=>g=w.heap.size+1+1) (p:=⟨w.heap.size+1+1,0,none⟩) (Fr.refl _ _) (.inl rfl) _) (.inl rfl) _
   refine leaves_marks ds _ (fun D hD=>(hf2.block D (HCS.out.mks D hD).1.lt (by have:=(HCS.out.mks D hD).2;omega)).trans (HCS.out.mks D hD).1) HCS.out.nd fun U' hf=>?_;have hx2:=hf.blk hx (fun hD=>by have:=(HCS.out.mks _ hD).2;omega);have y0:=hx2.cell 0;have y1:=hx2.cell 1;simp at y0 y1;refine⟨.tuple #[.agg #[.int .i64 (ff:Int),.slice (some ⟨S,0,none⟩) m k],.int .i64 R],?_,_,_,_,_,by rw[HRR.out],?_⟩
   · simp[results,Tryz.f213,go_sem,y0,y1]
   · have h1:=HCS.out.ev.be
     have h2:Fr (fun g=>g=w.heap.size+1+1∨g∈ds) U U':=(hf2.wide fun g _ hg=>.inl hg).comp hf fun g hg=>.inl (.inr hg);refine h1.trans (h2.below h1.size fun g hg=>?_)
     rcases hg with hg | hg
     · omega
     · have:=(HCS.out.mks g hg).2;omega
   -- Z]
  | succ d ih =>
   intro a U hI;obtain⟨c,AT,S,m,k,ls,ds,hcd,hcs,hm,hls,hus,u4,u11,u12,u13,u15,u16,u17,u18,u19,u20,u21,u22,u23,u24,u25,u26,u27,u28,u29,u30,u31,u32,u33,u34,u35,u36,u37,u38,u39,u40,u41,u42,u43,u44,u45,u46,u47,u48,u49,u50,u51,u52,u53,u54,u55,u56,u57,u58,u59,u60,u61,u62,u63,u64,u65,u66,u67,u68,u69,u70,u71,u72,u73,u74,u75,u76,u77,u78,u79,u80,u81,u82,rfl⟩:=hI
   have hct:c<tt:=by omega
   refine rounds_step fun KK hKK=>?_;have HKK:=hid (fun a U (h:LI A n cc least factor T Q ff tt R w d a U)=>hKK a U (ih a U h));clear hKK ih;have t0:=hcs.ev.env.bto.cell 0;have a0:=hcs.at_.cell 0;have a1:=hcs.at_.cell 1;simp at t0 a0 a1;have hw1:IntKind.i64.wrap ((c:Int)+1)=(c:Int)+1:=wi (by omega);have HCS:=hid hcs;clear hcs;refine wpIn_wide.2 ?_
   go_upto_region 18 with fail
   have hal:=(Below.refl U.heap.size U).alloc (Nat.le_refl _) (.cells #[.int .i64 ((c:Int)+1),.int .i64 0] 312);have hbest:=Blk.new U 312 #[.int .i64 ((c:Int)+1),.int .i64 0];have hcs1:=HCS.out.below hal
   have hs1:(U.alloc (.cells #[.int .i64 ((c:Int)+1),.int .i64 0] 312)).heap.size=U.heap.size+1:=by simp
   have hgU:AT<U.heap.size∧S<U.heap.size∧∀ D∈ds,D<U.heap.size:=⟨HCS.out.at_.lt,HCS.out.hS.2,fun D hD=>(HCS.out.mks D hD).1.lt⟩;have HGU:=hid hgU;clear HCS hal t0 a0 a1 hgU;have HCS:=hid hcs1;have HBS:=hid hbest;have HS1:=hid hs1;clear hcs1 hbest hs1;revert HCS HBS HS1;generalize (U.alloc (.cells #[.int .i64 ((c:Int)+1),.int .i64 0] 312))=V1;intro HCS HBS HS1;have l0:=HCS.out.ev.env.blk.cell 0;have l1:=HCS.out.ev.env.blk.cell 1;have l2:=HCS.out.ev.env.blk.cell 2;have l3:=HCS.out.ev.env.blk.cell 3;have a1:=HCS.out.at_.cell 1;simp[lkA] at l0 l1 l2 l3 a1
   go_wp2_with fail
   go_at_call 237;refine(next_c A n cc least factor 0 T _).mono ?_;rintro e V2 ⟨rfl,rfl⟩
   go_wp2_with fail
   clear l0 l1 l2 l3 a1;refine(wpIn_wide (n:=8)).1 ?_;obtain⟨V3,hV3⟩:∃ V3:World,((V1.alloc (.cells (lkA A n cc least factor T) 253)).alloc (.cells #[.int .i64 0] 3))=V3:=⟨_,rfl⟩;have b2:=(Blk.new V1 253 (lkA A n cc least factor T)).alloc (.cells #[.int .i64 0] 3);have b3:=Blk.new (V1.alloc (.cells (lkA A n cc least factor T) 253)) 3 #[.int .i64 0];simp only[World.size_alloc] at b3
   have hb3:Below V1.heap.size V1 V3:=by rw[← hV3];exact((Below.refl _ V1).alloc (Nat.le_refl _) _).alloc (by simp) _
   have hs3:V1.heap.size+2≤V3.heap.size:=by rw[← hV3];simp
   have hcs3:=HCS.out.below hb3;have hbs3:=HBS.out.below hb3 HBS.out.lt;rw[hV3] at b2 b3 ⊢;have hs1:U.heap.size+1≤V1.heap.size∧V1.heap.size≤U.heap.size+1:=⟨Nat.le_of_eq HS1.out.symm,Nat.le_of_eq HS1.out⟩;have hgu:=HGU.out;clear hV3 HCS HBS HS1 HGU hb3;obtain⟨g1,o1,hc3,hg1⟩:=(HC.out.be hcs3.ev.be).col1 hn1
   have hcast:((c+1:Nat):Int)=(c:Int)+1:=by omega
   obtain⟨R2,hR2⟩:∃ R2,R2=sumS Q (tt - (c+1)) (c+1):=⟨_,rfl⟩
   have hrc:∀ X:World,CEnv Q tt (lkA A n cc least factor T) w X→Calls Tryz.prog 236 #[.agg #[.int .i64 ((c:Int)+1),.int .i64 0],.pointer (some ⟨w.heap.size+1,0,none⟩),.pointer (some ⟨w.heap.size+1+1+1+1+1,0,none⟩),.pointer (some ⟨w.heap.size+1+1+1+1,0,none⟩),.pointer (some ⟨w.heap.size,0,none⟩),.pointer (some ⟨w.heap.size+1+1+1+1+1+1,0,none⟩)] X fun e U'=>e=.returned (.int .i64 R2)∧CEnv Q tt (lkA A n cc least factor T) w U'∧Fr (fun g=>g=w.heap.size+1+1+1) X U':=fun X hX=>by
    have h:=HREST.out (c+1) (by omega) X hX;simp only[restA,hcast,← hR2] at h;exact h
   have HRC:=hid hrc;clear hrc hR2 hcast HREST
   have hlt2:decide (R2<R2)=false:=by simp
   refine wpIn_rangeFunc_ownH rfl (by omega) (gf:=246) (lb:=#[.pointer (some ⟨V1.heap.size+1,0,none⟩),.pointer (some ⟨V1.heap.size,0,none⟩)]) rfl trivial (enters_of Tryz.func246 (by kernel_rfl) rfl)
    (next_stops 7 (by omega) w.heap.size (w.heap.size+1+1+1) (V1.heap.size+1) V1.heap.size b3 b2 hc3 hn1 ⟨by omega,by omega⟩ ⟨by omega,by omega⟩) kpN_t (kpN_b (by omega) (by omega) (by omega)) (Below.refl _ _) (fun _=>rfl)
    (fun(pre:List Unit) X=>CS Q tt (lkA A n cc least factor T) ff w c AT S m k ls ds X∧Blk X U.heap.size 312 #[.int .i64 ((c:Int)+1),.int .i64 0])
    (fun _ _ _=>False)
    (fun pre X Y row hs hg hr=>by
     have hge:∀ g,row=some g→V3.heap.size≤g:=fun g e=>(hr g e).1;have hf:=Fr.of_grown hg (E:=fun g=>row=some g) fun g e _=>e;refine⟨hs.1.fr hf (hs.1.ev.fr hf fun g e=>by have:=hge g e;omega) fun g e=>?_,hf.blk hs.2 fun e=>by have:=hge _ e;omega⟩;have h1:=hge g e;have h2:=hgu
     exact⟨by omega,by omega,by omega,fun hD=>by have:=h2.2.2 g hD;omega⟩)
    (fun _ _ _ _ _ hs _ _=>hs)
    ⟨hcs3,hbs3⟩
    (fun _ a' _=>a'={ tmps:=#[.agg #[.slice A n cc,.int .i64 least,.int .i64 factor,.func (.func T) #[] #[]],.int .i64 (ff:Int),.int .i64 (tt:Int),.pointer (some ⟨w.heap.size,0,none⟩),u4,.pointer (some ⟨w.heap.size+1,0,none⟩),.pointer (some ⟨w.heap.size+1+1,0,none⟩),.int .i64 R,.pointer (some ⟨w.heap.size+1+1+1+1,0,none⟩),.pointer (some ⟨w.heap.size+1+1+1+1+1,0,none⟩),.pointer (some ⟨w.heap.size+1+1+1+1+1+1,0,none⟩),u11,u12,u13,.pointer (some ⟨AT,0,none⟩),.pointer (some ⟨U.heap.size,0,none⟩),.int .i64 0,u17,u18,u19,u20,u21,u22,u23,u24,u25,u26,u27,u28,u29,u30,u31,u32,u33,u34,u35,u36,u37,u38,u39,u40,u41,u42,u43,.pointer (some ⟨AT,0,none⟩),.int .i64 (c:Int),.int .i64 (tt:Int),.bool true,.pointer (some ⟨AT,0,none⟩),.int .i64 (c:Int),.int .i64 ((c:Int)+1),.pointer (some ⟨AT,1,none⟩),.int .i64 0,.agg #[.int .i64 ((c:Int)+1),.int .i64 0],.agg #[.slice A n cc,.int .i64 least,.int .i64 factor,.func (.func T) #[] #[]],.pointer (some ⟨AT,1,none⟩),.int .i64 0,.func (.func 246) #[] #[.pointer (some ⟨V1.heap.size+1,0,none⟩),.pointer (some ⟨V1.heap.size,0,none⟩)],.int .i64 0,u59,u60,u61,u62,u63,u64,u65,u66,u67,u68,u69,u70,u71,u72,u73,u74,u75,u76,u77,u78,u79,u80,u81,u82],defers:=[] })
    (fun _ _ _ _ _ _ hs _ _=>hs)
    ?assign ?body ?done ?stop
   case assign =>
    rintro l pre x X K hI hK;dsimp only[encU]
    gi_wp2
    exact hK _ _ ((KeepsOthers.refl _).from _) (Fr.refl _ _) hI rfl
   case stop =>
    rintro D c pre W _ _ h _;exact h.elim
   case body =>
    rintro l pre x a' X hl ⟨r,hr⟩ hI rfl hlen;have HI:=hid hI;have HK:=hid (Fr.refl (fun g=>g=w.heap.size+1+1+1) X);clear hI hlen b2 b3 hcs3 hbs3 hc3 hg1
    gi_wp2_with fail
    refine wpIn_region_till_round [] (fun V=>V.cell? ⟨w.heap.size+1+1+1+1+1+1,0,none⟩=some (.func (.func 236) #[] #[.pointer (some ⟨w.heap.size+1,0,none⟩),.pointer (some ⟨w.heap.size+1+1+1+1+1,0,none⟩),.pointer (some ⟨w.heap.size+1+1+1+1,0,none⟩),.pointer (some ⟨w.heap.size,0,none⟩),.pointer (some ⟨w.heap.size+1+1+1+1+1+1,0,none⟩)])∧V.cell? ⟨AT,0,none⟩=some (.int .i64 (c:Int))∧V.cell? ⟨U.heap.size,0,none⟩=some (.int .i64 ((c:Int)+1))∧V.cell? ⟨U.heap.size,1,none⟩=some (.int .i64 0)) (by kernel_rfl) (by kernel_rfl) (by have hd0:=(Below.refl X.heap.size X).drew;have hd1:=HI.out.1.below hd0;have hd2:=HI.out.2.below hd0 HI.out.2.lt;exact⟨by simpa using hd1.ev.env.brs.cell 0,by simpa using hd1.at_.cell 0,by simpa using hd2.cell 0,by simpa using hd2.cell 1⟩) (fun hHeld=>?_);have hb9:=(Below.refl X.heap.size X).drew;replace HI:=hid (And.intro (HI.out.1.below hb9) (HI.out.2.below hb9 HI.out.2.lt));replace HK:=hid (HK.out.trans (Fr.of_below hb9 _));clear hb9;revert hHeld HI HK;generalize X.drew=w0;intro hHeld HI HK;refine tk 0 0 ?_;refine tk 0 1 ?_;refine tk 0 2 ?_;refine tk 0 3 ?_;refine tk 0 4 ?_;refine tk 0 5 ?_;refine tk 0 7 ?_;refine tk 0 8 ?_;refine ar [6] (ac (fun K hK=>?_) an);go_simp;go_at_call 236;refine(HRC.out _ HI.out.1.ev).mono ?_;rintro e w3 ⟨rfl,hev9,hfr9⟩;have hI2:=And.intro (HI.out.1.call hev9 hfr9) (hfr9.blk HI.out.2 (by have:=HI.out.1.hAT;omega));have hK2:=HK.out.comp hfr9 (fun g hg=>.inl hg);clear HI HK hev9 hfr9;have HI:=hid hI2;have HK:=hid hK2;clear hI2 hK2
    (try go_wp2_with fail);(try clear hHeld);refine hK.out _ _ (by(try dsimp only);exact⟨by simpa using HI.out.1.ev.env.brs.cell 0,by simpa using HI.out.1.at_.cell 0,by simpa using HI.out.2.cell 0,by simpa using HI.out.2.cell 1⟩) (fun hHeld=>?_);clear hK K;refine pt ?_;refine ar [9] (ac (fun K hK=>?_) an);go_simp;go_at_call 236;refine(HRC.out _ HI.out.1.ev).mono ?_;rintro e w4 ⟨rfl,hev9,hfr9⟩;have hI2:=And.intro (HI.out.1.call hev9 hfr9) (hfr9.blk HI.out.2 (by have:=HI.out.1.hAT;omega));have hK2:=HK.out.comp hfr9 (fun g hg=>.inl hg);clear HI HK hev9 hfr9;have HI:=hid hI2;have HK:=hid hK2;clear hI2 hK2;(try go_wp2_with fail);(try clear hHeld);refine hK.out _ _ (by(try dsimp only);exact⟨by simpa using HI.out.1.ev.env.brs.cell 0,by simpa using HI.out.1.at_.cell 0,by simpa using HI.out.2.cell 0,by simpa using HI.out.2.cell 1⟩) (fun hHeld=>?_);clear hK K;refine pt ?_;refine tk 0 10 ?_;refine td ?_;dsimp only[OnlyN]
    gi_wp2
    exact⟨HK.out.keeps fun g o hE hB _=>by omega,HK.out.wide fun g _ hE=>.inl hE,HI.out⟩
   case done =>
    rintro D ys X hD hys ⟨hcs,hbs⟩ hDef;have HI:=hid (And.intro hcs hbs);have HD:=hid (show DefAt D X from hDef);clear hcs hbs hDef hys b2 b3 hcs3 hbs3 hc3 hg1 HRC hlt2;obtain⟨i0,hi0,hz0,hz1,hz2⟩:=info_parts infoInt;have HIN:=hid hi0;have HZ0:=hid hz0;have HZ1:=hid hz1;have HZ2:=hid hz2;clear hi0 hz0 hz1 hz2
    have hDU:U.heap.size<D:=by omega
    gi_wp2_with fail
    refine(wpIn_wide (n:=8)).1 ?_;refine wpIn_region_till_wide [9] (fun V=>V.cell? ⟨U.heap.size,0,none⟩=some (.int .i64 ((c:Int)+1))∧V.cell? ⟨U.heap.size,1,none⟩=some (.int .i64 0)) (by kernel_rfl) (by have hd0:=(Below.refl X.heap.size X).drew;have hd2:=HI.out.2.below hd0 HI.out.2.lt;exact⟨by simpa using hd2.cell 0,by simpa using hd2.cell 1⟩) (fun hHeld=>?_);have hb9:=(Below.refl X.heap.size X).drew;replace HI:=hid (And.intro (HI.out.1.below hb9) (HI.out.2.below hb9 HI.out.2.lt));replace HD:=hid (HD.out.below hb9);clear hb9;revert hHeld HI HD;generalize X.drew=w0;intro hHeld HI HD;refine tk 0 0 ?_;refine tk 0 2 ?_;refine tk 0 3 ?_;refine tk 0 6 ?_
    focus
     refine ar [1,4] (ac (fun K hK=>?_) (ac (fun K hK=>?_) an));have x1:=HI.out.1.ub.cell 1;simp at x1;go_simp;(try clear hHeld);refine hK.out _ _ (by(try dsimp only);first | exact⟨by simpa using HI.out.2.cell 0,by simpa using HI.out.2.cell 1⟩ | exact⟨by simpa using HBS.out.cell 0,by simpa using HBS.out.cell 1⟩) (fun hHeld=>?_);clear hK K;refine pt ?_;clear x1;refine ar [4] (ac (fun K hK=>?_) an);go_simp;have hal:=(Below.refl w0.heap.size w0).alloc (Nat.le_refl _) (.cells #[.int .i64 0] 3);have hn:=Blk.new w0 3 #[.int .i64 0];replace HI:=hid (And.intro (HI.out.1.below hal) (HI.out.2.below hal HI.out.2.lt));replace HD:=hid (HD.out.below hal);have HA:=hid hn;clear hal hn;(try clear hHeld);refine hK.out _ _ (by(try dsimp only);first | exact⟨by simpa using HI.out.2.cell 0,by simpa using HI.out.2.cell 1⟩ | exact⟨by simpa using HBS.out.cell 0,by simpa using HBS.out.cell 1⟩) (fun hHeld=>?_);clear hK K;refine pt ?_;revert hHeld HI HD HA;generalize hgA:w0.heap.size=gA;generalize (World.alloc w0 (.cells #[.int .i64 0] 3))=w0;intro HI HD HA hHeld;clear hgA;rotate_left;go_simp;have hal:=(Below.refl w0.heap.size w0).alloc (Nat.le_refl _) (.cells #[.int .i64 0] 3);have hn:=Blk.new w0 3 #[.int .i64 0];replace HI:=hid (And.intro (HI.out.1.below hal) (HI.out.2.below hal HI.out.2.lt));replace HD:=hid (HD.out.below hal);have HA:=hid hn;clear hal hn;(try clear hHeld)
     refine hK.out _ _ (by(try dsimp only);first | exact⟨by simpa using HI.out.2.cell 0,by simpa using HI.out.2.cell 1⟩ | exact⟨by simpa using HBS.out.cell 0,by simpa using HBS.out.cell 1⟩) (fun hHeld=>?_);clear hK K;refine pt ?_;revert hHeld HI HD HA;generalize hgA:w0.heap.size=gA;generalize (World.alloc w0 (.cells #[.int .i64 0] 3))=w0;intro HI HD HA hHeld;clear hgA;refine ar [1] (ac (fun K hK=>?_) an);have x1:=HI.out.1.ub.cell 1;simp at x1;go_simp;(try clear hHeld);refine hK.out _ _ (by(try dsimp only);first | exact⟨by simpa using HI.out.2.cell 0,by simpa using HI.out.2.cell 1⟩ | exact⟨by simpa using HBS.out.cell 0,by simpa using HBS.out.cell 1⟩) (fun hHeld=>?_);clear hK K;refine pt ?_;clear x1;rotate_left
     all_goals
      refine ar [5] (ac (fun K hK=>?_) an);refine step_append_rd rfl _ _ 28 rfl (w.heap.size+1+1+1+1+1+1+1) 3 i0 (.int .i64 0) 1 8 Tryz.underlying28 HIN.out HZ0.out HZ1.out HZ2.out rfl (by decide) _ m (ls.flatMap enc1) rfl HI.out.1.own enc1_len oneInt _ 1 1 [0] rfl (Rd.of_blkE enc1_len HA.out rfl rfl) (by unfold maxLen;omega) (by omega) (by have:=HI.out.1.hS;omega) ?_;intro v2 w3 hown hgrow;obtain⟨S2,k2,rfl,hb2,hlt2,_⟩:=own_some hown (by omega);have hcs:=HI.out.1;have hgrow2:w0.grownBy w3 (some S):=hgrow
      have hf:Fr (fun g=>g=S) w0 w3:=Fr.of_grown hgrow2 (E:=fun g=>g=S) fun g e _=>by cases e;rfl
      have hS:=hcs.hS;have hatS:AT≠S:=fun e=>own_blk_ne hcs.own hcs.at_ (by decide) (by simp[Value.ownBlock,e]);have hbsS:U.heap.size≠S:=fun e=>own_blk_ne hcs.own HI.out.2 (by decide) (by simp[Value.ownBlock,e]);obtain⟨cur,hcur⟩:=own_ty hcs.own (g:=S) (by simp[Value.ownBlock])
      have hne:∀ E,DefAt E w0→E≠S:=fun E hE e=>by subst e;rw[show w0.heap[E]?=_ from hE] at hcur;cases hcur
      have HEV:=hid (hcs.ev.fr hf fun g hg=>.inl (by omega));have HUB:=hid (hf.blk hcs.ub (by omega));have HAT:=hid (hf.blk hcs.at_ hatS);have HBS:=hid (hf.blk HI.out.2 hbsS);have HMK:=hid (fun E (hE:E∈ds)=>(hf.block E (hcs.mks E hE).1.lt (hne E (hcs.mks E hE).1)).trans (hcs.mks E hE).1);have HMK2:=hid (fun E (hE:E∈ds)=>(hcs.mks E hE).2);have hd9:DefAt D w3:=(hf.block D HD.out.lt (hne D HD.out)).trans HD.out;have HOW:=hid hown;have HND:=hid hcs.nd;have HHA:=hid hcs.hAT;have HS2:=hid (And.intro hb2 hlt2);clear HI HD HA hown hgrow hgrow2 hf hS hatS hbsS hcur hne hcs hb2 hlt2;have HD:=hid hd9;clear hd9;(try clear hHeld);refine hK.out _ _ (by(try dsimp only);first | exact⟨by simpa using HI.out.2.cell 0,by simpa using HI.out.2.cell 1⟩ | exact⟨by simpa using HBS.out.cell 0,by simpa using HBS.out.cell 1⟩) (fun hHeld=>?_);clear hK K;refine pt ?_;refine tk 0 7 ?_;refine ar [8] (ac (fun K hK=>?_) an);have x1:=HUB.out.cell 1;have f1:=HUB.out.frozen 1;simp at x1;go_simp;have hf8:Fr (fun g=>g=w.heap.size+1+1) w3 (w3.setCell ⟨w.heap.size+1+1,1,none⟩ (.slice (some ⟨S2,0,none⟩) (m+1) k2)):=Fr.setAt (E:=fun g=>g=w.heap.size+1+1) (p:=⟨w.heap.size+1+1,1,none⟩) (Fr.refl _ _) (.inl rfl) _;have hx8:=HUB.out.set_ 1 (.slice (some ⟨S2,0,none⟩) (m+1) k2);have h1:=HEV.out.fr hf8 (fun g hg=>.inr (by omega));have h2:=hf8.blk HAT.out (by have:=HHA.out;omega);have h3:=hf8.blk HBS.out (by omega);have h4:=hf8.row HOW.out (fun g hg e=>by have:=(HOW.out.lt g hg).1;omega)
      have h5:=fun E hE=>(hf8.block E (HMK.out E hE |> fun h=>(DefAt.lt h)) (by have:=HMK2.out E hE;omega)).trans (HMK.out E hE);have h6:DefAt D _:=(hf8.block D HD.out.lt (by omega)).trans HD.out;have h7:S2<(w3.setCell ⟨w.heap.size+1+1,1,none⟩ (.slice (some ⟨S2,0,none⟩) (m+1) k2)).heap.size:=Nat.lt_of_lt_of_le HS2.out.2 hf8.size;simp at hx8;clear HEV HUB HAT HBS HOW HMK HD x1 f1 hf8;have HEV:=hid h1;have HUB:=hid hx8;have HAT:=hid h2;have HBS:=hid h3;have HOW:=hid h4;have HMK:=hid h5;have HD:=hid h6;have HS3:=hid (And.intro HS2.out.1 h7);clear h1 h2 h3 h4 h5 h6 h7 hx8 HS2;revert HEV HUB HAT HBS HOW HMK HD HS3;generalize (World.setCell w3 ⟨w.heap.size+1+1,1,none⟩ (.slice (some ⟨S2,0,none⟩) (m+1) k2))=w5;intro HEV HUB HAT HBS HOW HMK HD HS3;(try clear hHeld);refine hK.out _ _ (by(try dsimp only);first | exact⟨by simpa using HI.out.2.cell 0,by simpa using HI.out.2.cell 1⟩ | exact⟨by simpa using HBS.out.cell 0,by simpa using HBS.out.cell 1⟩) (fun hHeld=>?_);clear hK K;refine pt ?_;refine ar [9] (al (fun K hK=>?_) an);have a0:=HAT.out.cell 0;have a1:=HAT.out.cell 1;have f0:=HAT.out.frozen 0;have f1:=HAT.out.frozen 1;simp at a0 a1;go_simp;(try clear hHeld);refine hK.out _ _ ?_;clear hK K;refine pt ?_;refine td ?_;dsimp only[OnlyN];have hf9:Fr (fun g=>g=AT) w5 ((w5.setCell ⟨AT,0,none⟩ (.int .i64 ((c:Int)+1))).setCell ⟨AT,1,none⟩ (.int .i64 0)):=Fr.setAt (E:=fun g=>g=AT) (p:=⟨AT,1,none⟩) (Fr.setAt (E:=fun g=>g=AT) (p:=⟨AT,0,none⟩) (Fr.refl _ _) (.inl rfl) _) (.inl rfl) _
      have hx9:=(HAT.out.set_ 0 (.int .i64 ((c:Int)+1))).set_ 1 (.int .i64 0);have hA:=HHA.out
      have hneA:∀ E,DefAt E w5→E≠AT:=fun E hE e=>by subst e;have h9:w5.heap[E]?=_:=hE;rw[show w5.heap[E]?=_ from HAT.out] at h9;cases h9
      have h1:=HEV.out.fr hf9 (fun g hg=>.inl (by omega));have h2:=hf9.blk HUB.out (by omega);have h4:=hf9.row HOW.out (fun g hg e=>own_blk_ne HOW.out HAT.out (by decide) (by rw[hg,e]));have h5:=fun E hE=>(hf9.block E (DefAt.lt (HMK.out E hE)) (hneA E (HMK.out E hE))).trans (HMK.out E hE);have h6:DefAt D _:=(hf9.block D HD.out.lt (hneA D HD.out)).trans HD.out;have h7:=Nat.lt_of_lt_of_le HS3.out.2 hf9.size;have h8:=Nat.lt_of_lt_of_le HD.out.lt hf9.size;simp at hx9;clear HEV HUB HAT HBS HOW HMK HD a0 a1 f0 f1 hf9 hneA;have HEV:=hid h1;have HUB:=hid h2;have HAT:=hid hx9;have HOW:=hid h4;have HMK:=hid h5;have HD:=hid h6;have HS4:=hid h7;have HS5:=hid h8;clear h1 h2 hx9 h4 h5 h6 h7 h8;revert HEV HUB HAT HOW HMK HD HS4 HS5;generalize ((w5.setCell ⟨AT,0,none⟩ (.int .i64 ((c:Int)+1))).setCell ⟨AT,1,none⟩ (.int .i64 0))=w6;intro HEV HUB HAT HOW HMK HD HS4 HS5;have a0:=HAT.out.cell 0;have a1:=HAT.out.cell 1;simp at a0 a1
      go_wp2_with fail
      have hal:=(Below.refl w6.heap.size w6).alloc (Nat.le_refl _) (.cells #[.int .i64 ((c:Int)+1),.int .i64 0] 312)
      have hcast:((c+1:Nat):Int)=(c:Int)+1:=by omega
      have hbt:Blk (w6.alloc (.cells #[.int .i64 ((c:Int)+1),.int .i64 0] 312)) w6.heap.size 312 #[.int .i64 ((c+1:Nat):Int),.int .i64 0]:=by rw[hcast];exact Blk.new _ _ _
      refine HKK.out _ _ ⟨c+1,w6.heap.size,S2,m+1,k2,ls++[0],D::ds,by omega,⟨HEV.out.below hal,HUB.out.below hal HUB.out.lt,hbt,?_,by have:=HS5.out;omega,⟨HS3.out.1,by have:=HS4.out;simp;omega⟩,?_,?_⟩,by omega,by simp[hls],by have:=HS5.out;simp;omega,_,_,_,_,_,_,_,_,_,_,_,_,_,_,_,_,_,_,_,_,_,_,_,_,_,_,_,_,_,_,_,_,_,_,_,_,_,_,_,_,_,_,_,_,_,_,_,_,_,_,_,_,_,_,_,_,_,_,_,_,_,_,_,_,_,_,_,_,_,_,_,_,rfl⟩
      · rw[List.flatMap_append];exact own_mono HOW.out hal
      · intro E hE
        rcases List.mem_cons.1 hE with rfl | hE
        · exact⟨HD.out.below hal,by omega⟩
        · exact⟨(show DefAt E w6 from HMK.out E hE).below hal,HMK2.out E hE⟩
      · rw[List.nodup_cons]
        exact⟨fun hE=>by have:=hgu.2.2 D hE;omega,HND.out⟩
theorem cheap_c (hft:ff≤tt)(htn:tt<n)(ht9:tt≤12){w:World}(hcw:CW w.heap.size w A n CL)
 (hcost:∀(W:World) (k:Nat),k<n→CW w.heap.size W A n CL→Calls Tryz.prog 235 #[.agg (lkA A n cc least factor T),.int .i64 k,.int .i64 0] W fun e w'=>e=.returned (.int .i64 (Q k))∧Below W.heap.size W w')
 (hQ:∀ j,-1500000000≤Q j∧Q j≤1500000000) :
 Calls Tryz.prog 213 #[.agg (lkA A n cc least factor T),.int .i64 (ff:Int),.int .i64 (tt:Int)] w fun e W'=>∃(z:Int) (S:Option Addr) (m k:Nat),e=.returned (.tuple #[.agg #[.int .i64 z,.slice S m k],.int .i64 (sumS Q (tt - ff) ff)])∧Below w.heap.size w W':=callsIn_wide.1 (cheap_in hft htn ht9 hcw hcost hQ)
end
end Go.Proofs.YtkhcliibilkefaaGreatDoor
