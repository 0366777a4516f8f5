/- CONTRACT of warden.Bears: how much more rain a weather line bears. -/
import Derived.Test.YtlaengnhfjlphaaGreatDoorYKeeps
import Derived.Sort.CutIn
import Derived.Deep.Quiet
import Derived.BigQuiet
set_option linter.unusedVariables false
set_option linter.unusedSimpArgs false
set_option maxRecDepth 100000
set_option maxHeartbeats 8000000
namespace Go.Proofs.YtlaengnhfjlphaaGreatDoor
open Lib (hid)
open Go.RowKit Go.Proofs Go.Shelf
attribute [local go_sem] Oper.semAt_some
theorem count_zip (k:Nat):∀(ix:List Nat) (lv:List Int),lv.length=ix.length→((ix.zip lv).filter (fun x=>decide (x.1 < k))).length=(ix.filter (fun i=>decide (i < k))).length
 | [],[],_=>rfl
 | [],_ :: _,h=>by simp at h
 | _ :: _,[],h=>by simp at h
 | i :: ix,v :: lv,h=>by
  rw[List.zip_cons_cons,List.filter_cons,List.filter_cons];have:=count_zip k ix lv (by simpa using h);dsimp only
  split <;> simp[this]
theorem count_weath {l:List (List UInt8)}{es:List Int}{k:Nat}(hl:es.length=l.length)(hk:k≤l.length):((weathI 0 l es).filter (fun i=>decide (i < k))).length=(weathI 0 (l.take k) (es.take k)).length:=by
 have e:weathI 0 (l.take k++l.drop k) (es.take k++es.drop k)=_:=weathI_app (l.take k) (l.drop k) (es.take k) (es.drop k) 0 (by rw[List.length_take,List.length_take,hl]);rw[List.take_append_drop,List.take_append_drop] at e;rw[e,List.filter_append]
 have h1:(weathI 0 (l.take k) (es.take k)).filter (fun i=>decide (i < k))=weathI 0 (l.take k) (es.take k):=List.filter_eq_self.2 fun i hi=>by
  have:=weathI_ge _ _ _ _ hi;rw[List.length_take] at this;simp;omega
 have h2:(weathI (0+(l.take k).length) (l.drop k) (es.drop k)).filter (fun i=>decide (i < k))=[]:=List.filter_eq_nil_iff.2 fun i hi=>by
  have:=weathI_ge _ _ _ _ hi;rw[List.length_take] at this;simp;omega
 rw[h1,h2,List.append_nil]
def errS (LL:List ByteArray):List Int:=(runP Ga.readOf (-1) 0 begS 0 (linesB LL)).2
def bearsN (LL:List ByteArray)(k:Nat)(p:ByteArray):Int:=bsearchP (keepsP LL k) 1001 0 (1000 - rainP p.data.toList)
theorem errS_len (LL:List ByteArray):(errS LL).length=LL.length:=by unfold errS;rw[runP_len];unfold linesB;rw[List.length_map]
theorem lev_same {LL:List ByteArray}{k:Nat}{p:ByteArray}(hp:LL[k]?=some p)(he:(errS LL)[k]?=some 0){more:Int}(hm:0≤more∧more≤1000 - rainP p.data.toList):(levS LL k more).length=(levS LL (-1) 0).length:=by
 have h:=run_D Ga.readOf (fun m s hb=>stepP_ok hb) (k:Int) more (linesB LL) begS begS 0 (SimD.refl _) begS_ok begS_ok (fun j s hs hj _=>by
  obtain rfl:j=k:=by omega
  rw[linesB_at hp] at hs;cases hs
  exact hm) (fun j hj=>by
  obtain rfl:j=k:=by omega
  exact .inl he)
 exact h.2.levels
theorem rain_bd {LL:List ByteArray}{k:Nat}{p:ByteArray}(hp:LL[k]?=some p)(he:(errS LL)[k]?=some 0)(hW:isW p.data.toList=true):0≤rainP p.data.toList∧rainP p.data.toList≤1000 ∧
 ∃ d:Dy,(runP Ga.readOf (-1) 0 begS 0 (linesB LL)).1.days[(weathI 0 ((linesB LL).take k) ((errS LL).take k)).length]?=some d∧d.hi=rainP p.data.toList:=by
 obtain⟨d,hd,hr⟩:=run_day Ga.readOf (linesB LL) begS 0 0 k _ (linesB_at hp) hW he;have hok:=(runP_okM (-1) 0 (linesB LL) begS 0 begS_ok).day d (List.mem_of_getElem? hd);have h1:=(dayOk_iff.1 hok).1;rw[← hr];exact⟨by omega,by omega,d,by rw[show begS.days.length=0 from rfl,Nat.zero_add] at hd;exact hd,rfl⟩
theorem range_act {F:Fence}{n:Nat}{P:Program}{g:Operand}{ps:Array Tmp}{assign body:Code}{Q:Exit→Act→World→Prop}{a:Act}{w:World}(h:∀ a0:Act,a0=a→(Code.rangeFunc g ps assign body).wpIn F n P Q a0 w):(Code.rangeFunc g ps assign body).wpIn F n P Q a w:=h a rfl
def cntW (k:Nat)(pre:List WxE):Nat:=((wxL pre).filter (fun x=>decide (x.1 < k))).length
theorem Bears_in {A:Option Addr}{n c:Nat}{LL:List ByteArray}{k:Nat}{p:ByteArray}{w:World}(h:Rd encStr 1 w A n LL)(hl:Lay w)(hck:checkL LL=0)(hp:LL[k]?=some p)(he:(errS LL)[k]?=some 0)(hW:isW p.data.toList=true) :
 CallsIn Fence.wide 8 Tryz.prog 22 #[.slice A n c,.int .i64 k] w fun e w'=>e=.returned (.tuple #[.int .i64 (bearsN LL k p),.int .i64 0])∧Below w.heap.size w w':=by
 obtain⟨RES,hRES⟩:∃ RES,RES=bearsN LL k p:=⟨_,rfl⟩;rw[← hRES];have HRE:=hid hRES;clear hRES;obtain⟨hn,hs⟩:=checkL_zero hck;rw[h.len] at hn
 have hkn:k < n:=by rw[← h.len];exact(List.getElem?_eq_some_iff.1 hp).1
 obtain⟨hr0,hr1,dd,hdd,hdh⟩:=rain_bd hp he hW;have hpx:Lib.hasPrefix p.data.toList (⟨#[119,101,97,116,104,101,114,32]⟩:ByteArray).data.toList=true:=isW_pre hW;have HPF:=hid (fun W=>strings_HasPrefix p ⟨#[119,101,97,116,104,101,114,32]⟩ W);rw[hpx] at HPF;have hin:inB (k:Int) 0 ((n:Int) - 1)=true:=inB_iff.2 (by omega);have H:=hid h;have HL:=hid hl;have HS:=hid hs;have HCK:=hid hck;have HP:=hid hp;have HEE:=hid he;have HDD:=hid hdd;have HDH:=hid hdh;have HWW:=hid hW;have hmf:∀(fn:Fn) (first cap:Array Value) (w:World),(Instr.makeFunc fn first cap).run Tryz.prog w=.ok (.func fn first cap) w:=fun _ _ _ _=>rfl;have hb0:=((Below.refl w.heap.size w).alloc (Nat.le_refl _) (.cells #[.slice A n c] 22)).alloc (by simp) (.cells #[.int .i64 (k:Int)] 3);have hbl:=(Boxed.new w 22 (.slice A n c)).alloc (.cells #[.int .i64 (k:Int)] 3);have hbi:=Boxed.new (w.alloc (.cells #[.slice A n c] 22)) 3 (.int .i64 (k:Int))
 have hsz1:((w.alloc (.cells #[.slice A n c] 22)).alloc (.cells #[.int .i64 (k:Int)] 3)).heap.size=w.heap.size+1+1:=by simp
 simp only[World.size_alloc] at hbi;have HC:=hid (chkL_c (c:=c) (H.out.below hb0));have a0:=hbl.cell;have a1:=hbi.cell
 have e1:1≤(8:Nat):=by omega
 clear h hl hck hp he hdd hdh hW hpx hs;refine callsIn_of_wp_marks Tryz.func22 rfl trivial ?_ rfl;simp only[Tryz.ntmps22,List.size_toArray,List.length_cons,List.length_nil,Nat.reduceAdd,Nat.reduceSub,Array.replicate_succ,Array.replicate_zero,List.push_toArray,List.append_toArray,List.nil_append,List.cons_append]
 gi_upto_region 6 with (first | (refine⟨trivial,?_⟩;gi_at_call 24;refine(callsIn_wide.2 HC.out).mono ?_;rintro e w1 ⟨rfl,hb1⟩;rw[HCK.out];have hbl1:=boxed_below hbl hb1;have hbi1:=boxed_below hbi hb1;have d0:=hbl1.cell;have d1:=hbi1.cell) | (refine⟨trivial,?_⟩;gi_at_call 30;refine(callsIn_wide.2 (wwithin_c _ _ _ _)).mono ?_;rintro e w2 ⟨rfl,hb2⟩;rw[hin]))
 have hbw2:=below_tr hb0 (below_tr hb1 hb2);have HR:=hid (wrun_c (c:=c) (line:=-1) (more:=0) (H.out.below hbw2) hn HS.out (HL.out.below hbw2) (by omega));have hbl2:=boxed_below hbl1 hb2;have hbi2:=boxed_below hbi1 hb2;clear a0 a1 d0 d1 hbl hbi hbl1 hbi1 hb0 hb1 hb2 HC hsz1 hin;have d0:=hbl2.cell;have d1:=hbi2.cell;have hw2:=hbw2.size
 gi_upto_region 7 with (refine⟨trivial,?_⟩;gi_at_call 29;refine(callsIn_wide.2 HR.out).mono ?_;rintro e w3 ⟨s0,x0,ve,rfl,hsa,hown,hge,hb3⟩;obtain⟨EA,ec,rfl,hec⟩:=own_form hown)
 clear d0 d1 HR hec;have hw3:=hb3.size;have hal:=(Below.refl w3.heap.size w3).alloc (Nat.le_refl _) (.cells #[.pointer (some ⟨s0,0,none⟩)] 72);have hbb:=Boxed.new w3 72 (.pointer (some ⟨s0,0,none⟩));have hbl4:=boxed_below (boxed_below hbl2 hb3) hal;have hbi4:=boxed_below (boxed_below hbi2 hb3) hal;have hsa4:=hsa.below hal;have her:Rd enc1 1 (w3.alloc (.cells #[.pointer (some ⟨s0,0,none⟩)] 72)) EA n (errS LL):=(Rd.of_own enc1_len hown (by rw[← H.out.len];exact errS_len LL)).below hal;have hbw4:=below_tr hbw2 (below_tr hb3 hal)
 have hblk4:w3.heap.size+1=(w3.alloc (.cells #[.pointer (some ⟨s0,0,none⟩)] 72)).heap.size:=by simp
 obtain⟨W4,hW4⟩:∃ W4,W4=w3.alloc (.cells #[.pointer (some ⟨s0,0,none⟩)] 72):=⟨_,rfl⟩;obtain⟨B7,hB7⟩:∃ B7,B7=w3.heap.size:=⟨_,rfl⟩;rw[← hW4] at hbb hbl4 hbi4 hsa4 her hbw4 hblk4 ⊢;rw[← hB7] at hbb hblk4 hw3 ⊢;have hs02:=hge.1;clear hW4 hal hsa hown hb3 hbl2 hbi2 hB7 hge
 have hkm:KM W4 w.heap.size (w.heap.size+1) B7 s0 n A c LL (k:Int) x0.le.A x0.le.n x0.le.c :=
  ⟨hbl4,hbi4,hbb,H.out.below hbw4,hsa4.blk.lt,by have:=hsa4.blk.cell 13;simpa[sessV] using this,hsa4.rows.le.rd⟩
 have HKM:=hid hkm;have HBW4:=hid hbw4;have HSA4:=hid hsa4;obtain⟨b2,o2,e2,rfl,_,hee,q2'⟩:=her.at_ hkn;obtain rfl:=Option.some.inj (HEE.out.symm.trans hee);have q2:=q2' 0 _ rfl;obtain⟨b1,o1,p1,rfl,hpp,q1⟩:=str_at hkm.ls hkn;obtain rfl:=Option.some.inj (HP.out.symm.trans hpp);simp only[Nat.mul_one,Nat.add_zero] at q2;have d0:=hbl4.cell;have d1:=hbi4.cell
 have hi1:(k:Int) < (n:Int):=by omega
 have hi0:(0:Int)≤(k:Int):=by omega
 clear hkm hbl4 hbi4 hbb her hee q2' hpp hbw4 hsa4
 gi_upto_region 10 with (refine⟨trivial,?_⟩;gi_at_call 33;refine(callsIn_wide.2 (HPF.out _)).mono ?_;rintro e w4 ⟨rfl,rfl⟩)
 have hal:=(Below.refl w4.heap.size w4).alloc (Nat.le_refl _) (.cells #[.int .i64 0] 3);have bT:=Boxed.new w4 3 (.int .i64 0)
 have hsz5:(w4.alloc (.cells #[.int .i64 0] 3)).heap.size=w4.heap.size+1:=by simp
 obtain⟨W5,hW5⟩:∃ W5,W5=w4.alloc (.cells #[.int .i64 0] 3):=⟨_,rfl⟩;rw[← hW5] at hal bT hsz5 ⊢;have hkm5:=HKM.out.below hal;have d0:=hkm5.bl.cell;have hbw5:=below_tr HBW4.out hal;have HW:=hid (weathers_c 7 (by omega) (c:=c) hkm5.ls hn HS.out (HL.out.below hbw5));clear q1 q2 hW5 hkm5 hbw5
 gi_wp2_with (refine⟨trivial,?_⟩;gi_at_call 31;refine HW.out.mono ?_;rintro e W0 ⟨Lb,Eb,Sb,s,x,EA,ec',rfl,hm,hfar,hb0⟩)
 have hp:∀(k:Nat) (p:List UInt8),(linesB LL)[k]?=some p→(runP Ga.readOf (-1) 0 begS 0 (linesB LL)).2[k]?=some 0→preW p=isW p:=fun k p h1 h2=>run_pre Ga.readOf (-1) 0 _ _ _ k p h1 h2
 have hlv:(runP Ga.readOf (-1) 0 begS 0 (linesB LL)).1.levels.length=(weathI 0 (linesB LL) (runP Ga.readOf (-1) 0 begS 0 (linesB LL)).2).length:=by
  have:=run_lv Ga.readOf (-1) 0 (linesB LL) begS 0 0
  simpa[begS] using this
 have hwn:(weathI 0 (linesB LL) (errS LL)).length≤1000:=by
  have h1:=runP_okM (-1) 0 (linesB LL) begS 0 begS_ok;have:=h1.levN;have:=h1.dayN;have h2:(runP Ga.readOf (-1) 0 begS 0 (linesB LL)).1.levels.length=(weathI 0 (linesB LL) (errS LL)).length:=hlv;omega
 have hN:(weathL (linesB LL) (runP Ga.readOf (-1) 0 begS 0 (linesB LL)).2 (runP Ga.readOf (-1) 0 begS 0 (linesB LL)).1.levels).length≤1000:=by
  unfold weathL;rw[List.length_zip];have h2:(weathI 0 (linesB LL) (runP Ga.readOf (-1) 0 begS 0 (linesB LL)).2).length≤1000:=hwn;omega
 have hE:∀ g,(g=w4.heap.size)→g < W5.heap.size:=by omega
 have hA:0 < n→∀ ad,(some (⟨b1,o1,none⟩:Addr))=some ad→¬(ad.block=w4.heap.size):=fun h0 ad e=>by
  obtain⟨b',o',e',hlt,_⟩:=HKM.out.ls.2 h0;cases e;cases e';dsimp only;omega
 have hst:=weathers_stops 7 (by omega) (fun g=>g=w4.heap.size) w4.heap.size 1000 Lb Eb Sb s n c ec' x.le.n x.le.c (some ⟨b1,o1,none⟩) EA x.le.A LL (runP Ga.readOf (-1) 0 begS 0 (linesB LL)).2 (runP Ga.readOf (-1) 0 begS 0 (linesB LL)).1.levels W0 (by omega) hp hlv hN (hfar (fun g=>g=w4.heap.size) hE hA) hm;have hbW0:=below_tr hal hb0;have bT0:=boxed_below bT hb0;have hw0:=hb0.size;clear hp hN hE hA hm hfar hal bT hb0 HW d0 d1;refine range_act fun a0 ha0=>?_
 refine wpIn_rangeFunc_ownH rfl (by omega) (gf:=41) (lb:=#[.pointer (some ⟨Lb,0,none⟩),.pointer (some ⟨Eb,0,none⟩),.pointer (some ⟨Sb,0,none⟩)]) (by rw[ha0];rfl) trivial (enters_of Tryz.func41 (by kernel_rfl) rfl)
  hst kpE_t (fun W l o o' h1 h2 h3 h4=>kpE_b (w:=W0) (by omega) W l o o' h1 h2 h3 h4) (Below.refl _ _) (fun _=>rfl)
  (fun pre W=>Boxed W w4.heap.size 3 (.int .i64 (cntW k pre:Nat))∧Below w4.heap.size w4 W)
  (fun _ _ _=>False)
  (OwnFrom.and (Own.from (boxed_own _ _ _) _) (ownFrom_below (Nat.le_refl _) (by omega)))
  (fun _ _ _ _ _ hs _ _=>hs)
  ⟨bT0,hbW0⟩
  (fun x a' W=>a'={ tmps:=(a0.tmps.setIfInBounds 46 (.int .i64 (x.1.1:Int))).setIfInBounds 47 (.int .i64 x.1.2) |>.setIfInBounds 10 (.int .i64 (x.1.1:Int)),defers:=[] })
  (fun x a' _ X Y row hs hg hr=>hs)
  ?assign ?body ?done ?stop
 case assign =>
  rintro l pre x W K hI hK;subst ha0;dsimp only[encWx]
  gi_wp2
  exact hK _ _ ((KeepsOthers.refl _).from _) (kpE_refl W) hI rfl
 case body =>
  rintro l pre x a' W hl ⟨r,hr⟩ ⟨hb1,hB⟩ rfl hlt;subst ha0;simp only[List.setIfInBounds_toArray,List.set_cons_succ,List.set_cons_zero];have hkm:=HKM.out.below hB;have c1:=hb1.cell;have f1:=hb1.frozen;have c2:=hkm.bi.cell
  have hrs:wxL (pre++[x])=wxL pre++[x.1]:=by simp[wxL]
  have HB1:=hid hb1;have HB:=hid hB;have HRS:=hid hrs
  have hcn:cntW k pre≤1000:=by
   unfold cntW;refine Nat.le_trans (List.length_filter_le _ _) ?_;simp only[wxL,List.length_map];omega
  clear hb1 hB hkm hrs
  by_cases hlt2:x.1.1 < k
  · have hx:((x.1.1:Nat):Int) < (k:Int):=by omega
    have hcs:cntW k (pre++[x])=cntW k pre+1:=by
     unfold cntW;rw[HRS.out,List.filter_append];simp[hlt2]
    have HCS:=hid hcs;clear hcs;obtain⟨m,hm⟩:∃ m,m=cntW k pre:=⟨_,rfl⟩;rw[← hm] at c1 hcn HB1 HCS;clear hm
    gi_wp2
    have hf:Fr (fun g=>g=w4.heap.size) W (W.setCell ⟨w4.heap.size,0,none⟩ (.int .i64 ((m:Int)+1))):=Fr.setAt (E:=fun g=>g=w4.heap.size) (Fr.refl _ W) (p:=⟨w4.heap.size,0,none⟩) (.inl rfl) _;refine⟨frKeeps hf fun g o hE hg ho=>?_,KpE.of_fr hf (fun g hg=>by omega) HB.out.size,?_,HB.out.trans (hf.below HB.out.size fun g hg=>by omega)⟩
    · rw[hE,show W.heap[w4.heap.size]?=_ from HB1.out] at ho;cases ho;rfl
    · rw[HCS.out];exact HB1.out.set _
  · have hx:¬((x.1.1:Nat):Int) < (k:Int):=by omega
    have hcs:cntW k (pre++[x])=cntW k pre:=by
     unfold cntW;rw[HRS.out,List.filter_append];simp[hlt2]
    have HCS:=hid hcs;clear hcs
    gi_wp2
    exact⟨(KeepsOthers.refl _).from _,kpE_refl W,by rw[HCS.out];exact HB1.out,HB.out⟩
 case done =>
  rintro D ys W hD hys ⟨hb1,hB⟩ hK;subst ha0;simp only[List.setIfInBounds_toArray,List.set_cons_succ,List.set_cons_zero];have hkm:=HKM.out.below hB;obtain⟨d,hd⟩:∃ d,d=(weathI 0 ((linesB LL).take k) ((errS LL).take k)).length:=⟨_,rfl⟩
  have hcd:cntW k ys=d:=by
   unfold cntW wxL;rw[hys,hd];unfold weathL;rw[count_zip k _ _ hlv];exact count_weath (by have:=errS_len LL;unfold linesB;rw[List.length_map];exact this) (by unfold linesB;rw[List.length_map,HKM.out.ls.len];omega)
  rw[hcd] at hb1;have hdd:=HDD.out;rw[← hd] at hdd;have hda:=(HSA4.out.below hB).rows.da
  have hdl:d < x0.da.n:=by rw[← hda.len];exact(List.getElem?_eq_some_iff.1 hdd).1
  obtain⟨A9,n9,hA9,hn9⟩:∃ A9 n9,A9=x0.da.A∧n9=x0.da.n:=⟨_,_,rfl,rfl⟩;have hrd9:=hda.rd;rw[← hA9,← hn9] at hrd9;rw[← hn9] at hdl;obtain⟨b9,o9,dy,rfl,_,hdy,z0,z1,z2⟩:=hrd9.atDy hdl;obtain rfl:=Option.some.inj (hdd.symm.trans hdy);rw[HDH.out] at z1;have c9:=(HSA4.out.below hB).blk.cell 9;simp[sessV] at c9;rw[← hA9,← hn9] at c9;have c1:=hb1.cell;have c3:=hkm.bb.cell
  have hi3:(d:Int) < (n9:Int):=by omega
  have hi4:(0:Int)≤(d:Int):=by omega
  have HB:=hid hB;have HK:=hid hK;obtain⟨top,htop⟩:∃ top:Int,top=1000 - rainP p.data.toList:=⟨_,rfl⟩
  have ht0:0≤top∧top≤1000:=by omega
  have hres0:bsearchP (keepsP LL k) 1001 0 top=RES:=by rw[HRE.out,htop];rfl
  have HRES:=hid hres0;clear hkm hcd hd hdd hda hrd9 hdy z0 z2 hA9 hn9 hys hb1 hB hK hres0
  gi_wp2
  gi_region
  all_goals
   gi_wp2
   gi_loopw [12,13] (fun lv hv wr=>∃(lo hi:Int) (f:Nat),lv=.int .i64 lo∧hv=.int .i64 hi∧0≤lo∧lo≤hi∧hi≤top∧hi - lo≤f∧bsearchP (keepsP LL k) f lo hi=RES∧Below w4.heap.size w4 wr∧wr.heap[D]?=some (.deferred (some []))) (fun lv hv _=>(intOf hv - intOf lv).toNat)
   case atStart=>exact⟨0,top,1001,rfl,by rw[htop],by omega,ht0.1,by omega,by omega,HRES.out,HB.out.drew,HK.out⟩
   case round =>
    obtain⟨lo,hi,f,rfl,rfl,hlo,hlh,hht,hf,hbs,hbw,heK⟩:=hrel;have HBS:=hid hbs;have HBW:=hid hbw;have HEK:=hid heK;clear hbs hbw heK c9 c1 c3 z1
    by_cases hlt:lo < hi
    · obtain⟨f,rfl⟩:∃ g,f=g+1:=⟨f - 1,by omega⟩
      obtain⟨m,hm⟩:∃ m,m=(lo+hi+1) / 2:=⟨_,rfl⟩
      have hq:(lo+hi+1).tdiv 2=m:=by rw[hm];exact Int.tdiv_eq_ediv_of_nonneg (by omega)
      have hmb:lo < m∧m≤hi:=by omega
      have hstep:=HBS.out;rw[bsearchP,if_pos hlt,← hm] at hstep;have HST:=hid hstep;have HKC:=hid (keeps_c (more:=m) (HKM.out.below HBW.out) hn HS.out (HL.out.below (below_tr HBW4.out HBW.out)) (by omega) (lev_same HP.out HEE.out (by omega)));clear hstep hm
      gi_wp2
      refine⟨trivial,?_⟩;refine(callsIn_wide.2 HKC.out).mono ?_;rintro e w6 ⟨rfl,hb6⟩;have heK6:=(hb6.block D (Array.getElem?_eq_some_iff.1 HEK.out).1).trans HEK.out;have hbw6:=below_tr HBW.out hb6
      cases hkp:keepsP LL (k:Int) m with
      | true =>
       have hs6:=HST.out;rw[hkp,if_pos rfl] at hs6;have HS6:=hid hs6;have HBW6:=hid hbw6;have HEK6:=hid heK6;clear hs6 hbw6 heK6 hkp
       gi_wp2
       go_roundw
       case rel=>exact⟨m,hi,f,rfl,rfl,by omega,by omega,hht,by omega,HS6.out,HBW6.out,HEK6.out⟩
       case measure=>simp[intOf];omega
      | false =>
       have hs6:=HST.out;rw[hkp,if_neg (by simp)] at hs6;have HS6:=hid hs6;have HBW6:=hid hbw6;have HEK6:=hid heK6;clear hs6 hbw6 heK6 hkp
       gi_wp2
       go_roundw
       case rel=>exact⟨lo,m - 1,f,rfl,by go_num,by omega,by omega,by omega,by omega,HS6.out,HBW6.out,HEK6.out⟩
       case measure=>simp[intOf];omega
    · have hfin:lo=RES:=by
       have h9:=HBS.out
       cases f with
       | zero=>exact h9
       | succ f=>rw[bsearchP,if_neg hlt] at h9;exact h9
      have HFIN:=hid hfin;clear hfin
      gi_wp2
      refine⟨by simp,.inl ?_⟩;refine⟨_,_,rfl,run_takeDeferred HEK.out,?_⟩;have hfin:Below w.heap.size w (wr.putObj D (.deferred none)):=(below_tr HBW4.out HBW.out).trans (belowK_b (w:=w) (Nat.le_refl _) wr D _ _ (by have:=HBW4.out.size;omega) HEK.out rfl rfl);exact⟨_,results_tmp2 rfl _ _ _,by rw[← HFIN.out];rfl,hfin⟩
 case stop =>
  rintro D c pre W _ _ h _;exact h.elim
theorem Bears_ok {A:Option Addr}{n c:Nat}{LL:List ByteArray}{k:Nat}{p:ByteArray}{w:World}(h:Rd encStr 1 w A n LL)(hl:Lay w)(hck:checkL LL=0)(hp:LL[k]?=some p)(he:(errS LL)[k]?=some 0)(hW:isW p.data.toList=true) :
 Calls Tryz.prog 22 #[.slice A n c,.int .i64 k] w fun e w'=>e=.returned (.tuple #[.int .i64 (bearsN LL k p),.int .i64 0])∧Below w.heap.size w w':=callsIn_wide.1 (Bears_in h hl hck hp he hW)
end Go.Proofs.YtlaengnhfjlphaaGreatDoor
namespace Go.Proofs.YtlaengnhfjlphaaGreatDoor
open Lib (hid)
open Go.RowKit Go.Proofs
attribute [local go_sem ↓] Go.wp_at_zero Go.wp_at_succ
theorem str_eql (a b:List UInt8)(W:World):(binOp .eql 9 (str a) (str b)).run Tryz.prog W=.ok (.bool (decide (a=b))) W:=by
 unfold str;rw[binOp_string_eql,Sem.run_pure,ByteArray.toList_eq,ByteArray.toList_eq];show Result.ok (Value.bool (a == b)) W=_;rw[show(a == b)=decide (a=b) from by rw[Bool.eq_iff_iff];simp]
theorem spring_c (w:World):Calls Tryz.prog 21 #[] w fun e w'=>∃ g,e=.returned (.slice (some ⟨g,0,none⟩) 16 16)∧Rd encStr 1 w' (some ⟨g,0,none⟩) 16 springL∧Below w.heap.size w w':=by
 go_enter Tryz.func21,Tryz.ntmps21
 go_wp2_with fail
 go_ret
 exact⟨w.heap.size,rfl,Rd.of_blkE encStr_len (Blk.new w 9 (springL.flatMap encStr).toArray) (by simp) springL_small.1,(Below.refl _ w).alloc (Nat.le_refl _) _⟩
theorem spring_check:checkL springL=0:=by
 unfold checkL;rw[if_neg (by rw[springL_small.1];decide),if_pos springL_small.2]
theorem ab_check:checkL [⟨#[97]⟩,⟨#[]⟩]=0:=by decide +kernel
theorem wakes_ok (w:World)(hl:Lay w):Calls Tryz.prog 7 #[] w fun e w'=>e=.returned (.bool true)∧Below w.heap.size w w':=by
 have HL:=hid hl;have HB:=hid (Below.refl w.heap.size w);clear hl
 go_enter Tryz.func7,Tryz.ntmps7
 go_wp2_with fail
 go_at_call 21;refine((spring_c _)).mono ?_;rintro e w1 ⟨g1,rfl,hr1,hb9⟩;replace HB:=hdT HB hb9;have HR1:=hid hr1;clear hb9 hr1
 go_wp2_with fail
 go_at_call 18;refine(Run_c HR1.out (HL.out.below HB.out)).mono ?_;rintro e w2 ⟨s,x,b,m,ve,es,rfl,hrows,hown,hem,hok,_,hb9⟩;obtain⟨hbb,hes⟩:=hok spring_check;rw[show linesB springL=springB from springL_B] at hbb hes;obtain⟨v1,v2,v3,v4,v5⟩:=spring_vals;rw[← hes] at v1;rw[← hbb] at v2 v3 v4 v5
 have hm16:m=16:=by rw[← hem,v1];rfl
 subst hm16;obtain⟨EA,ec,rfl,_⟩:=own_form hown;rw[spring_check];have her:Rd enc1 1 w2 EA 16 es:=Rd.of_own enc1_len hown hem;have hle:=hrows.le.rd;have hbo:=hrows.bo.rd;have hrd:=hrows.rd.len;rw[v2] at hle;rw[v3] at hbo;rw[v5] at hrd;have hle2:x.le.n=2:=hle.len.symm;have hbo2:x.bo.n=1:=hbo.len.symm
 have hrd2:x.rd.n=1:=by rw[← hrd]
 rw[hle2] at hle;rw[hbo2] at hbo;clear HR1 hrows hown hok hem hrd hbb hes;have hb2:=below_tr HB.out hb9;clear HB hb9;have HTH:=hid (show World.there (w2.alloc (.cells #[.slice none 0 0,.int .i64 0,.slice none 0 0,.slice none 0 0,.int .i64 0,.int .i64 0,.int .i64 0,.int .i64 0,.int .i64 0,.slice none 0 0,.int .i64 0,.int .i64 0,.int .i64 0,.slice none 0 0,.slice none 0 0,.slice none 0 0,.int .i64 0,.int .i64 0,.int .i64 0,.int .i64 0,.slice none 0 0,.slice none 0 0] 57)) w2.heap.size 0 22 from there_of_blk (cs:=stateL ad0 zeroS) (Blk.new w2 57 (stateL ad0 zeroS).toArray));obtain⟨cs,hcs⟩:∃ cs,cs=(stateL x b).toArray:=⟨_,rfl⟩
 have hcn:cs.size=22:=by rw[hcs];rfl
 have hc1:cs.all (·.oneCell')=true:=by rw[hcs];exact stateL_one x b
 rw[← hcs];have HCS:=hid hcs;have HCN:=hid hcn;have HC1:=hid hc1;have HV2:=hid v2;have HV3:=hid v3;have HV4:=hid v4;have HV5:=hid v5;have HV1:=hid v1;have HLE2:=hid hle2;have HBO2:=hid hbo2;have HRD2:=hid hrd2;clear hcs hcn hc1 v1 v2 v3 v4 v5 hle2 hbo2 hrd2
 go_upto_region 2 with (refine wpList_store_mid rfl 57 (.tmp 1) (.tmp 11) rfl w2.heap.size 0 cs rfl rfl (by rw[HCN.out];exact HTH.out) (by rw[HCN.out];exact stateN) HC1.out ?_)
 have hblk:=blk_cells (stateL x b) 0 (w2.alloc (.cells (stateL ad0 zeroS).toArray 57)) [] (stateL ad0 zeroS) (Blk.new w2 57 (stateL ad0 zeroS).toArray) rfl rfl
 have hb3:Below w2.heap.size w2 ((w2.alloc (.cells (stateL ad0 zeroS).toArray 57)).setCells w2.heap.size 0 (stateL x b)) :=
  (((Below.refl w2.heap.size w2).alloc (Nat.le_refl _) (.cells (stateL ad0 zeroS).toArray 57)).trans ((grown_cells (g:=w2.heap.size) (stateL x b) 0 _).below (by simp) fun q e=>Nat.le_of_eq e.symm))
 generalize hw3:(World.setCells (w2.alloc (.cells #[.slice none 0 0,.int .i64 0,.slice none 0 0,.slice none 0 0,.int .i64 0,.int .i64 0,.int .i64 0,.int .i64 0,.int .i64 0,.slice none 0 0,.int .i64 0,.int .i64 0,.int .i64 0,.slice none 0 0,.slice none 0 0,.slice none 0 0,.int .i64 0,.int .i64 0,.int .i64 0,.int .i64 0,.slice none 0 0,.slice none 0 0] 57)) w2.heap.size 0 cs.toList)=w3
 have e9:(w2.alloc (.cells (stateL ad0 zeroS).toArray 57)).setCells w2.heap.size 0 (stateL x b)=w3:=by rw[← hw3,HCS.out];rfl
 rw[e9] at hblk hb3
 have hbk:Blk w3 w2.heap.size 57 (stateL x b).toArray:=by simpa using hblk
 clear hw3 e9 hblk HTH HCN HC1;have HB:=hid (below_tr hb2 hb3);have HER:=hid (her.below hb3);have HLE:=hid (hle.below hb3);have HBO:=hid (hbo.below hb3);have HST:=hid hbk;clear hb2 hb3 her hle hbo hbk HCS;have hl19:springL[7]?=some ⟨#[119,101,97,116,104,101,114,32,52,48,32,54,48,32,53]⟩:=rfl
 have hbe:∀(g:Nat) (W:World),Rd encStr 1 W (some ⟨g,0,none⟩) 16 springL→Lay W→Calls Tryz.prog 22 #[.slice (some ⟨g,0,none⟩) 16 16,.int .i64 7] W fun e w'=>e=.returned (.tuple #[.int .i64 29,.int .i64 0])∧Below W.heap.size W w':=by
  intro g W hr hl;have h1:=Bears_ok (c:=16) hr hl spring_check hl19 (by unfold errS;rw[show linesB springL=springB from springL_B,spring_vals.1];rfl) spring_isW;have h2:bearsN springL 7 ⟨#[119,101,97,116,104,101,114,32,52,48,32,54,48,32,53]⟩=29:=spring_bears;rw[h2] at h1;exact h1
 have HBE:=hid hbe;clear hbe hl19
 go_wp2_with fail
 go_at_call 21;refine((spring_c _)).mono ?_;rintro e w4 ⟨g4,rfl,hr4,hb9⟩;replace HB:=hdT HB hb9;replace HER:=hid (HER.out.below hb9);replace HLE:=hid (HLE.out.below hb9);replace HBO:=hid (HBO.out.below hb9);replace HST:=hdB HST hb9;have HR4:=hid hr4;clear hb9 hr4
 go_wp2_with fail
 go_at_call 22;refine((HBE.out _ _ HR4.out (HL.out.below HB.out))).mono ?_;rintro e w5 ⟨rfl,hb9⟩;replace HB:=hdT HB hb9;replace HER:=hid (HER.out.below hb9);replace HLE:=hid (HLE.out.below hb9);replace HBO:=hid (HBO.out.below hb9);replace HST:=hdB HST hb9;replace HR4:=hid (HR4.out.below hb9);clear hb9 ;clear HBE;have hal:=(Below.refl w5.heap.size w5).alloc (Nat.le_refl _) (.cells #[.string ⟨#[97]⟩,.string ⟨#[]⟩] 9);have hra:=Rd.of_blkE encStr_len (Blk.new w5 9 #[.string ⟨#[97]⟩,.string ⟨#[]⟩]) (l:=[(⟨#[97]⟩:ByteArray),⟨#[]⟩]) rfl rfl
 go_wp2_with fail
 go_at_call 8;refine(Write_c hra).mono ?_;rintro e w6 ⟨v,rfl,hwo,_,hb9⟩;have hwo:=hwo ab_check;rw[ab_check];have hbk2:bookW (linesB [⟨#[97]⟩,⟨#[]⟩]) 5=[123,97,97,98,122,122,121,97,97,97,108,100,125,97,10,123,97,97,97,122,122,122,97,97,97,108,100,125,10]:=spring_book;rw[hbk2] at hwo;obtain⟨bs,hbs⟩:∃ bs:List UInt8,bs=[123,97,97,98,122,122,121,97,97,97,108,100,125,97,10,123,97,97,97,122,122,122,97,97,97,108,100,125,10]:=⟨_,rfl⟩;rw[← hbs] at hwo
 have hbl:bs.length=29:=by rw[hbs];rfl
 rw[hbl] at hwo;have HBS:=hid hbs;have HBL:=hid hbl;obtain⟨A6,c6,rfl,_⟩:=own_form hwo;have hbz:=below_tr hal hb9;have hrw:Rd encB 1 w6 A6 29 bs:=Rd.of_own encB_len (by rw[flat_u8];exact hwo) HBL.out;have HRW:=hid hrw;clear hbs hbl hbk2 hra hal hb9 hwo hrw;replace HB:=hdT HB hbz;replace HER:=hid (HER.out.below hbz);replace HLE:=hid (HLE.out.below hbz);replace HBO:=hid (HBO.out.below hbz);replace HST:=hdB HST hbz;replace HR4:=hid (HR4.out.below hbz);clear hbz;obtain⟨be,oe,y,rfl,_,hy,hyc⟩:=HER.out.at_ (i:=14) (by decide);obtain⟨be',oe',y',e',_,hy',hyc'⟩:=HER.out.at_ (i:=15) (by decide);cases e';rw[HV1.out] at hy hy';cases hy;cases hy';have q14:=hyc 0 _ rfl;have q15:=hyc' 0 _ rfl;simp at q14 q15;obtain⟨bw,ow,z,rfl,_,_,_⟩:=HRW.out.at_ (i:=0) (by decide);have p13:=HST.out.cell 13;have p20:=HST.out.cell 20;simp[stateL] at p13 p20;rw[HLE2.out] at p13;rw[HBO2.out] at p20;clear hyc hyc';have ht22:([2,2]:List Int)=[2,2]:=rfl;have hal7:=(Below.refl w6.heap.size w6).alloc (Nat.le_refl _) (.cells #[.int .i64 2,.int .i64 2] 3);have hr7:=Rd.of_blkE (enc:=enc1) (k:=1) (fun _=>rfl) (Blk.new w6 3 #[.int .i64 2,.int .i64 2]) (l:=[2,2]) rfl rfl;have HI1:=hid (wints_c (c:=x.le.c) (c':=2) (HLE.out.below hal7) hr7 (by decide));clear hr7
 go_wp2_with fail
 go_at_call 23;refine HI1.out.mono ?_;rintro e w7 ⟨rfl,hb7⟩;have hbz:=below_tr hal7 hb7;clear hal7 hb7 HI1 q14 q15 p13 p20 HER HLE;replace HB:=hdT HB hbz;replace HBO:=hid (HBO.out.below hbz);replace HST:=hdB HST hbz;replace HR4:=hid (HR4.out.below hbz);replace HRW:=hid (HRW.out.below hbz);clear hbz;have p20:=HST.out.cell 20;simp[stateL] at p20;rw[HBO2.out] at p20;have hal8:=(Below.refl w7.heap.size w7).alloc (Nat.le_refl _) (.cells #[.int .i64 0] 3);have hr8:=Rd.of_blkE (enc:=enc1) (k:=1) (fun _=>rfl) (Blk.new w7 3 #[.int .i64 0]) (l:=[0]) rfl rfl;have HI2:=hid (wints_c (c:=x.bo.c) (c':=1) (HBO.out.below hal8) hr8 (by decide));clear hr8;simp only[decide_true]
 go_wp2_with fail
 go_at_call 23;refine HI2.out.mono ?_;rintro e w8 ⟨rfl,hb8⟩;have hbz:=below_tr hal8 hb8;clear hal8 hb8 HI2 p20 HBO;replace HB:=hdT HB hbz;replace HST:=hdB HST hbz;replace HR4:=hid (HR4.out.below hbz);replace HRW:=hid (HRW.out.below hbz);clear hbz;have p19:=HST.out.cell 19;have p21:=HST.out.cell 21;simp[stateL] at p19 p21;rw[HV4.out] at p19;rw[HRD2.out] at p21
 have hcv:(convert 23 9 (.slice (some ⟨bw,ow,none⟩) 29 c6)).run Tryz.prog w8=.ok (str bs) w8:=run_textB HBL.out fun i x hx=>by
  obtain⟨b9,o9,e9,_,h9⟩:=HRW.out.2 (by decide);cases e9;have:=h9 i x hx 0 _ rfl
  simpa using this
 have heq:∀ W,(binOp .eql 9 (str bs) (.string ⟨#[123,97,97,98,122,122,121,97,97,97,108,100,125,97,10,123,97,97,97,122,122,122,97,97,97,108,100,125,10]⟩)).run Tryz.prog W=.ok (.bool true) W:=fun W=>by
  have h9:=str_eql bs [123,97,97,98,122,122,121,97,97,97,108,100,125,97,10,123,97,97,97,122,122,122,97,97,97,108,100,125,10] W;rw[decide_eq_true HBS.out] at h9;exact h9
 have hgu:∀(op:BinOp) (u v:Operand) (W:World),(eqGuard op 9 u v (str bs) (.string ⟨#[123,97,97,98,122,122,121,97,97,97,108,100,125,97,10,123,97,97,97,122,122,122,97,97,97,108,100,125,10]⟩)).run Tryz.prog W=.ok () W:=fun op u v W=>str_guard bs _ op u v W;simp only[decide_true]
 go_wp2_with fail
 go_ret
 exact⟨rfl,HB.out⟩
theorem oneStr:∀(x:ByteArray),∀ u∈encStr x,u.oneCell'=true:=fun x u hu=>by
 simp only[encStr,List.mem_singleton] at hu;subst hu;rfl
theorem list_c {A:Option Addr}{n c:Nat}{LL:List ByteArray}{w:World}(h:Rd encStr 1 w A n LL)(hn:n≤100000) :
 Calls Tryz.prog 9 #[.slice A n c] w fun e w'=>∃ A' c',e=.returned (.slice A' n c')∧w'.ownsRow w.heap.size 9 1 (.slice A' n c') n (LL.flatMap encStr)∧Rd encStr 1 w' A' n LL∧n≤c'∧Below w.heap.size w w':=by
 obtain⟨i0,hi0,hz0,hz1,hz2⟩:=info_parts infoStr;have HI:=hid hi0;have HZ0:=hid hz0;have HZ1:=hid hz1;have HZ2:=hid hz2;have H:=hid h;clear hi0 hz0 hz1 hz2;have hlen:=h.len;clear h
 go_enter Tryz.func9,Tryz.ntmps9
 go_wp2_with (at_builtin;go_must (refine wpList_append_rd rfl _ _ 22 rfl w.heap.size 9 i0 _ 1 16 Tryz.underlying22 HI.out HZ0.out HZ1.out HZ2.out rfl (by decide) _ _ _ rfl (own_empty w 9 1) encStr_len oneStr A n c LL rfl (H.out.below ((Below.refl _ w).alloc (Nat.le_refl _) _)) (by unfold maxLen;omega) (by omega) (by simp) ?_;intro v2 w2 hown hgrow))
 go_ret
 have hown2:w2.ownsRow w.heap.size 9 1 v2 n (LL.flatMap encStr):=by simpa using hown
 obtain⟨A',c',rfl,hc'⟩:=own_form hown2;exact⟨A',c',rfl,hown2,Rd.of_own encStr_len hown2 hlen,hc',((Below.refl _ w).alloc (Nat.le_refl _) _).trans (Fr.of_grown hgrow (E:=fun q=>w.heap.size≤q) (fun q e _=>by first | (simp[Value.ownBlock] at e;omega) | (cases e;exact Nat.le_refl _)) |>.below (by simp) fun q hq=>hq)⟩
def booksP (LL:List ByteArray):Prop:=(∀ p∈LL,p.size≤200)∧0 < LL.length∧LL.length≤25
instance (LL:List ByteArray):Decidable (booksP LL):=by unfold booksP;infer_instance
theorem parts_none (c:UInt8):∀ {l:List UInt8},(∀ x∈l,x≠c)→partsP c l=[l]
 | [],_=>rfl
 | x :: l,h=>by
  rw[partsP,if_neg (h x (by simp)),parts_none c fun y hy=>h y (by simp[hy])]
theorem parts_blank {S:List UInt8}{f i:Nat}(hfi:f≤i)(hi:S[i]?=some 32)(hno:∀ j x,f≤j→j < i→S[j]?=some x→x≠32):partsP 32 (S.drop f)=(S.drop f).take (i - f) :: partsP 32 (S.drop (i+1)):=by
 have hil:=(List.getElem?_eq_some_iff.1 hi).1
 have e:S.drop f=(S.drop f).take (i - f)++32 :: S.drop (i+1):=by
  have h1:(S.drop f).drop (i - f)=32 :: S.drop (i+1):=by
   rw[List.drop_drop,show f+(i - f)=i from by omega,List.drop_eq_getElem_cons hil];rw[List.getElem?_eq_getElem hil] at hi;rw[Option.some.inj hi]
  rw[← h1,List.take_append_drop]
 have hnm:(32:UInt8) ∉ (S.drop f).take (i - f):=by
  intro hm;obtain⟨j,hj⟩:=List.getElem?_of_mem hm;have hjl:=(List.getElem?_eq_some_iff.1 hj).1;rw[List.length_take,List.length_drop] at hjl;rw[List.getElem?_take_of_lt (by omega),List.getElem?_drop] at hj;exact hno (f+j) 32 (by omega) (by omega) hj rfl
 have h2:=parts_pre 32 (S.drop (i+1)) _ hnm;rw[← e] at h2;exact h2
theorem parts_last {S:List UInt8}{f:Nat}(hno:∀ j x,f≤j→j < S.length→S[j]?=some x→x≠32):partsP 32 (S.drop f)=[S.drop f]:=by
 refine parts_none 32 fun x hx=>?_;obtain⟨j,hj⟩:=List.getElem?_of_mem hx;have hjl:=(List.getElem?_eq_some_iff.1 hj).1;rw[List.length_drop] at hjl;rw[List.getElem?_drop] at hj;exact hno (f+j) x (by omega) (by omega) hj
def SplI (S:List UInt8)(LL:List ByteArray)(f i:Nat):Prop :=
 (i≤S.length∧f≤i∧linesB LL++partsP 32 (S.drop f)=partsP 32 S∧∀ j x,f≤j→j < i→S[j]?=some x→x≠32)∨(i=S.length+1∧linesB LL=partsP 32 S)
theorem SplI.step {S:List UInt8}{LL:List ByteArray}{f i:Nat}{x:UInt8}(h:SplI S LL f i)(hx:S[i]?=some x)(hn:x≠32):SplI S LL f (i+1):=by
 have hil:=(List.getElem?_eq_some_iff.1 hx).1
 rcases h with ⟨_,h2,h3,h4⟩ | ⟨h1,_⟩
 · refine .inl ⟨hil,by omega,h3,fun j y hj hji hy=>?_⟩
   by_cases e:j=i
   · subst e;rw[hx] at hy;cases hy;exact hn
   · exact h4 j y hj (by omega) hy
 · omega
theorem SplI.cut {S:List UInt8}{LL:List ByteArray}{f i:Nat}{p:ByteArray}(h:SplI S LL f i)(hi:i≤S.length)(hx:i=S.length∨S[i]?=some 32)(hp:p.data.toList=(S.drop f).take (i - f)):f≤i∧SplI S (LL++[p]) (i+1) (i+1):=by
 have e1:linesB (LL++[p])=linesB LL++[p.data.toList]:=by simp[linesB]
 rcases h with ⟨h1,h2,h3,h4⟩ | ⟨h1,_⟩
 · refine⟨h2,?_⟩
   by_cases e:i=S.length
   · refine .inr ⟨by omega,?_⟩
     rw[parts_last fun j x hj hjl=>h4 j x hj (by omega)] at h3;rw[e1,hp,List.take_of_length_le (by rw[List.length_drop];omega)];exact h3
   · have hx:S[i]?=some 32:=hx.resolve_left e
     refine .inl ⟨by omega,Nat.le_refl _,?_,fun j y hj hji=>absurd hji (by omega)⟩;rw[parts_blank h2 hx h4] at h3;rw[e1,hp,List.append_assoc];exact h3
 · omega
theorem splitR_c (s:ByteArray)(w:World)(hs:s.size≤1048576) :
 Calls Tryz.prog 42 #[.string s] w fun e w'=>∃(v:Value) (L:List ByteArray),e=.returned v∧w'.ownsRow w.heap.size 9 1 v L.length (L.flatMap encStr)∧linesB L=partsP 32 s.data.toList∧Below w.heap.size w w':=by
 have HSL:=hid (show s.data.toList.length=s.size from rfl);obtain⟨S,hS⟩:∃ S,S=s.data.toList:=⟨_,rfl⟩;rw[← hS] at HSL ⊢;have HSE:=hid hS;clear hS;obtain⟨i0,hi0,hz0,hz1,hz2⟩:=info_parts infoStr;have HI:=hid hi0;have HZ0:=hid hz0;have HZ1:=hid hz1;have HZ2:=hid hz2;clear hi0 hz0 hz1 hz2
 go_enter Tryz.func42,Tryz.ntmps42
 go_wp2_with fail
 go_loopw [3,4,5] (fun ov fv iv wr=>∃(LL:List ByteArray) (f i:Nat),LL.length≤i∧i≤s.size+1∧fv=.int .i64 f∧iv=.int .i64 i∧wr.ownsRow w.heap.size 9 1 ov LL.length (LL.flatMap encStr)∧SplI S LL f i∧Below w.heap.size w wr) (fun _ _ iv _=>s.size+1 - (intOf iv).toNat)
 case atStart=>exact⟨[],0,0,Nat.le_refl _,Nat.zero_le _,rfl,rfl,World.ownsRow_nil _ _ _ _,.inl ⟨Nat.zero_le _,Nat.le_refl _,by simp[linesB],fun j x _ h=>absurd h (by omega)⟩,Below.refl _ _⟩
 case round =>
  obtain⟨LL,f,i,hli,his,rfl,rfl,hown,hspl,hb⟩:=hrel;have HOW:=hid hown;have HSP:=hid hspl;have HB:=hid hb;clear hown hspl hb
  by_cases hlt:i≤s.size
  · have hi1:(i:Int)≤(s.size:Int):=by omega
    by_cases hbr:i=s.size∨S[i]?=some 32
    · have hpd:(s.extract f i).data.toList=(S.drop f).take (i - f):=by rw[HSE.out];simp[List.extract_eq_take_drop]
      obtain⟨hfi,hcut⟩:=HSP.out.cut (p:=s.extract f i) (by rw[HSL.out];exact hlt) (by rw[HSL.out];exact hbr) hpd;have HCUT:=hid hcut;clear hcut hpd;have hal:=(Below.refl wr.heap.size wr).alloc (Nat.le_refl _) (.cells #[.string (s.extract f i)] 9);have hne:=Blk.new wr 9 #[.string (s.extract f i)];have hw1:IntKind.i64.wrap ((i:Int)+1)=(i:Int)+1:=wi (by omega)
      by_cases hend:i=s.size
      · have e0:((i:Int) == (s.size:Int))=true:=by simp;omega
        clear hbr hend
        go_wp2_with (at_builtin;go_must (refine wpList_append_rd rfl _ _ 22 rfl w.heap.size 9 i0 _ 1 16 Tryz.underlying22 HI.out HZ0.out HZ1.out HZ2.out rfl (by decide) _ LL.length _ rfl (own_mono HOW.out hal) encStr_len oneStr (some ⟨wr.heap.size,0,none⟩) 1 1 [s.extract f i] rfl (Rd.of_blkE (k:=1) encStr_len hne (l:=[s.extract f i]) rfl rfl) (by unfold maxLen;omega) (by omega) (by have:=HB.out.size;simp;omega) ?_;intro v' w4 hown4 hgr4))
        have hown4:w4.ownsRow w.heap.size 9 1 v' (LL++[s.extract f i]).length ((LL++[s.extract f i]).flatMap encStr):=by simpa using hown4
        have hb4:=(below_tr HB.out hal).trans (Fr.of_grown hgr4 (E:=fun q=>w.heap.size≤q) (fun q e _=>(HOW.out.lt q e).1) |>.below (by have:=HB.out.size;simp;omega) fun q hq=>hq)
        go_wp2_with fail
        go_roundw
        case rel=>exact⟨LL++[s.extract f i],i+1,i+1,by rw[List.length_append];simp;omega,by omega,by go_num,by go_num,hown4,HCUT.out,hb4⟩
        case measure=>simp[intOf] <;> omega
      · have hx:=hbr.resolve_left hend
        have e0:((i:Int) == (s.size:Int))=false:=by simp;omega
        have q1:=idx_str s (by rw[← HSE.out];exact hx);have q2:((32:UInt8).toNat:Int)=32:=rfl;rw[q2] at q1;clear hbr hx q2
        go_wp2_with (at_builtin;go_must (refine wpList_append_rd rfl _ _ 22 rfl w.heap.size 9 i0 _ 1 16 Tryz.underlying22 HI.out HZ0.out HZ1.out HZ2.out rfl (by decide) _ LL.length _ rfl (own_mono HOW.out hal) encStr_len oneStr (some ⟨wr.heap.size,0,none⟩) 1 1 [s.extract f i] rfl (Rd.of_blkE (k:=1) encStr_len hne (l:=[s.extract f i]) rfl rfl) (by unfold maxLen;omega) (by omega) (by have:=HB.out.size;simp;omega) ?_;intro v' w4 hown4 hgr4))
        have hown4:w4.ownsRow w.heap.size 9 1 v' (LL++[s.extract f i]).length ((LL++[s.extract f i]).flatMap encStr):=by simpa using hown4
        have hb4:=(below_tr HB.out hal).trans (Fr.of_grown hgr4 (E:=fun q=>w.heap.size≤q) (fun q e _=>(HOW.out.lt q e).1) |>.below (by have:=HB.out.size;simp;omega) fun q hq=>hq)
        go_wp2_with fail
        go_roundw
        case rel=>exact⟨LL++[s.extract f i],i+1,i+1,by rw[List.length_append];simp;omega,by omega,by go_num,by go_num,hown4,HCUT.out,hb4⟩
        case measure=>simp[intOf] <;> omega
    · have hend:i≠s.size:=fun e=>hbr (.inl e)
      obtain⟨x,hx⟩:∃ x,S[i]?=some x:=⟨_,List.getElem?_eq_getElem (by rw[HSL.out];omega)⟩;have hn:x≠32:=fun e=>hbr (.inr (by rw[← e];exact hx));have hst:=HSP.out.step hx hn;have q1:=idx_str s (by rw[← HSE.out];exact hx)
      have e0:((i:Int) == (s.size:Int))=false:=by simp;omega
      have hxi:(x.toNat:Int)≠32:=fun e=>hn (UInt8.toNat_inj.1 (by have h9:(32:UInt8).toNat=32:=rfl;omega))
      have e1:((x.toNat:Int) == 32)=false:=by simpa using hxi
      have HST:=hid hst;clear hbr hx hn hst hend hxi
      go_wp2_with fail
      go_roundw
      case rel=>exact⟨LL,f,i+1,by omega,by omega,by trivial,by go_num,HOW.out,HST.out,HB.out⟩
      case measure=>simp[intOf] <;> omega
  · have hi1:¬(i:Int)≤(s.size:Int):=by omega
    have hfin:linesB LL=partsP 32 S:=by
     rcases HSP.out with ⟨h1,_⟩ | ⟨_,h2⟩
     · have:=HSL.out;omega
     · exact h2
    have HF:=hid hfin;clear hfin
    go_wp2_with fail
    go_ret
    exact⟨_,rfl,LL,HOW.out,HF.out,HB.out⟩
end Go.Proofs.YtlaengnhfjlphaaGreatDoor
