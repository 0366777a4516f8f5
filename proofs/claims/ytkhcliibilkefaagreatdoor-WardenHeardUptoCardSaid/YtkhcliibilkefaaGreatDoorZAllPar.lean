/- THE CONTRACT of look.dangers: the dangers of all parcels in a truth. -/
import Derived.Test.YtkhcliibilkefaaGreatDoorZRound
import Derived.Maps.OwnIn
import Derived.Laws.EntriesVeiled
import Derived.Laws.MakeOwn
import Derived.Deep.DrawnRows
import Derived.RangeFuncNested
import Derived.RangeFuncBound
import Derived.RangeFuncBox
import Derived.Maps.AppendAt
set_option linter.unusedVariables false
set_option linter.unusedSimpArgs false
set_option maxRecDepth 100000
set_option maxHeartbeats 8000000
namespace Go.Proofs.YtkhcliibilkefaaGreatDoor
open Lib (hid)
open Go.RowKit Go.Proofs Go.Shelf
attribute [local go_sem] Oper.semAt_some
def intsA (l:List Int):Array Value:=(l.map fun n=>Value.int .i64 n).toArray
theorem intsA_get {l:List Int}{i:Nat}:(intsA l)[i]?=(l[i]?).map fun n=>Value.int .i64 n:=by simp[intsA]
theorem intsA_set {l:List Int}{i:Nat}{n:Int}:(intsA l).setIfInBounds i (.int .i64 n)=intsA (l.set i n):=by simp[intsA,List.map_set]
def dRow (v:Vly)(pre:List (Nat×Int)):List Int:=(List.range v.pars.length).map fun p:Nat=>dSum v.sls (p:Int) pre
theorem dRow_len {v:Vly}{pre:List (Nat×Int)}:(dRow v pre).length=v.pars.length:=by simp[dRow]
theorem dRow_get {v:Vly}{pre:List (Nat×Int)}{i:Nat}(h:i<v.pars.length):(dRow v pre)[i]?=some (dSum v.sls (i:Int) pre):=by simp[dRow,h]
theorem dRow_snoc {v:Vly}{pre:List (Nat×Int)}{k q:Nat}{s:Sli}(hs:v.sls[k]?=some s):dRow v (pre++[(k,(q:Int))])=(dRow v pre).set q (dSum v.sls (q:Int) pre+s.rate):=by
 refine List.ext_getElem? fun i=>?_
 by_cases hi:i<v.pars.length
 · rw[dRow_get hi,dSum_snoc,List.getElem?_set,dRow_len,dRow_get hi,rateOf_of hs]
   by_cases hq:q=i
   · subst hq;simp[hi]
   · have:¬(q:Int)=(i:Int):=by omega
     simp[hq,this]
 · rw[List.getElem?_eq_none (by rw[dRow_len];omega),List.getElem?_eq_none (by rw[List.length_set,dRow_len];omega)]
theorem infoN:(Tryz.prog.info? 3).map (fun i=>(i.zero,i.size,i.bytes))=some (some (.int .i64 0),1,8):=by kernel_rfl
theorem mk_ints (n:Nat)(hn:n≤1000000)(W:World):(Instr.makeSlice 28 (.int .i64 (n:Int)) (.int .i64 (n:Int))).run Tryz.prog W=.ok (.slice (some ⟨W.heap.size,0,none⟩) n n) (W.alloc (.cells (intsA (List.replicate n 0)) 3)):=by
 obtain⟨i,h0,hz0,hz1,hz2⟩:=info_parts infoN;have:=run_make (P:=Tryz.prog) W 28 3 i _ Tryz.underlying28 h0 hz0 .i64 .i64 n n (by omega) (by omega) (by rw[hz2];omega) (by omega);rw[hz1] at this
 have e:madeCells (Value.int IntKind.i64 0).cells ((n:Int).toNat * 1)=intsA (List.replicate n 0):=by
  apply Array.ext_getElem?
  intro j;simp only[intsA_get,madeCells,List.getElem?_replicate]
  by_cases h:j<n
  · have hm:j % 1=0:=Nat.mod_one j
    simp[h,Value.cells,Array.getElem?_range,hm]
  · simp[h,Array.getElem?_range]
 rw[e] at this
 simpa using this
def DI (w:World)(s:Nat)(v:Vly)(L:Array Value)(pre:List (Hit v.sls.length v.pars.length))(W:World):Prop :=
 Boxed W (s+1+1) 28 (.slice (some ⟨s+1,0,none⟩) v.pars.length v.pars.length)∧(Blk W (s+1) 3 (intsA (dRow v (pre.map hitOf)))∧Blk W s 264 L)∧Below s w W
theorem blk_own {α:Type}{B:Nat}(g:α→Nat)(t:TypeId)(cs:α→Array Value):OwnFrom B (fun(s:α) (W:World)=>Blk W (g s) t (cs s)):=fun s A C row h hg hr=>Blk.grown h hg (fun e=>by
 obtain⟨_,o,ho,hc⟩:=hr _ e.symm
 rw[show A.heap[g s]?=_ from h] at ho;cases ho;cases hc)
theorem DI_own (w:World)(s:Nat)(v:Vly)(L:Array Value)(hs:s≤w.heap.size){B:Nat}(hB:s≤B):OwnFrom B (DI w s v L) :=
 OwnFrom.and (Own.from (boxed_own _ _ _) _) (OwnFrom.and (OwnFrom.and (blk_own _ _ _) (blk_own _ _ _)) (ownFrom_below hs hB))
theorem dangers_in {v:Vly}{tr:List Int}{PA SA TA:Option Addr}{pn pc sn sc tn tc:Nat}{w:World}(hok:VOk v)(hfit:Fits v tr)(hV:RdV w PA pn SA sn v)(hT:Rd enc1 1 w TA tn tr) :
 CallsIn Fence.wide 8 Tryz.prog 189 #[.agg #[.slice PA pn pc,.slice SA sn sc,.int .i64 v.s0,.int .i64 v.s1,.int .i64 v.s2,.slice TA tn tc]] w fun e w'=>∃ g,e=.returned (.slice (some ⟨g,0,none⟩) pn pn) ∧
  w.heap.size≤g∧Blk w' g 3 (intsA (dangs v tr))∧Below w.heap.size w w':=by
 have hpl:=hV.pars.len;subst hpl;have hpn:=hok.pn;have HOK:=hid hok;have HF:=hid hfit;have HV:=hid hV;have HT:=hid hT;clear hok hfit hV hT;have hmk:=mk_ints v.pars.length (by omega);refine callsIn_of_wp_marks Tryz.func189 rfl trivial ?_ rfl;simp only[Tryz.ntmps189,List.size_toArray,List.length_cons,List.length_nil,Nat.reduceAdd,Nat.reduceSub,Array.replicate_succ,Array.replicate_zero,List.push_toArray,List.append_toArray,List.nil_append,List.cons_append]
 gi_wp2_with (refine⟨trivial,?_⟩;gi_at_call 219;refine(hits_c _ _ _ _ _ _ _ _ _ _ _ _ _ _).mono ?_;rintro e w' ⟨rfl,rfl⟩)
 obtain⟨L,hL⟩:∃ L:Array Value,L=#[.slice PA v.pars.length pc,.slice SA sn sc,.int .i64 v.s0,.int .i64 v.s1,.int .i64 v.s2,.slice TA tn tc]:=⟨_,rfl⟩;obtain⟨W0,hW0⟩:∃ W0:World,(((w.alloc (.cells #[.slice PA v.pars.length pc,.slice SA sn sc,.int .i64 v.s0,.int .i64 v.s1,.int .i64 v.s2,.slice TA tn tc] 264)).alloc (.cells (intsA (List.replicate v.pars.length 0)) 3)).alloc (.cells #[.slice (some ⟨w.heap.size+1,0,none⟩) v.pars.length v.pars.length] 28)).alloc (.cells #[.slice PA v.pars.length pc,.slice SA sn sc,.int .i64 v.s0,.int .i64 v.s1,.int .i64 v.s2,.slice TA tn tc] 264)=W0:=⟨_,rfl⟩;have b1:=(((Blk.new w 264 L).alloc (.cells (intsA (List.replicate v.pars.length 0)) 3)).alloc (.cells #[.slice (some ⟨w.heap.size+1,0,none⟩) v.pars.length v.pars.length] 28)).alloc (.cells L 264);have b2:=((Blk.new (w.alloc (.cells L 264)) 3 (intsA (List.replicate v.pars.length 0))).alloc (.cells #[.slice (some ⟨w.heap.size+1,0,none⟩) v.pars.length v.pars.length] 28)).alloc (.cells L 264);have b3:=(Boxed.new ((w.alloc (.cells L 264)).alloc (.cells (intsA (List.replicate v.pars.length 0)) 3)) 28 (.slice (some ⟨w.heap.size+1,0,none⟩) v.pars.length v.pars.length)).alloc (.cells L 264);have b4:=Blk.new (((w.alloc (.cells L 264)).alloc (.cells (intsA (List.replicate v.pars.length 0)) 3)).alloc (.cells #[.slice (some ⟨w.heap.size+1,0,none⟩) v.pars.length v.pars.length] 28)) 264 L;rw[hL] at b1 b2 b3 b4;simp only[World.size_alloc] at b2 b3 b4
 have hbel:Below w.heap.size w W0:=by
  rw[← hW0];exact((((Below.refl _ w).alloc (Nat.le_refl _) _).alloc (by simp) _).alloc (by simp;omega) _).alloc (by simp;omega) _
 have hsz:W0.heap.size=w.heap.size+1+1+1+1:=by rw[← hW0];simp
 rw[hW0] at b1 b2 b3 b4;rw[hW0]
 have hr0:List.replicate v.pars.length (0:Int)=dRow v []:=by
  refine List.ext_getElem? fun i=>?_
  by_cases hi:i<v.pars.length
  · rw[dRow_get hi,List.getElem?_replicate,if_pos hi];rfl
  · rw[List.getElem?_eq_none (by simp;omega),List.getElem?_eq_none (by rw[dRow_len];omega)]
 rw[hr0] at b2;rw[← hL] at b1;clear hW0 hr0 hmk
 refine wpIn_rangeFunc_ownH rfl (by omega) (gf:=242) (lb:=#[.pointer (some ⟨w.heap.size+1+1+1,0,none⟩)]) rfl trivial (enters_of Tryz.func242 (by kernel_rfl) rfl)
  (hits_stops 7 (by omega) (w.heap.size+1+1+1) (pc:=pc) (sc:=sc) (tc:=tc) HOK.out HF.out HV.out HT.out hbel b4) kpL_t (kpL_b (by omega)) (Below.refl _ _) (fun _=>rfl)
  (DI w w.heap.size v L)
  (fun _ _ _=>False)
  (DI_own w _ v L (Nat.le_refl _) (by omega))
  (fun _ _ _ _ _ hs _ _=>hs)
  ⟨b3,⟨b2,b1⟩,hbel⟩
  (fun x a' W=>a'={ tmps:=#[.agg #[.slice PA v.pars.length pc,.slice SA sn sc,.int .i64 v.s0,.int .i64 v.s1,.int .i64 v.s2,.slice TA tn tc],.pointer (some ⟨w.heap.size,0,none⟩),.slice none 0 0,.pointer (some ⟨w.heap.size+1+1,0,none⟩),.int .i64 (x.1.1:Int),.int .i64 (x.1.2:Int),.pointer (some ⟨w.heap.size,0,none⟩),.pointer (some ⟨w.heap.size,0,none⟩),.slice PA v.pars.length pc,
   .int .i64 (v.pars.length:Int),.slice (some ⟨w.heap.size+1,0,none⟩) v.pars.length v.pars.length,.agg #[.slice PA v.pars.length pc,.slice SA sn sc,.int .i64 v.s0,.int .i64 v.s1,.int .i64 v.s2,.slice TA tn tc],.func (.func 242) #[] #[.pointer (some ⟨w.heap.size+1+1+1,0,none⟩)],
   .int .i64 (x.1.1:Int),.int .i64 (x.1.2:Int),undef,undef,undef,undef,undef,undef,undef,undef,undef,undef,undef,undef,undef,undef],defers:=[] })
  (fun x a' _ X Y row hs _ _=>hs)
  ?assign ?body ?done ?stop
 case assign =>
  rintro l pre x W K hI hK;dsimp only[encH]
  gi_wp2
  exact hK _ _ ((KeepsOthers.refl _).from _) ⟨Below.refl _ W,fun v hv=>hv⟩ hI rfl
 case body =>
  rintro l pre x a' W hl ⟨r,hr⟩ ⟨hb3,⟨hb2,hb1⟩,hB⟩ rfl hlt;obtain⟨⟨k,q⟩,hk,hq⟩:=x;simp only at hk hq ⊢;obtain⟨b,o,x,hA,hb,hx,e0,e1,e2,e3⟩:=((HV.out.below hB).sls).atS (i:=k) (by rw[←(HV.out.below hB).sls.len];exact hk)
  have hrow:W.cell? ⟨w.heap.size+1,q,none⟩=some (.int .i64 (dSum v.sls (q:Int) (pre.map hitOf))):=by
   rw[hb2.cell q,intsA_get,dRow_get hq];rfl
  have hfr:W.frozen? ⟨w.heap.size+1,q,none⟩=false:=hb2.frozen q;have hbd:=dSum_bd (sls:=v.sls) (fun k s hs=>by have:=(HOK.out.slide hs).2.2.1;omega) (q:Int) (pre.map hitOf);have hrate:=(HOK.out.slide hx).2.2.1;rw[List.length_map] at hbd;have hw1:IntKind.i64.wrap (dSum v.sls (q:Int) (pre.map hitOf)+x.rate)=dSum v.sls (q:Int) (pre.map hitOf)+x.rate:=wi (by omega);have hset:=dRow_snoc (pre:=pre.map hitOf) (q:=q) hx;have hc3:=hb3.cell;have hc1:=hb1.cell 1;rw[hL] at hc1;simp at hc1
  have hks:(k:Int)<(sn:Int):=by have:=HV.out.sls.len;omega
  have hk0:(0:Int)≤(k:Int):=by omega
  have hq0:(0:Int)≤(q:Int):=by omega
  have hqn:(q:Int)<(v.pars.length:Int):=by omega
  have hne:¬(w.heap.size+1=w.heap.size+1+1):=by omega
  have HB1:=hid hb1;have HB2:=hid hb2;have HB3:=hid hb3;have HB:=hid hB;have HX:=hid hx;have HSET:=hid hset;generalize hd:dSum v.sls (q:Int) (pre.map hitOf)=d at hrow hbd hw1;have HD:=hid hd;subst hA;clear hb1 hb2 hb3 hB hx hset hd
  gi_wp2
  refine wpIn_region_round_store (F:=Fence.wide) (ops:=[_,_,_,_,_,_,_,_,_,_,_,_,_]) (st:=_) rfl (by kernel_rfl) (by kernel_rfl) (by kernel_rfl) (by kernel_rfl) (by kernel_rfl) (by kernel_rfl) ?_
  repeat (gi_big_quiet_step (fail))
  refine wpQuietIn_nil ?_;intro m K hK
  first | gi_big_move | gi_big_op
  refine hK _ _ ?_;have hbf:Below w.heap.size W ((W.drewN m).setCell ⟨w.heap.size+1,q,none⟩ (.int .i64 (d+x.rate))):=(below_drewN (Below.refl _ W) m).setCell (by simp) _;refine⟨((show KeepsOthers W (W.drewN m) from⟨Nat.le_refl _,fun _ _ h _=>h⟩).trans (KeepsOthers.setCell _ _ _)).from _,⟨hbf,fun cs hv=>(Blk.drewN hv m).far (by simp;omega) _⟩,(show Blk _ _ _ _ from(Blk.drewN (show Blk _ _ _ _ from HB3.out) m).far (by simp) _),⟨?_,(Blk.drewN HB1.out m).far (by simp) _⟩,HB.out.trans hbf⟩;have h2:=(Blk.drewN HB2.out m).set_ q (.int .i64 (d+x.rate));rw[intsA_set,← HD.out,← HSET.out] at h2;rw[List.map_append,← HD.out];exact h2
 case done =>
  rintro D ys W hD hys ⟨hb3,⟨hb2,hb1⟩,hB⟩ hK;have c3:=hb3.cell;have HB2:=hid hb2;have HB:=hid hB;have HK:=hid hK;have HYS:=hid hys;clear hb2 hB hb1 hb3 hys b1 b2 b4
  gi_wp2
  refine⟨by simp,.inl ?_⟩;refine⟨_,_,rfl,run_takeDeferred hK,?_⟩;have gD:=grownBy_putObj' W D (.deferred none);have p2:=Blk.grown HB2.out gD (by simp;omega);have hfin:Below w.heap.size w (W.putObj D (.deferred none)):=HB.out.trans (belowK_b (w:=w) (Nat.le_refl _) W D _ _ (by omega) HK.out rfl rfl)
  have hds:dRow v (ys.map hitOf)=dangs v tr:=by rw[HYS.out];exact dSum_all HOK.out HF.out.1
  rw[hds] at p2;refine⟨.slice (some ⟨w.heap.size+1,0,none⟩) v.pars.length v.pars.length,?_,⟨w.heap.size+1,rfl,by omega,p2,hfin⟩⟩;simp[results,Tryz.f189,go_sem]
 case stop =>
  rintro D c pre W _ _ h _;exact h.elim
theorem dangers_c {v:Vly}{tr:List Int}{PA SA TA:Option Addr}{pn pc sn sc tn tc:Nat}{w:World}(hok:VOk v)(hfit:Fits v tr)(hV:RdV w PA pn SA sn v)(hT:Rd enc1 1 w TA tn tr) :
 Calls Tryz.prog 189 #[.agg #[.slice PA pn pc,.slice SA sn sc,.int .i64 v.s0,.int .i64 v.s1,.int .i64 v.s2,.slice TA tn tc]] w fun e w'=>∃ g,e=.returned (.slice (some ⟨g,0,none⟩) pn pn) ∧
  w.heap.size≤g∧Blk w' g 3 (intsA (dangs v tr))∧Below w.heap.size w w':=callsIn_wide.1 (dangers_in hok hfit hV hT)
end Go.Proofs.YtkhcliibilkefaaGreatDoor
namespace Go.Proofs.YtkhcliibilkefaaGreatDoor
open Lib (hid)
open Go.RowKit Go.Proofs
theorem own_ge {w:World}{base:Nat}{e:TypeId}{size n:Nat}{v:Value}{xs:List Value}(h:w.ownsRow base e size v n xs){g:Nat}(hg:g<base):some g≠v.ownBlock:=by
 intro e
 rcases h.2 with ⟨rfl,_⟩ | ⟨g',cap,cur,rfl,hb,_⟩
 · simp[Value.ownBlock] at e
 · simp[Value.ownBlock] at e;omega
theorem own_ty {W:World}{base:Nat}{e:TypeId}{size n:Nat}{v:Value}{xs:List Value}(h:W.ownsRow base e size v n xs){g:Nat}(hg:v.ownBlock=some g):∃ cur,W.heap[g]?=some (.cells cur e (0,0)):=by
 rcases h.2 with ⟨rfl,_⟩ | ⟨g',cap,cur,rfl,_,hb,_⟩
 · simp[Value.ownBlock] at hg
 · simp[Value.ownBlock] at hg;subst hg;exact⟨cur,hb⟩
theorem own_own_ne {W:World}{base base':Nat}{e e':TypeId}{size size' n n':Nat}{v v':Value}{xs xs':List Value}(h:W.ownsRow base e size v n xs)(h':W.ownsRow base' e' size' v' n' xs')(hne:e≠e'){g:Nat}(hg:v.ownBlock=some g):v'.ownBlock≠some g:=by
 intro hg';obtain⟨c1,h1⟩:=own_ty h hg;obtain⟨c2,h2⟩:=own_ty h' hg'
 rw[h1] at h2;injection h2 with h2;injection h2 with _ h2;exact hne h2
theorem own_blk_ne {W:World}{base:Nat}{e t:TypeId}{size n g:Nat}{v:Value}{xs:List Value}{cs:Array Value}(h:W.ownsRow base e size v n xs)(hb:Blk W g t cs)(hne:e≠t):v.ownBlock≠some g:=by
 intro hg;obtain⟨c1,h1⟩:=own_ty h hg
 rw[show W.heap[g]?=_ from hb] at h1;injection h1 with h1;injection h1 with _ h2;exact hne h2.symm
structure Fr (E:Nat→Prop) (w w':World):Prop where
 os:w'.os=w.os
 tape:w'.tape=w.tape
 output:w'.output=w.output
 size:w.heap.size≤w'.heap.size
 block:∀ g,g<w.heap.size→¬ E g→w'.heap[g]?=w.heap[g]?
section
variable {E:Nat→Prop} {a b c:World}
theorem Fr.refl (E:Nat→Prop)(w:World):Fr E w w:=⟨rfl,rfl,rfl,Nat.le_refl _,fun _ _ _=>rfl⟩
theorem Fr.trans (h:Fr E a b)(k:Fr E b c):Fr E a c:=⟨k.os.trans h.os,k.tape.trans h.tape,k.output.trans h.output,Nat.le_trans h.size k.size,fun g hg hE=>(k.block g (Nat.lt_of_lt_of_le hg h.size) hE).trans (h.block g hg hE)⟩
theorem Fr.wide {E':Nat→Prop}(h:Fr E a b)(hw:∀ g,g<a.heap.size→E g→E' g):Fr E' a b:=⟨h.os,h.tape,h.output,h.size,fun g hg hE=>h.block g hg fun he=>hE (hw g hg he)⟩
theorem Fr.of_below (h:Below a.heap.size a b)(E:Nat→Prop):Fr E a b:=⟨h.os,h.tape,h.output,h.size,fun g hg _=>h.block g hg⟩
theorem Fr.of_grown {row:Option Nat}(h:a.grownBy b row)(hE:∀ g,row=some g→g<a.heap.size→E g):Fr E a b :=
 ⟨h.os,h.tape,h.output,h.size,fun g hg hn=>h.block g hg fun e=>hn (hE g e.symm hg)⟩
theorem Fr.below {n₀:Nat}(h:Fr E a b)(hn:n₀≤a.heap.size)(hE:∀ g,E g→n₀≤g):Below n₀ a b :=
 ⟨h.os,h.tape,h.output,h.size,fun g hg=>h.block g (by omega) fun e=>by have:=hE g e;omega⟩
theorem Fr.setCell (h:Fr E a b){g:Nat}(hg:E g∨a.heap.size≤g)(v:Value):Fr E a (b.setCell ⟨g,0,none⟩ v) :=
 ⟨h.os,h.tape,h.output,by simpa[World.setCell] using h.size,fun i hi hn=>(Below.heap_setCell b ⟨g,0,none⟩ v i (by
  rintro rfl
  rcases hg with hg | hg
  · exact hn hg
  · omega)).trans (h.block i hi hn)⟩
theorem Fr.step {row:Option Nat}(h:Fr E a b)(hg:b.grownBy c row)(hE:∀ g,row=some g→E g∨a.heap.size≤g):Fr E a c :=
 ⟨hg.os.trans h.os,hg.tape.trans h.tape,hg.output.trans h.output,Nat.le_trans h.size hg.size,fun g hlt hn=>(hg.block g (Nat.lt_of_lt_of_le hlt h.size) fun e=>by
  rcases hE g e.symm with h1 | h1
  · exact hn h1
  · omega).trans (h.block g hlt hn)⟩
theorem Fr.kept (h:Fr E a b){g:Nat}{o:Obj}(hg:a.heap[g]?=some o)(hE:¬ E g):b.heap[g]?=some o:=(h.block g (Array.getElem?_eq_some_iff.1 hg).1 hE).trans hg
theorem Fr.boxed (h:Fr E a b){g:Nat}{t:TypeId}{v:Value}(hg:Boxed a g t v)(hE:¬ E g):Boxed b g t v:=h.kept hg hE
theorem Fr.row (h:Fr E a b){base:Nat}{e:TypeId}{size n:Nat}{v:Value}{xs:List Value}(hr:a.ownsRow base e size v n xs)(hE:∀ g,v.ownBlock=some g→¬ E g):b.ownsRow base e size v n xs:=by
 refine⟨hr.1,?_⟩
 rcases hr.2 with h0 | ⟨g,cap,cur,hv,hbase,hg,hrest⟩
 · exact .inl h0
 · exact .inr ⟨g,cap,cur,hv,hbase,h.kept hg (hE g (by rw[hv];rfl)),hrest⟩
end
theorem Fr.comp {E E2:Nat→Prop}{a b c:World}(h:Fr E a b)(k:Fr E2 b c)(hE:∀ g,E2 g→E g∨a.heap.size≤g):Fr E a c :=
 ⟨k.os.trans h.os,k.tape.trans h.tape,k.output.trans h.output,Nat.le_trans h.size k.size,fun g hlt hn=>(k.block g (Nat.lt_of_lt_of_le hlt h.size) fun e=>by
  rcases hE g e with h1 | h1
  · exact hn h1
  · omega).trans (h.block g hlt hn)⟩
theorem Fr.setAt {E:Nat→Prop}{a b:World}(h:Fr E a b){p:Addr}(hg:E p.block∨a.heap.size≤p.block)(v:Value):Fr E a (b.setCell p v) :=
 ⟨h.os,h.tape,h.output,by simpa[World.setCell] using h.size,fun i hi hn=>(Below.heap_setCell b p v i (by
  rintro rfl
  rcases hg with hg | hg
  · exact hn hg
  · omega)).trans (h.block i hi hn)⟩
theorem Fr.blk {E:Nat→Prop}{a b:World}(h:Fr E a b){g:Nat}{t:TypeId}{cs:Array Value}(hg:Blk a g t cs)(hE:¬ E g):Blk b g t cs:=h.kept hg hE
theorem Fr.rd {E:Nat→Prop}{a b:World}(h:Fr E a b){α:Type}{enc:α→List Value}{k:Nat}{A:Option Addr}{n:Nat}{l:List α}(hr:Rd enc k a A n l)(hE:∀ ad,A=some ad→¬ E ad.block):Rd enc k b A n l :=
 ⟨hr.1,fun hn=>by
  obtain⟨bb,o,e,hlt,hc⟩:=hr.2 hn;refine⟨bb,o,e,Nat.lt_of_lt_of_le hlt h.size,fun i x hx j v hv=>?_⟩;rw[World.cell?_of_block (w:=a) (a:=⟨bb,_,none⟩) (h.block bb hlt (hE _ e))]
  exact hc i x hx j v hv⟩
theorem own_pre {w:World}{base:Nat}{e:TypeId}{v v':Value}{n:Nat}{xs:List Value}{u:Value}{w2:World}(h:w.ownsRow base e 1 v n xs)(h':w.ownsRow base e 1 v' (n+1) (xs++[u]))(hv:v'.ownBlock=v.ownBlock)(h2:w2.ownsRow base e 1 v' (n+1) (xs++[u])):w2.ownsRow base e 1 v n xs:=by
 refine⟨h.1,?_⟩
 rcases h.2 with h0 | ⟨g,cap,cur,rfl,hb,hg,hnc,hcm,hcs,htk⟩
 · exact .inl h0
 · rcases h'.2 with ⟨rfl,h0⟩ | ⟨g',cap',cur',rfl,hb',hg',hnc',hcm',hcs',htk'⟩
   · omega
   · simp only[Value.ownBlock,Option.some.injEq] at hv
     subst hv;rw[hg] at hg';cases hg'
     rcases h2.2 with ⟨h0,_⟩ | ⟨g2,cap2,cur2,he2,hb2,hg2,hnc2,hcm2,hcs2,htk2⟩
     · cases h0
     · simp only[Value.slice.injEq,Option.some.injEq,Addr.mk.injEq,and_true,true_and] at he2
       obtain⟨rfl,rfl⟩:=he2;refine .inr ⟨g',cap,cur2,rfl,hb,hg2,hnc,hcm,by omega,?_⟩;have hxl:xs.length=n * 1:=h.1
       have:cur2.toList.take (n * 1)=(cur2.toList.take ((n+1) * 1)).take (n * 1):=by rw[List.take_take];congr 1;omega
       rw[this,htk2,← hxl,List.take_left]
theorem own_cut {w:World}{base:Nat}{e:TypeId}{g cap n:Nat}{xs:List Value}{u:Value}(h:w.ownsRow base e 1 (.slice (some ⟨g,0,none⟩) (n+1) cap) (n+1) (xs++[u]))(hx:xs.length=n):w.ownsRow base e 1 (.slice (some ⟨g,0,none⟩) n cap) n xs:=by
 rcases h.2 with ⟨h0,_⟩ | ⟨g2,cap2,cur2,he2,hb2,hg2,hnc2,hcm2,hcs2,htk2⟩
 · cases h0
 · simp only[Value.slice.injEq,Option.some.injEq,Addr.mk.injEq,and_true,true_and] at he2
   obtain⟨rfl,rfl⟩:=he2;refine⟨by omega,.inr ⟨g,cap,cur2,rfl,hb2,hg2,by omega,hcm2,hcs2,?_⟩⟩
   have:cur2.toList.take (n * 1)=(cur2.toList.take ((n+1) * 1)).take (n * 1):=by rw[List.take_take];congr 1;omega
   rw[this,htk2,← hx,Nat.mul_one,List.take_left]
theorem run_app1 {P:Program}(w:World)(base:Nat)(t ty e:TypeId)(i:TypeInfo)(z:Value)(ht:P.underlying t=some (.slice e))(hi:P.info? e=some i)(hz:i.zero=some z)(hsize:i.size=1)(hby:i.bytes=8)(hzs:z.cells.size=1)
 (v:Value) (n:Nat) (xs:List Value) (hown:w.ownsRow base e 1 v n xs) (a:Addr) (c:Nat) (u:Value) (hu:w.cell? a=some u) (h1:u.oneCell'=true) (hn:n≤1000) (hbase:base≤w.heap.size) :
 ∃ v' w',(Builtin.append_ #[t,t] ty #[v,.slice (some a) 1 c]).run P w=.ok v' w'∧w'.ownsRow base e 1 v' (n+1) (xs++[u])∧w.grownBy w' v.ownBlock∧(v'.ownBlock=v.ownBlock∨v'.ownBlock=some w.heap.size)∧w'.ownsRow base e 1 v n xs:=by
 have hnews:∀ j x,[u][j]?=some x→w.cell? (a.add j)=some x:=by
  intro j x hx
  have hj:j=0:=by have:=(List.getElem?_eq_some_iff.1 hx).1;simp at this;exact this
  subst hj;simp at hx;subst hx
  simpa[Addr.add] using hu
 have ho:∀ x∈[u],x.oneCell'=true:=by intro x hx;simp at hx;subst hx;exact h1
 obtain⟨v',w',hr,h2,h3,_,h5⟩:=run_append_own_at (P:=P) w base t ty e i z 1 8 ht hi hz hsize hby hzs (by omega) v n xs hown a 1 c [u] rfl hnews ho (by unfold maxLen;omega) (by omega) hbase;refine⟨v',w',hr,h2,h3,h5,?_⟩
 rcases hown.2 with ⟨rfl,rfl⟩ | ⟨g,cap,cur,rfl,hbg,hg,hnc,hcm,hcs,htake⟩
 · have:xs=[]:=List.eq_nil_of_length_eq_zero (by simpa using hown.1)
   subst this;exact World.ownsRow_nil _ _ _ _
 · by_cases hroom:n+1≤cap
   · have hfit:n * i.size+[u].length≤cur.size:=by rw[hcs,hsize];simp;omega
     have hr':=run_append_room (P:=P) w t ty e i ht hi g n cap cur hg a 1 c [u] (by rw[hsize];rfl) hnews ho hroom hfit;rw[hr'] at hr;cases hr;exact own_cut h2 (by simpa using hown.1)
   · have holds:∀ j x,xs[j]?=some x→w.cell? ((⟨g,0,none⟩:Addr).add j)=some x:=hown.cells (g:=g) rfl
     have hr':=run_append_grow (P:=P) w t ty e i z ht hi hz ⟨g,0,none⟩ n cap xs (by rw[hsize];exact hown.1) holds a 1 c [u] (by rw[hsize];rfl) hnews (by omega) (by omega) (growslice_fits (by omega) (by rw[hby];omega));rw[hr'] at hr;cases hr;exact own_mono hown (((Below.refl w.heap.size w).drew).alloc (Nat.le_refl _) _)
theorem step_append_run {P:Program}{w:World}{ops:Array Oper}{o:Oper}{a:Act}{K:Act→World→Prop}{Q:Exit→Act→World→Prop}{E:Prop}(hgd:o.guard=none)(s x:Operand)(t:TypeId)
 (ho:o.op=.call { callee:=.builtin .append,args:=#[s,x],argTypes:=#[t,t] }) (vs vx v':Value) (w':World) (hs:a.eval s=vs) (hx:a.eval x=vx) (hrun:(Builtin.append_ #[t,t] o.type #[vs,vx]).run P w=.ok v' w') (h:K (a.put o.dst v') w') :
 if Region.wanted o (yielded ops a.tmps)=true then Oper.wp P o a w K Q else E:=by
 have hw:Region.wanted o (yielded ops a.tmps)=true:=by simp[Region.wanted,hgd]
 rw[if_pos hw];unfold Oper.wp;simp[execOp,ho,resolve,invoke,builtin,hs,hx,hrun,Result.andThen];exact h
theorem Fr.keeps {E:Nat→Prop}{B:Nat}{W w1:World}(h:Fr E W w1)(hE:∀ g o,E g→B≤g→W.heap[g]?=some o→o.isCells=true):KeepsFrom B W w1 :=
 ⟨h.size,fun k o hk ho hc=>h.kept ho fun he=>by rw[hE k o he hk ho] at hc;cases hc⟩
def SeenC (way:List Int)(k:Nat)(cs:Array Value):Prop:=cs.size=12∧∀ j:Nat,j<12→cs[j]?=some (.bool (decide ((j:Int)∈way.take k)))
theorem SeenC.step {way:List Int}{k m:Nat}{cs:Array Value}(h:SeenC way k cs)(hx:way[k]?=some (m:Int))(hm:m<12):SeenC way (k+1) (cs.setIfInBounds m (.bool true)):=by
 refine⟨by simpa using h.1,fun j hj=>?_⟩;rw[Array.getElem?_setIfInBounds,List.take_add_one,hx]
 by_cases hmj:m=j
 · subst hmj
   rw[if_pos rfl,if_pos (by rw[h.1];exact hm)];simp
 · rw[if_neg hmj,h.2 j hj]
   have:((j:Int)∈way.take k++(some (m:Int)).toList)↔((j:Int)∈way.take k):=by
    simp;omega
   rw[decide_eq_decide.2 this]
theorem sliOk_way {pn:Nat}{s:Sli}(h:¬ wayTo pn s.way s.way.length):sliOk pn s=false:=by
 have:wayOk pn s.way=false:=by
  rw[← Bool.not_eq_true,wayOk_iff];exact h
 simp[sliOk,this]
theorem blk3 (w:World)(X Y Z:Array Value)(a b c:TypeId):Blk (((w.alloc (.cells X a)).alloc (.cells Y b)).alloc (.cells Z c)) (w.heap.size+1+1) c Z ∧
 Blk (((w.alloc (.cells X a)).alloc (.cells Y b)).alloc (.cells Z c)) w.heap.size a X∧Blk (((w.alloc (.cells X a)).alloc (.cells Y b)).alloc (.cells Z c)) (w.heap.size+1) b Y ∧
 Below w.heap.size w (((w.alloc (.cells X a)).alloc (.cells Y b)).alloc (.cells Z c)):=by
 have h1:=Blk.new ((w.alloc (.cells X a)).alloc (.cells Y b)) c Z;have h2:=((Blk.new w a X).alloc (.cells Y b)).alloc (.cells Z c);have h3:=(Blk.new (w.alloc (.cells X a)) b Y).alloc (.cells Z c);simp only[World.size_alloc] at h1 h3;exact⟨h1,h2,h3,(((Below.refl _ w).alloc (Nat.le_refl _) _).alloc (by simp) _).alloc (by simp;omega) _⟩
theorem SeenC.zero (way:List Int):SeenC way 0 #[.bool false,.bool false,.bool false,.bool false,.bool false,.bool false,.bool false,.bool false,.bool false,.bool false,.bool false,.bool false]:=by
 refine⟨rfl,fun j hj=>?_⟩;simp only[List.take_zero,List.not_mem_nil,decide_false]
 match j,hj with
 | 0,_ | 1,_ | 2,_ | 3,_ | 4,_ | 5,_ | 6,_ | 7,_ | 8,_ | 9,_ | 10,_ | 11,_=>rfl
theorem sliOk_rest {pn:Nat}{s:Sli}(h:wayTo pn s.way s.way.length):sliOk pn s=(decide (1≤s.way.length) && inB s.rate 1 1000 && upB s.lo s.hi s.way.length):=by
 rw[sliOk,wayOk_iff.2 h,Bool.true_and]
theorem slide_c (PA SA:Option Addr)(pn pc sn sc:Nat)(s0 s1 s2:Int)(s:Sli)(w:World)(h:Rd enc1 1 w s.A s.n s.way)(hn:s.n≤maxLen)(hpn:pn≤12) :
 Calls Tryz.prog 184 #[.agg #[.slice PA pn pc,.slice SA sn sc,.int .i64 s0,.int .i64 s1,.int .i64 s2],.agg #[.slice s.A s.n s.c,.int .i64 s.rate,.int .i64 s.lo,.int .i64 s.hi]] w
  fun e w'=>e=.returned (.bool (sliOk pn s))∧Below w.heap.size w w':=by
 obtain⟨A,n,c,way,rate,lo,hi⟩:=s;have HW:=hid (sliOk_way (pn:=pn) (s:=⟨A,n,c,way,rate,lo,hi⟩));have HS:=hid (sliOk_rest (pn:=pn) (s:=⟨A,n,c,way,rate,lo,hi⟩));obtain⟨R,hR⟩:∃ R,R=sliOk pn ⟨A,n,c,way,rate,lo,hi⟩:=⟨_,rfl⟩;rw[← hR] at HW HS ⊢;clear hR;simp only at h hn HW HS ⊢;unfold maxLen at hn;have HL:=hid h.len;have H0:=hid h;clear h
 go_enter Tryz.func184,Tryz.ntmps184
 go_wp2_with fail
 go_loopw [7,11] (fun _ i wr=>∃(k:Nat) (cs:Array Value),k≤n∧i=.int .i64 k∧wayTo pn way k∧SeenC way k cs∧Blk wr (w.heap.size+1+1) 291 cs ∧
  Blk wr w.heap.size 39 #[.slice PA pn pc,.slice SA sn sc,.int .i64 s0,.int .i64 s1,.int .i64 s2]∧Blk wr (w.heap.size+1) 179 #[.slice A n c,.int .i64 rate,.int .i64 lo,.int .i64 hi]∧Below w.heap.size w wr)
  (fun _ i _=>n - (intOf i).toNat)
 case atStart =>
  obtain⟨h1,h2,h3,h4⟩:=blk3 w _ _ _ _ _ _;exact⟨0,_,Nat.zero_le _,rfl,⟨fun p hp=>by simp at hp,by simp⟩,SeenC.zero way,h1,h2,h3,h4⟩
 case round =>
  obtain⟨k,cs,hk,rfl,hto,hsc,hb1,hb2,hb3,hbl⟩:=hrel
  by_cases hlt:k<n
  · obtain⟨b,o,x,rfl,hblt,hx,hcx⟩:=(H0.out.below hbl).at1 hlt
    have hb2c:=hb2.cell 0;have hb3c:=hb3.cell 0;simp at hb2c hb3c;have HB1:=hid hb1;have HB2:=hid hb2;have HB3:=hid hb3;have HBL:=hid hbl;have HX:=hid hx;have HTO:=hid hto;have HSC:=hid hsc;clear hb1 hb2 hb3 hbl hx hto hsc;have hw1:IntKind.i64.wrap ((pn:Int) - 1)=(pn:Int) - 1:=wi (by omega)
    have hi1:(k:Int)<(n:Int):=by omega
    have hi0:(0:Int)≤(k:Int):=by omega
    cases hin:inB x 0 ((pn:Int) - 1)
    · have HN:=hid hin
      go_wp2_with (go_at_call 139;refine(within_c _ _ _ _).mono ?_;rintro e w' ⟨rfl,rfl⟩;simp only[HN.out])
      go_ret
      exact⟨ret_bool (HW.out fun hto=>by
       have:=((wayTo_succ HX.out).1 (wayTo_mono (by rw[HL.out];omega) hto)).2.1
       rw[inB_not] at hin;omega).symm,HBL.out⟩
    · rw[inB_iff] at hin
      obtain⟨m,rfl⟩:∃ m:Nat,x=(m:Int):=⟨x.toNat,by omega⟩
      have hm:m<12:=by omega
      have HN:=hid (inB_iff.2 hin);have hc1:=HB1.out.cell m;rw[HSC.out.2 m hm] at hc1;have hf1:=HB1.out.frozen m
      have hm2:(m:Int)<12:=by omega
      have hm3:(0:Int)≤(m:Int):=by omega
      by_cases hmem:(m:Int)∈way.take k
      · rw[decide_eq_true hmem] at hc1
        have HM:=hid hmem;clear hmem hin
        go_wp2_with (go_at_call 139;refine(within_c _ _ _ _).mono ?_;rintro e w' ⟨rfl,rfl⟩;simp only[HN.out])
        go_ret
        exact⟨ret_bool (HW.out fun hto=>((wayTo_succ HX.out).1 (wayTo_mono (by rw[HL.out];omega) hto)).2.2 HM.out).symm,HBL.out⟩
      · rw[decide_eq_false hmem] at hc1
        have HM:=hid hmem;have HI:=hid hin;clear hmem hin
        go_wp2_with (go_at_call 139;refine(within_c _ _ _ _).mono ?_;rintro e w' ⟨rfl,rfl⟩;simp only[HN.out])
        go_roundw
        case rel =>
         exact⟨k+1,_,by omega,by go_num,(wayTo_succ HX.out).2 ⟨HTO.out,by have:=HI.out;omega,HM.out⟩,HSC.out.step HX.out hm,HB1.out.set_ m _,HB2.out.far (by simp;omega) _,HB3.out.far (by simp) _,HBL.out.setCell (by simp;omega) _⟩
        case measure=>simp[intOf];omega
  · obtain rfl:k=n:=by omega
    have hto':wayTo pn way way.length:=by rw[HL.out];exact hto
    have hRR:=HS.out hto';rw[HL.out] at hRR;have c0:=hb3.cell 0;have c1:=hb3.cell 1;have c2:=hb3.cell 2;have c3:=hb3.cell 3;simp at c0 c1 c2 c3;have HBL:=hid hbl;clear hb1 hb2 hb3 hbl hsc hto hto'
    by_cases h1:1≤k
    · rw[decide_eq_true h1,Bool.true_and] at hRR
      cases hr:inB rate 1 1000
      · rw[hr] at hRR
        have HR:=hid hRR;clear hRR
        go_wp2_with (go_at_call 139;refine(within_c _ _ _ _).mono ?_;rintro e w' ⟨rfl,rfl⟩;simp only[hr])
        go_ret
        exact⟨ret_bool HR.out.symm,HBL.out⟩
      · rw[hr,Bool.true_and] at hRR
        have HR:=hid hRR;clear hRR
        go_wp2_with (first | (go_at_call 139;refine(within_c _ _ _ _).mono ?_;rintro e w' ⟨rfl,rfl⟩;simp only[hr]) | (go_at_call 140;refine(up_c _ _ _ _).mono ?_;rintro e w' ⟨rfl,hb⟩))
        go_ret
        exact⟨ret_bool HR.out.symm,HBL.out.trans (hb.mono HBL.out.size)⟩
    · rw[decide_eq_false h1,Bool.false_and] at hRR
      have HR:=hid hRR;clear hRR
      obtain rfl:k=0:=by omega
      go_wp2_with fail
      go_ret
      exact⟨ret_bool HR.out.symm,HBL.out⟩
section
variable {p:Par→Bool}
theorem allPar_1 (x:Par)(B:Nat)(w:World)(_hBl:B<w.heap.size)(hB:w.cell? ⟨B,0,none⟩=some (.func (.func 182) #[] #[]))
 (hp:∀ W:World,Below w.heap.size w W→Calls Tryz.prog 182 #[.agg #[.int .i64 x.worth,.int .i64 x.price,.int .i64 x.people,.bool x.ins]] W fun e w'=>e=.returned (.bool (p x))∧Below W.heap.size W w') :
 Calls Tryz.prog 215 #[.agg #[.int .i64 x.worth,.int .i64 x.price,.int .i64 x.people,.bool x.ins],.pointer (some ⟨B,0,none⟩)] w fun e w'=>e=.returned (.bool (!p x))∧Below w.heap.size w w':=by
 have hp':=hp (w.alloc (.cells #[.int .i64 x.worth,.int .i64 x.price,.int .i64 x.people,.bool x.ins] 174)) ((Below.refl w.heap.size w).alloc (Nat.le_refl _) (.cells #[.int .i64 x.worth,.int .i64 x.price,.int .i64 x.people,.bool x.ins] 174));have HP:=hid hp';clear hp hp'
 go_enter Tryz.func215,Tryz.ntmps215
 go_wp2_with (go_at_call 182;refine(HP.out).mono ?_;rintro e w' ⟨rfl,hb⟩)
 go_ret
 exact⟨rfl,((Below.refl _ _).alloc (Nat.le_refl _) _).trans (hb.mono (by simp))⟩
theorem idxPar_c {l:List (Par)}{A:Option Addr}{n c:Nat}{B:Nat}(w:World)(h:Rd encP 4 w A n l)(hn:n≤maxLen)(hBl:B<w.heap.size)
 (hB:w.cell? ⟨B,0,none⟩=some (.func (.func 182) #[] #[]))
 (hp:∀(i:Nat) (x:Par) (W:World),l[i]?=some x→Below w.heap.size w W→Calls Tryz.prog 182 #[.agg #[.int .i64 x.worth,.int .i64 x.price,.int .i64 x.people,.bool x.ins]] W fun e w'=>e=.returned (.bool (p x))∧Below W.heap.size W w') :
 Calls Tryz.prog 240 #[.slice A n c,.func (.func 215) #[] #[.pointer (some ⟨B,0,none⟩)]] w
  fun e w'=>(∃ r:Int,e=.returned (.int .i64 r)∧(!decide (r≥0))=allB p l)∧Below w.heap.size w w':=by
 unfold maxLen at hn;have HP:=hid hp;clear hp
 go_enter Tryz.func240,Tryz.ntmps240
 go_wp2_with fail
 go_loopw [5,8] (fun _ i wr=>∃ k:Nat,k≤n∧i=.int .i64 k∧Below w.heap.size w wr∧∀(j:Nat) (x:Par),j<k→l[j]?=some x→p x=true) (fun _ i _=>n - (intOf i).toNat)
 case atStart=>exact⟨0,Nat.zero_le _,rfl,Below.refl _ _,fun j x hj=>absurd hj (by omega)⟩
 case round =>
  obtain⟨k,hk,rfl,hb,hall⟩:=hrel;have HA:=hid hall;clear hall
  by_cases hlt:k<n
  · obtain⟨b,o,x,rfl,hbl,hx,h0,h1,h2,h3⟩:=(h.below hb).atP hlt
    have hx1:=fun W (hW:Below wr.heap.size wr W)=>HP.out k x W hx (hb.trans (hW.mono hb.size));have HX1:=hid hx1;clear hx1;have HX:=hid hx;clear hx;have hB':=(hb.cell (p:=⟨B,0,none⟩) hBl).trans hB;have hBl':B<wr.heap.size:=Nat.lt_of_lt_of_le hBl hb.size;cases hm:p x
    all_goals
     have HM:=hid hm;clear hm
     go_wp2_with (go_at_call 215;refine(allPar_1 _ _ _ hBl' hB' HX1.out).mono ?_;rintro e w' ⟨rfl,hb'⟩;simp only[HM.out])
    · go_ret
      exact⟨⟨k,rfl,by rw[(allB_not (p:=p) (l:=l)).2 ⟨k,x,HX.out,HM.out⟩];simp⟩,hb.trans (hb'.mono hb.size)⟩
    · go_roundw
      case rel=>exact⟨k+1,by omega,by go_num,hb.trans (hb'.mono hb.size),fun j y hj hy=>by
       rcases Nat.lt_or_ge j k with hjk | hjk
       · exact HA.out j y hjk hy
       · obtain rfl:j=k:=by omega
         rw[HX.out] at hy;cases hy;exact HM.out⟩
      case measure=>simp[intOf];omega
  · go_wp2
    go_ret
    refine⟨⟨-1,rfl,?_⟩,hb⟩;rw[(allB_iff (p:=p) (l:=l)).2 fun i x hx=>HA.out i x (by have:=(List.getElem?_eq_some_iff.1 hx).1;have:=h.len;omega) hx];simp
theorem containsPar_c {l:List (Par)}{A:Option Addr}{n c:Nat}{B:Nat}(w:World)(h:Rd encP 4 w A n l)(hn:n≤maxLen)(hBl:B<w.heap.size)
 (hB:w.cell? ⟨B,0,none⟩=some (.func (.func 182) #[] #[]))
 (hp:∀(i:Nat) (x:Par) (W:World),l[i]?=some x→Below w.heap.size w W→Calls Tryz.prog 182 #[.agg #[.int .i64 x.worth,.int .i64 x.price,.int .i64 x.people,.bool x.ins]] W fun e w'=>e=.returned (.bool (p x))∧Below W.heap.size W w') :
 Calls Tryz.prog 214 #[.slice A n c,.func (.func 215) #[] #[.pointer (some ⟨B,0,none⟩)]] w
  fun e w'=>e=.returned (.bool (!allB p l))∧Below w.heap.size w w':=by
 have hc:=idxPar_c (c:=c) w h hn hBl hB hp;have HC:=hid hc;clear hc hp
 go_enter Tryz.func214,Tryz.ntmps214
 go_wp2_with (go_at_call 240;refine(HC.out).mono ?_;rintro e w' ⟨⟨r,rfl,hr⟩,hb⟩;have HR:=hid hr;clear hr)
 go_ret
 exact⟨ret_bool (by rw[← HR.out];simp),hb⟩
theorem allPar_c {l:List (Par)}{A:Option Addr}{n c:Nat}(w:World)(h:Rd encP 4 w A n l)(hn:n≤maxLen)
 (hp:∀(i:Nat) (x:Par) (W:World),l[i]?=some x→Below w.heap.size w W→Calls Tryz.prog 182 #[.agg #[.int .i64 x.worth,.int .i64 x.price,.int .i64 x.people,.bool x.ins]] W fun e w'=>e=.returned (.bool (p x))∧Below W.heap.size W w') :
 Calls Tryz.prog 181 #[.slice A n c,.func (.func 182) #[] #[]] w
  fun e w'=>e=.returned (.bool (allB p l))∧Below w.heap.size w w':=by
 have hbx:=(Below.refl w.heap.size w).alloc (Nat.le_refl _) (.cells #[.func (.func 182) #[] #[]] 260);have hc:=containsPar_c (c:=c) (B:=w.heap.size) (w.alloc (.cells #[.func (.func 182) #[] #[]] 260)) (h.mono hbx) hn (by simp) (by simp) (fun i x W hx hW=>hp i x W hx (hbx.trans (hW.mono (by simp))));have HC:=hid hc;clear hc hp
 go_enter Tryz.func181,Tryz.ntmps181
 go_wp2_with (go_at_call 214;refine(HC.out).mono ?_;rintro e w' ⟨rfl,hb⟩)
 go_ret
 exact⟨ret_bool (by simp),((Below.refl _ _).alloc (Nat.le_refl _) _).trans (hb.mono (by simp))⟩
end
end Go.Proofs.YtkhcliibilkefaaGreatDoor
