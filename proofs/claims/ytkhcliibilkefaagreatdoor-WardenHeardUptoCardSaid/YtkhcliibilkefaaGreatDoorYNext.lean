/- CONTRACTS of package slope: the beds of columns, next's iterator, the least of some numbers. -/
import Derived.Test.YtkhcliibilkefaaGreatDoorYCost
import Derived.Test.YtkhcliibilkefaaGreatDoorYTOpen
import Derived.RangeFuncNested
import Derived.RangeFuncBound
import Derived.RangeFuncCalls
import Derived.RangeFuncLeaves
import Derived.RangeFuncBox
import Derived.Shelf.Abstract
import Derived.Shelf.RegionOpen
import Derived.OwnWalkIn
import Derived.TacticsInMore
import Derived.LoopNIn
import Derived.LoopIn
set_option linter.unusedVariables false
set_option linter.unusedSimpArgs false
set_option maxRecDepth 100000
set_option maxHeartbeats 8000000
namespace Go.Proofs.YtkhcliibilkefaaGreatDoor
open Lib (hid)
open Go.RowKit Go.Proofs Go.Shelf
attribute [local go_sem] Oper.semAt_some
attribute [local go_sem ↓] Go.wp_at_zero Go.wp_at_succ
theorem wpIn_region_till_round {P:Program}{n:Nat}{Q:Exit→Act→World→Prop}{l id:Nat}{ops:Array Oper}{a:Act}{w:World}(fins:List Nat)(S:World→Prop)(hm:P.follows .mixedOrders=true)(hd:noDefer ops=true)(hS:S w.drew)
 (h:S w.drew→wpAnyL P .any ops (OnlyN Q) fins S ops.size (Array.replicate ops.size false) a w.drew):(Code.region id ops true).wpIn (Fence.wide.inRound l) n P Q a w :=
 wpIn_region_any hm (wpAnyIn_of_wpAny hd _ _ _ _ (wpAny_of_till _ _ _ _ (h hS)))
theorem OnlyN.out {Q:Exit→Act→World→Prop}:∀ e a w,OnlyN Q e a w→Q e a w:=by
 intro e a w h
 cases e<;>first | exact h | exact h.elim
theorem wpIn_region_till_wide {P:Program}{n:Nat}{Q:Exit→Act→World→Prop}{id:Nat}{ops:Array Oper}{a:Act}{w:World}(fins:List Nat)(S:World→Prop)(hm:P.follows .mixedOrders=true)(hS:S w.drew)
 (h:S w.drew→wpAnyL P .any ops (OnlyN Q) fins S ops.size (Array.replicate ops.size false) a w.drew):(Code.region id ops true).wpIn Fence.wide n P Q a w :=
 wpIn_wide.2 (Code.wp_mono OnlyN.out (wp_region_till fins S hm hS h))
structure Col1 (W:World) (A:Option Addr) (g o:Nat):Prop where
 eq:A=some ⟨g,o,none⟩
 lt:g<W.heap.size
 cell:∃ A0 c0,W.cell? ⟨g,o,none⟩=some (.slice A0 1 c0)
theorem Col1.fr {E:Nat→Prop}{W W':World}{A:Option Addr}{g o:Nat}(h:Col1 W A g o)(hf:Fr E W W')(hE:¬ E g):Col1 W' A g o:=by
 obtain⟨h1,h2,A0,c0,h3⟩:=h;exact⟨h1,Nat.lt_of_lt_of_le h2 hf.size,A0,c0,(World.cell?_of_block (hf.block g h2 hE)).trans h3⟩
theorem Col1.below {W W':World}{A:Option Addr}{g o:Nat}(h:Col1 W A g o)(hb:Below W.heap.size W W'):Col1 W' A g o:=h.fr (E:=fun _=>False) (Fr.of_below hb _) (fun h=>h)
def JW (J:List Unit→World→Prop)(pre:List Unit)(W:World):Prop:=∀ W',Below W.heap.size W W'→J pre W'
theorem JW.below {J:List Unit→World→Prop}{pre:List Unit}{W W':World}(h:JW J pre W)(hb:Below W.heap.size W W'):JW J pre W':=fun W'' h''=>h W'' (below_tr hb h'')
theorem JW.now {J:List Unit→World→Prop}{pre:List Unit}{W:World}(h:JW J pre W):J pre W:=h W (Below.refl _ _)
theorem beds_c {A:Option Addr}{g o n c:Nat}{least factor:Int}{T:FuncId}{w:World}(h:Col1 w A g o)(hn:1≤n) :
 Calls Tryz.prog 239 #[.agg (lkA A n c least factor T)] w fun e w'=>e=.returned (.int .i64 1)∧Below w.heap.size w w':=by
 obtain⟨rfl,hlt,A0,c0,hc⟩:=h;have hal:=(Below.refl w.heap.size w).alloc (Nat.le_refl _) (.cells (lkA (some ⟨g,o,none⟩) n c least factor T) 253);have hx:=Blk.new w 253 (lkA (some ⟨g,o,none⟩) n c least factor T);have hc1:=(hal.cell (p:=⟨g,o,none⟩) hlt).trans hc;have HB:=hid hal;have HX:=hid hx;clear hal hx
 go_enter Tryz.func239,Tryz.ntmps239
 go_upto_region 1 with fail
 have hfold:∀ P:World→Prop,P (w.alloc (.cells (lkA (some ⟨g,o,none⟩) n c least factor T) 253))→P (w.alloc (.cells #[.slice (some ⟨g,o,none⟩) n c,.int .i64 least,.int .i64 factor,.func (.func T) #[] #[]] 253)):=fun P h=>h;refine hfold _ ?_;clear hfold;revert hc1 HB HX;generalize (World.alloc w (.cells (lkA (some ⟨g,o,none⟩) n c least factor T) 253))=w1;intro hc1 HB HX;have x0:=HX.out.cell 0;simp[lkA] at x0
 go_wp2_with fail
 go_ret
 exact⟨rfl,HB.out⟩
def KpN (n0 M Bb Bx:Nat)(W W':World):Prop:=Fr (fun g=>g=M∨(n0≤g∧g≠Bb∧g≠Bx)) W W'
theorem kpN_t {n0 M Bb Bx:Nat}{A B C:World}(h:KpN n0 M Bb Bx A B)(k:KpN n0 M Bb Bx B C):KpN n0 M Bb Bx A C:=Fr.trans h k
theorem kpN_b {n0 M Bb Bx:Nat}{w:World}(hn:n0≤w.heap.size)(hB:Bb<w.heap.size)(hX:Bx<w.heap.size)(W:World)(l:Nat)(o o':Obj)(hl:w.heap.size≤l)(h:W.heap[l]?=some o)(_hc:o.isCells=false)(_hw:o.isWalk=false):KpN n0 M Bb Bx W (W.putObj l o') :=
 Fr.of_grown (grownBy_putObj' W l o') fun g e _=>.inr (by cases e;exact⟨by omega,by omega,by omega⟩)
abbrev encU (_:Unit):Array Value:=#[.int .i64 0]
theorem next1_in (k:Nat)(hk:2≤k)(l n0 M Bb Bx:Nat){A:Option Addr}{g o n c:Nat}{least factor:Int}{T:FuncId}(J Jx:List Unit→World→Prop)
 (hY:∀ pre x W,J pre W→pre.length<1→YieldAt Fence.wide (k - 1) Tryz.prog l (encU x) W fun e W' =>
  (e=.returned (.bool true)∧J (pre++[x]) W'∧KpN n0 M Bb Bx W W')∨(e=.returned (.bool false)∧Jx (pre++[x]) W'))
 (W:World) (hb:Blk W Bb 3 #[.int .i64 0]) (hx:Blk W Bx 253 (lkA A n c least factor T)) (hc:Col1 W A g o) (hn:1≤n) (hg:g<n0∧g≠M) (hM:Bb≠M∧Bx≠M)
 (hJ:∀ pre W W',J pre W→Below W.heap.size W W'→J pre W') (h0:J [] W) :
 CallsIn Fence.wide k Tryz.prog 246 #[.func (.yield l) #[] #[],.pointer (some ⟨Bb,0,none⟩),.pointer (some ⟨Bx,0,none⟩)] W fun e W'=>(∃ v,e=.returned v) ∧
  ((∃ ys,ys.length=1∧J ys W')∨(∃ pre,Jx pre W')):=by
 have h1:1≤k:=by omega
 refine callsIn_of_wp Tryz.func246 rfl trivial ?_ rfl;simp only[Tryz.ntmps246,List.size_toArray,List.length_cons,List.length_nil,Nat.reduceAdd,Nat.reduceSub,Array.replicate_succ,Array.replicate_zero,List.push_toArray,List.append_toArray,List.nil_append,List.cons_append];have HY:=hid hY;have HBB:=hid hb;have HBX:=hid hx;have HC:=hid hc;have HJ:=hid hJ;have HM:=hid hM;clear hY hx hc hJ hM;have c0:=hb.cell 0;simp at c0;clear hb
 gi_wp2
 gi_loopw [4] (fun b wr=>∃(j:Nat) (pre:List Unit),b=.int .i64 (j:Int)∧j≤1∧pre.length=j∧J pre wr∧Blk wr Bb 3 #[.int .i64 0]∧Blk wr Bx 253 (lkA A n c least factor T)∧Col1 wr A g o) (fun b _=>1 - (intOf b).toNat)
 case atStart=>exact⟨0,[],by rfl,by omega,rfl,h0,HBB.out,HBX.out,HC.out⟩
 case round =>
  obtain⟨j,pre,rfl,hj,hpre,hJp,hbb,hbx,hcc⟩:=hrel;clear HBB HBX HC h0;have HBB:=hid hbb;have HBX:=hid hbx;have HC:=hid hcc;have HP:=hid hpre;clear hbb hbx hcc hpre;have HJP:=hid (show JW J pre wr from fun W' hb=>HJ.out _ _ _ hJp hb);clear hJp;have hb0:∃ q:Int,q=(if j=0 then 1 else 0):=⟨_,rfl⟩
  have hmin:min (IntKind.i64.wrap (1 - 1)) (IntKind.i64.wrap (0+1))=0:=by decide
  gi_wp2_with fail
  refine wpIn_wide.2 ?_;refine wp_region_till [] (fun U=>(U.cell? ⟨Bb,0,none⟩=some (.int .i64 0))∧U.cell? ⟨Bx,0,none⟩=some (.slice A n c)∧U.cell? ⟨Bx,1,none⟩=some (.int .i64 least)∧U.cell? ⟨Bx,2,none⟩=some (.int .i64 factor)∧U.cell? ⟨Bx,3,none⟩=some (.func (.func T) #[] #[])) (by kernel_rfl) (by exact⟨by simpa using (show Blk wr.drew Bb _ _ from HBB.out).cell 0,by simpa[lkA] using (show Blk wr.drew Bx _ _ from HBX.out).cell 0,by simpa[lkA] using (show Blk wr.drew Bx _ _ from HBX.out).cell 1,by simpa[lkA] using (show Blk wr.drew Bx _ _ from HBX.out).cell 2,by simpa[lkA] using (show Blk wr.drew Bx _ _ from HBX.out).cell 3⟩) (fun hHeld=>?_);have hb9:=(Below.refl wr.heap.size wr).drew;replace HBB:=hdB HBB hb9;replace HBX:=hdB HBX hb9;replace HC:=hid (HC.out.below hb9);replace HJP:=hid (HJP.out.below hb9);clear hb9;revert hHeld HBB HBX HC HJP;generalize wr.drew=w0;intro hHeld HBB HBX HC HJP;refine tk 0 0 ?_;refine tk 0 1 ?_;refine tk 0 4 ?_;refine tk 0 5 ?_;refine ar [2] (ac (fun K hK=>?_) an);go_simp;go_at_call 239;refine(beds_c HC.out hn).mono ?_;rintro e w1 ⟨rfl,hb9⟩;replace HBB:=hdB HBB hb9;replace HBX:=hdB HBX hb9;replace HC:=hid (HC.out.below hb9);replace HJP:=hid (HJP.out.below hb9);clear hb9 ;(try go_wp2_with fail);(try clear hHeld);refine hK.out _ _ (by(try dsimp only);exact⟨by simpa using HBB.out.cell 0,by simpa[lkA] using HBX.out.cell 0,by simpa[lkA] using HBX.out.cell 1,by simpa[lkA] using HBX.out.cell 2,by simpa[lkA] using HBX.out.cell 3⟩) (fun hHeld=>?_);clear hK K
  refine pt ?_;refine tk 0 3 ?_;refine tk 0 6 ?_;refine tk 0 7 ?_;refine td ?_;clear hHeld hb0 hmin;have hlen:=HP.out
  rcases Nat.lt_or_ge 0 j with hj0 | hj0
  · obtain rfl:j=1:=by omega
    have hdec:decide (((1:Nat):Int)≤min (IntKind.i64.wrap 0) (IntKind.i64.wrap 1))=false:=by decide
    rw[hdec]
    gi_wp2
    go_end0
    exact⟨⟨_,rfl⟩,.inl ⟨pre,hlen,HJP.out.now⟩⟩
  · obtain rfl:j=0:=by omega
    have hdec:decide (((0:Nat):Int)≤min (IntKind.i64.wrap 0) (IntKind.i64.wrap 1))=true:=by decide
    rw[hdec];obtain⟨fn,tmps,assign,body,hy,hR⟩:=HY.out pre () w1 HJP.out.now (by omega);dsimp only[encU] at hy
    gi_wp2
    refine hR.mono ?_;rintro e W3 (⟨rfl,hJ3,hk3⟩ | ⟨rfl,hJx3⟩)
    · gi_wp2
      go_roundw
      case rel =>
       have hM:=HM.out;exact⟨1,pre++[()],by go_num,by omega,by simp[hlen],hJ3,hk3.blk HBB.out (by have:=HM.out;rintro(h | h)<;>omega),hk3.blk HBX.out (by have:=HM.out;rintro(h | h)<;>omega),HC.out.fr hk3 (by rintro(h | h)<;>omega)⟩
      case measure=>simp[intOf]
    · gi_wp2
      refine bodyPost_ret (results_none rfl _ _ _) rfl ?_;exact⟨⟨_,rfl⟩,.inr ⟨_,hJx3⟩⟩
theorem next_stops (k:Nat)(hk:2≤k)(n0 M Bb Bx:Nat){A:Option Addr}{g o n c:Nat}{least factor:Int}{T:FuncId}{w:World}(hb:Blk w Bb 3 #[.int .i64 0])(hx:Blk w Bx 253 (lkA A n c least factor T))(hc:Col1 w A g o)(hn:1≤n)(hg:g<n0∧g≠M)(hM:Bb≠M∧Bx≠M) :
 SeqStopsK Fence.wide k Tryz.prog 246 #[.pointer (some ⟨Bb,0,none⟩),.pointer (some ⟨Bx,0,none⟩)] encU (KpN n0 M Bb Bx) (fun ys=>ys.length=1) (fun _=>True) 1 w:=fun l J Jx W hW hJ _ hY h0 =>
 (next1_in k hk l n0 M Bb Bx J Jx hY W (hb.below hW hb.lt) (hx.below hW hx.lt) (hc.below hW) hn hg hM (fun pre X Y hX hB=>hJ _ _ _ none hX (only_of_below hB none) (fun r e=>by cases e)) h0).mono fun _ _ ⟨he,h⟩=>⟨he,by
  rcases h with h | ⟨pre,h⟩
  · exact .inl h
  · exact .inr ⟨pre,trivial,h⟩⟩
theorem next_c (A:Option Addr)(n c:Nat)(least factor b:Int)(T:FuncId)(w:World) :
 Calls Tryz.prog 237 #[.agg (lkA A n c least factor T),.int .i64 b] w fun e w'=>e=.returned (.func (.func 246) #[] #[.pointer (some ⟨w.heap.size+1,0,none⟩),.pointer (some ⟨w.heap.size,0,none⟩)]) ∧
  w'=(w.alloc (.cells (lkA A n c least factor T) 253)).alloc (.cells #[.int .i64 b] 3):=by
 go_enter Tryz.func237,Tryz.ntmps237
 go_wp2
 go_ret
 exact⟨rfl,rfl⟩
theorem min_c {a b:Int}{A:Option Addr}{c:Nat}{w:World}(h:Rd enc1 1 w A 2 [a,b]) :
 Calls Tryz.prog 247 #[.slice A 2 c] w fun e w'=>e=.returned (.int .i64 (min a b))∧Below w.heap.size w w':=by
 obtain⟨g,o,rfl,hg,hc⟩:=h.2 (by omega);have y0:=hc 0 _ rfl 0 _ rfl;have y1:=hc 1 _ rfl 0 _ rfl;simp at y0 y1;clear hc h
 go_enter Tryz.func247,Tryz.ntmps247
 go_wp2_with fail
 go_loopw [3,4] (fun m i wr=>∃(k:Nat),i=.int .i64 (k:Int)∧m=.int .i64 (if k=1 then a else min a b)∧1≤k∧k≤2∧Below w.heap.size w wr) (fun _ i _=>2 - (intOf i).toNat)
 case atStart=>exact⟨1,rfl,rfl,by omega,by omega,Below.refl _ _⟩
 case round =>
  obtain⟨k,rfl,rfl,hk1,hk2,hb⟩:=hrel;have z1:=(hb.cell (p:=⟨g,o+1,none⟩) hg).trans y1;have HB:=hid hb;clear hb y0 y1
  rcases Nat.lt_or_ge k 2 with hk | hk
  · obtain rfl:k=1:=by omega
    rw[if_pos rfl]
    go_wp2_with fail
    go_roundw
    case rel=>exact⟨2,by go_num,rfl,by omega,by omega,HB.out⟩
    case measure=>simp[intOf]
  · obtain rfl:k=2:=by omega
    rw[if_neg (by decide)]
    go_wp2_with fail
    go_ret
    exact⟨rfl,HB.out⟩
theorem least_c {a b:Int}{A:Option Addr}{c:Nat}{w:World}(h:Rd enc1 1 w A 2 [a,b]) :
 Calls Tryz.prog 238 #[.slice A 2 c] w fun e w'=>e=.returned (.int .i64 (min a b))∧Below w.heap.size w w':=by
 go_enter Tryz.func238,Tryz.ntmps238
 go_wp2_with (go_at_call 247;refine(min_c h).mono ?_;rintro e w' ⟨rfl,hb⟩)
 go_ret
 exact⟨rfl,hb⟩
end Go.Proofs.YtkhcliibilkefaaGreatDoor
