/- CONTRACTS of package water: what is valid of a ground. Written by mkyground.py. -/
import Derived.Test.YtkhcliibilkefaaGreatDoorZHearMap
import Derived.Test.YtkhcliibilkefaaGreatDoorYLeaf
set_option linter.unusedVariables false
set_option linter.unusedSimpArgs false
set_option maxRecDepth 100000
set_option maxHeartbeats 8000000
namespace Go.Proofs.YtkhcliibilkefaaGreatDoor
open Lib (hid)
open Go.RowKit Go.Proofs
attribute [local go_sem ↓] Go.wp_at_zero Go.wp_at_succ
theorem wa_within_c (n lo hi:Int)(w:World) :
 Calls Tryz.prog 124 #[.int .i64 n,.int .i64 lo,.int .i64 hi] w fun e w'=>e=.returned (.bool (inB n lo hi))∧Below w.heap.size w w':=by
 by_cases h:lo≤n
 · go_enter Tryz.func124,Tryz.ntmps124
   go_wp2
   go_ret
   exact⟨ret_bool (by simp[inB,h]),Below.refl _ _⟩
 · have h':n<lo:=by omega
   go_enter Tryz.func124,Tryz.ntmps124
   go_wp2
   go_ret
   exact⟨ret_bool (inB_not.2 (.inl h')).symm,Below.refl _ _⟩
theorem wa_up_c (lo hi most:Int)(w:World) :
 Calls Tryz.prog 125 #[.agg #[.int .i64 lo,.int .i64 hi],.int .i64 most] w fun e w'=>e=.returned (.bool (upB lo hi most))∧Below w.heap.size w w':=by
 by_cases h:0≤lo
 · by_cases h2:lo≤hi
   · go_enter Tryz.func125,Tryz.ntmps125
     go_wp2
     go_ret
     exact⟨ret_bool (by simp[upB,h];omega),(Below.refl _ _).alloc (Nat.le_refl _) _⟩
   · go_enter Tryz.func125,Tryz.ntmps125
     go_wp2
     go_ret
     exact⟨ret_bool (by simp[upB,h];omega),(Below.refl _ _).alloc (Nat.le_refl _) _⟩
 · go_enter Tryz.func125,Tryz.ntmps125
   go_wp2
   go_ret
   exact⟨ret_bool (by simp[upB];omega),(Below.refl _ _).alloc (Nat.le_refl _) _⟩
def celB (n:Nat)(x:Cel):Bool:=inB x.cap 1 100000 && (upB x.lo x.hi x.cap && (inB x.keep 0 x.cap && (inB x.pass 0 1000 && (inB x.to (-1) ((n:Int) - 1) && (inB x.pump 0 100000)))))
theorem celValid_c (x:Cel){GV:Nat}{GA:Option Addr}{n gc:Nat}{w:World}(hG:w.cell? ⟨GV,0,none⟩=some (.slice GA n gc))(hGl:GV<w.heap.size)(hn:n≤maxLen):Calls Tryz.prog 123 #[.agg #[.int .i64 x.lo,.int .i64 x.hi,.int .i64 x.cap,.int .i64 x.keep,.int .i64 x.pass,.int .i64 x.to,.int .i64 x.pump],.pointer (some ⟨GV,0,none⟩)] w fun e w'=>e=.returned (.bool (celB n x))∧Below w.heap.size w w':=by
 have hv:celB n x=(inB x.cap 1 100000 && (upB x.lo x.hi x.cap && (inB x.keep 0 x.cap && (inB x.pass 0 1000 && (inB x.to (-1) ((n:Int) - 1) && (inB x.pump 0 100000)))))):=rfl;unfold maxLen at hn;have hal:=(Below.refl w.heap.size w).alloc (Nat.le_refl _) (.cells #[.int .i64 x.lo,.int .i64 x.hi,.int .i64 x.cap,.int .i64 x.keep,.int .i64 x.pass,.int .i64 x.to,.int .i64 x.pump] 162);have hx:=Blk.new w 162 #[.int .i64 x.lo,.int .i64 x.hi,.int .i64 x.cap,.int .i64 x.keep,.int .i64 x.pass,.int .i64 x.to,.int .i64 x.pump];have g1:=(hal.cell (p:=⟨GV,0,none⟩) hGl).trans hG;have gl:GV<(w.alloc (.cells #[.int .i64 x.lo,.int .i64 x.hi,.int .i64 x.cap,.int .i64 x.keep,.int .i64 x.pass,.int .i64 x.to,.int .i64 x.pump] 162)).heap.size:=Nat.lt_of_lt_of_le hGl hal.size;have HB:=hid hal;have HX:=hid hx;clear hal hx hG hGl;cases h0:inB x.cap 1 100000
 · rw[h0] at hv
   have HM:=hid hv;clear hv
   go_enter Tryz.func123,Tryz.ntmps123
   go_upto_region 1 with fail
   revert g1 gl HB HX;generalize (World.alloc w (.cells #[.int .i64 x.lo,.int .i64 x.hi,.int .i64 x.cap,.int .i64 x.keep,.int .i64 x.pass,.int .i64 x.to,.int .i64 x.pump] 162))=w1;intro g1 gl HB HX;have x0:=HX.out.cell 0;have x1:=HX.out.cell 1;have x2:=HX.out.cell 2;have x3:=HX.out.cell 3;have x4:=HX.out.cell 4;have x5:=HX.out.cell 5;have x6:=HX.out.cell 6;simp at x0 x1 x2 x3 x4 x5 x6
   go_wp2_with fail
   go_at_call 124;refine(wa_within_c _ _ _ _).mono ?_;rintro e w1 ⟨rfl,hb9⟩;have g2:=(hb9.cell (p:=⟨GV,0,none⟩) gl).trans g1;have gl2:=Nat.lt_of_lt_of_le gl hb9.size;clear g1 gl;have g1:=g2;have gl:=gl2;clear g2 gl2;replace HB:=hdT HB hb9;replace HX:=hdB HX hb9;clear hb9 ;clear x0 x1 x2 x3 x4 x5 x6;have x0:=HX.out.cell 0;have x1:=HX.out.cell 1;have x2:=HX.out.cell 2;have x3:=HX.out.cell 3;have x4:=HX.out.cell 4;have x5:=HX.out.cell 5;have x6:=HX.out.cell 6;simp at x0 x1 x2 x3 x4 x5 x6
   go_wp2_with fail
   go_ret
   exact⟨ret_bool HM.out.symm,HB.out⟩
 · cases h1:upB x.lo x.hi x.cap
   · rw[h0,h1] at hv
     have HM:=hid hv;clear hv
     go_enter Tryz.func123,Tryz.ntmps123
     go_upto_region 1 with fail
     revert g1 gl HB HX;generalize (World.alloc w (.cells #[.int .i64 x.lo,.int .i64 x.hi,.int .i64 x.cap,.int .i64 x.keep,.int .i64 x.pass,.int .i64 x.to,.int .i64 x.pump] 162))=w1;intro g1 gl HB HX;have x0:=HX.out.cell 0;have x1:=HX.out.cell 1;have x2:=HX.out.cell 2;have x3:=HX.out.cell 3;have x4:=HX.out.cell 4;have x5:=HX.out.cell 5;have x6:=HX.out.cell 6;simp at x0 x1 x2 x3 x4 x5 x6
     go_wp2_with fail
     go_at_call 124;refine(wa_within_c _ _ _ _).mono ?_;rintro e w1 ⟨rfl,hb9⟩;have g2:=(hb9.cell (p:=⟨GV,0,none⟩) gl).trans g1;have gl2:=Nat.lt_of_lt_of_le gl hb9.size;clear g1 gl;have g1:=g2;have gl:=gl2;clear g2 gl2;replace HB:=hdT HB hb9;replace HX:=hdB HX hb9;clear hb9 ;clear x0 x1 x2 x3 x4 x5 x6;have x0:=HX.out.cell 0;have x1:=HX.out.cell 1;have x2:=HX.out.cell 2;have x3:=HX.out.cell 3;have x4:=HX.out.cell 4;have x5:=HX.out.cell 5;have x6:=HX.out.cell 6;simp at x0 x1 x2 x3 x4 x5 x6
     go_wp2_with fail
     go_at_call 125;refine(wa_up_c _ _ _ _).mono ?_;rintro e w1 ⟨rfl,hb9⟩;have g2:=(hb9.cell (p:=⟨GV,0,none⟩) gl).trans g1;have gl2:=Nat.lt_of_lt_of_le gl hb9.size;clear g1 gl;have g1:=g2;have gl:=gl2;clear g2 gl2;replace HB:=hdT HB hb9;replace HX:=hdB HX hb9;clear hb9 ;clear x0 x1 x2 x3 x4 x5 x6;have x0:=HX.out.cell 0;have x1:=HX.out.cell 1;have x2:=HX.out.cell 2;have x3:=HX.out.cell 3;have x4:=HX.out.cell 4;have x5:=HX.out.cell 5;have x6:=HX.out.cell 6;simp at x0 x1 x2 x3 x4 x5 x6
     go_wp2_with fail
     go_ret
     exact⟨ret_bool HM.out.symm,HB.out⟩
   · cases h2:inB x.keep 0 x.cap
     · rw[h0,h1,h2] at hv
       have HM:=hid hv;clear hv
       go_enter Tryz.func123,Tryz.ntmps123
       go_upto_region 1 with fail
       revert g1 gl HB HX;generalize (World.alloc w (.cells #[.int .i64 x.lo,.int .i64 x.hi,.int .i64 x.cap,.int .i64 x.keep,.int .i64 x.pass,.int .i64 x.to,.int .i64 x.pump] 162))=w1;intro g1 gl HB HX;have x0:=HX.out.cell 0;have x1:=HX.out.cell 1;have x2:=HX.out.cell 2;have x3:=HX.out.cell 3;have x4:=HX.out.cell 4;have x5:=HX.out.cell 5;have x6:=HX.out.cell 6;simp at x0 x1 x2 x3 x4 x5 x6
       go_wp2_with fail
       go_at_call 124;refine(wa_within_c _ _ _ _).mono ?_;rintro e w1 ⟨rfl,hb9⟩;have g2:=(hb9.cell (p:=⟨GV,0,none⟩) gl).trans g1;have gl2:=Nat.lt_of_lt_of_le gl hb9.size;clear g1 gl;have g1:=g2;have gl:=gl2;clear g2 gl2;replace HB:=hdT HB hb9;replace HX:=hdB HX hb9;clear hb9 ;clear x0 x1 x2 x3 x4 x5 x6;have x0:=HX.out.cell 0;have x1:=HX.out.cell 1;have x2:=HX.out.cell 2;have x3:=HX.out.cell 3;have x4:=HX.out.cell 4;have x5:=HX.out.cell 5;have x6:=HX.out.cell 6;simp at x0 x1 x2 x3 x4 x5 x6
       go_wp2_with fail
       go_at_call 125;refine(wa_up_c _ _ _ _).mono ?_;rintro e w1 ⟨rfl,hb9⟩;have g2:=(hb9.cell (p:=⟨GV,0,none⟩) gl).trans g1;have gl2:=Nat.lt_of_lt_of_le gl hb9.size;clear g1 gl;have g1:=g2;have gl:=gl2;clear g2 gl2;replace HB:=hdT HB hb9;replace HX:=hdB HX hb9;clear hb9 ;clear x0 x1 x2 x3 x4 x5 x6;have x0:=HX.out.cell 0;have x1:=HX.out.cell 1;have x2:=HX.out.cell 2;have x3:=HX.out.cell 3;have x4:=HX.out.cell 4;have x5:=HX.out.cell 5;have x6:=HX.out.cell 6;simp at x0 x1 x2 x3 x4 x5 x6
       go_wp2_with fail
       go_at_call 124;refine(wa_within_c _ _ _ _).mono ?_;rintro e w1 ⟨rfl,hb9⟩;have g2:=(hb9.cell (p:=⟨GV,0,none⟩) gl).trans g1;have gl2:=Nat.lt_of_lt_of_le gl hb9.size;clear g1 gl;have g1:=g2;have gl:=gl2;clear g2 gl2;replace HB:=hdT HB hb9;replace HX:=hdB HX hb9;clear hb9 ;clear x0 x1 x2 x3 x4 x5 x6;have x0:=HX.out.cell 0;have x1:=HX.out.cell 1;have x2:=HX.out.cell 2;have x3:=HX.out.cell 3;have x4:=HX.out.cell 4;have x5:=HX.out.cell 5;have x6:=HX.out.cell 6;simp at x0 x1 x2 x3 x4 x5 x6
       go_wp2_with fail
       go_ret
       exact⟨ret_bool HM.out.symm,HB.out⟩
     · cases h3:inB x.pass 0 1000
       · rw[h0,h1,h2,h3] at hv
         have HM:=hid hv;clear hv
         go_enter Tryz.func123,Tryz.ntmps123
         go_upto_region 1 with fail
         revert g1 gl HB HX;generalize (World.alloc w (.cells #[.int .i64 x.lo,.int .i64 x.hi,.int .i64 x.cap,.int .i64 x.keep,.int .i64 x.pass,.int .i64 x.to,.int .i64 x.pump] 162))=w1;intro g1 gl HB HX;have x0:=HX.out.cell 0;have x1:=HX.out.cell 1;have x2:=HX.out.cell 2;have x3:=HX.out.cell 3;have x4:=HX.out.cell 4;have x5:=HX.out.cell 5;have x6:=HX.out.cell 6;simp at x0 x1 x2 x3 x4 x5 x6
         go_wp2_with fail
         go_at_call 124;refine(wa_within_c _ _ _ _).mono ?_;rintro e w1 ⟨rfl,hb9⟩;have g2:=(hb9.cell (p:=⟨GV,0,none⟩) gl).trans g1;have gl2:=Nat.lt_of_lt_of_le gl hb9.size;clear g1 gl;have g1:=g2;have gl:=gl2;clear g2 gl2;replace HB:=hdT HB hb9;replace HX:=hdB HX hb9;clear hb9 ;clear x0 x1 x2 x3 x4 x5 x6;have x0:=HX.out.cell 0;have x1:=HX.out.cell 1;have x2:=HX.out.cell 2;have x3:=HX.out.cell 3;have x4:=HX.out.cell 4;have x5:=HX.out.cell 5;have x6:=HX.out.cell 6;simp at x0 x1 x2 x3 x4 x5 x6
         go_wp2_with fail
         go_at_call 125;refine(wa_up_c _ _ _ _).mono ?_;rintro e w1 ⟨rfl,hb9⟩;have g2:=(hb9.cell (p:=⟨GV,0,none⟩) gl).trans g1;have gl2:=Nat.lt_of_lt_of_le gl hb9.size;clear g1 gl;have g1:=g2;have gl:=gl2;clear g2 gl2;replace HB:=hdT HB hb9;replace HX:=hdB HX hb9;clear hb9 ;clear x0 x1 x2 x3 x4 x5 x6;have x0:=HX.out.cell 0;have x1:=HX.out.cell 1;have x2:=HX.out.cell 2;have x3:=HX.out.cell 3;have x4:=HX.out.cell 4;have x5:=HX.out.cell 5;have x6:=HX.out.cell 6;simp at x0 x1 x2 x3 x4 x5 x6
         go_wp2_with fail
         go_at_call 124;refine(wa_within_c _ _ _ _).mono ?_;rintro e w1 ⟨rfl,hb9⟩;have g2:=(hb9.cell (p:=⟨GV,0,none⟩) gl).trans g1;have gl2:=Nat.lt_of_lt_of_le gl hb9.size;clear g1 gl;have g1:=g2;have gl:=gl2;clear g2 gl2;replace HB:=hdT HB hb9;replace HX:=hdB HX hb9;clear hb9 ;clear x0 x1 x2 x3 x4 x5 x6;have x0:=HX.out.cell 0;have x1:=HX.out.cell 1;have x2:=HX.out.cell 2;have x3:=HX.out.cell 3;have x4:=HX.out.cell 4;have x5:=HX.out.cell 5;have x6:=HX.out.cell 6;simp at x0 x1 x2 x3 x4 x5 x6
         go_wp2_with fail
         go_at_call 124;refine(wa_within_c _ _ _ _).mono ?_;rintro e w1 ⟨rfl,hb9⟩;have g2:=(hb9.cell (p:=⟨GV,0,none⟩) gl).trans g1;have gl2:=Nat.lt_of_lt_of_le gl hb9.size;clear g1 gl;have g1:=g2;have gl:=gl2;clear g2 gl2;replace HB:=hdT HB hb9;replace HX:=hdB HX hb9;clear hb9 ;clear x0 x1 x2 x3 x4 x5 x6;have x0:=HX.out.cell 0;have x1:=HX.out.cell 1;have x2:=HX.out.cell 2;have x3:=HX.out.cell 3;have x4:=HX.out.cell 4;have x5:=HX.out.cell 5;have x6:=HX.out.cell 6;simp at x0 x1 x2 x3 x4 x5 x6
         go_wp2_with fail
         go_ret
         exact⟨ret_bool HM.out.symm,HB.out⟩
       · cases h4:inB x.to (-1) ((n:Int) - 1)
         · rw[h0,h1,h2,h3,h4] at hv
           have HM:=hid hv;clear hv
           go_enter Tryz.func123,Tryz.ntmps123
           go_upto_region 1 with fail
           revert g1 gl HB HX;generalize (World.alloc w (.cells #[.int .i64 x.lo,.int .i64 x.hi,.int .i64 x.cap,.int .i64 x.keep,.int .i64 x.pass,.int .i64 x.to,.int .i64 x.pump] 162))=w1;intro g1 gl HB HX;have x0:=HX.out.cell 0;have x1:=HX.out.cell 1;have x2:=HX.out.cell 2;have x3:=HX.out.cell 3;have x4:=HX.out.cell 4;have x5:=HX.out.cell 5;have x6:=HX.out.cell 6;simp at x0 x1 x2 x3 x4 x5 x6
           go_wp2_with fail
           go_at_call 124;refine(wa_within_c _ _ _ _).mono ?_;rintro e w1 ⟨rfl,hb9⟩;have g2:=(hb9.cell (p:=⟨GV,0,none⟩) gl).trans g1;have gl2:=Nat.lt_of_lt_of_le gl hb9.size;clear g1 gl;have g1:=g2;have gl:=gl2;clear g2 gl2;replace HB:=hdT HB hb9;replace HX:=hdB HX hb9;clear hb9 ;clear x0 x1 x2 x3 x4 x5 x6;have x0:=HX.out.cell 0;have x1:=HX.out.cell 1;have x2:=HX.out.cell 2;have x3:=HX.out.cell 3;have x4:=HX.out.cell 4;have x5:=HX.out.cell 5;have x6:=HX.out.cell 6;simp at x0 x1 x2 x3 x4 x5 x6
           go_wp2_with fail
           go_at_call 125;refine(wa_up_c _ _ _ _).mono ?_;rintro e w1 ⟨rfl,hb9⟩;have g2:=(hb9.cell (p:=⟨GV,0,none⟩) gl).trans g1;have gl2:=Nat.lt_of_lt_of_le gl hb9.size;clear g1 gl;have g1:=g2;have gl:=gl2;clear g2 gl2;replace HB:=hdT HB hb9;replace HX:=hdB HX hb9;clear hb9 ;clear x0 x1 x2 x3 x4 x5 x6;have x0:=HX.out.cell 0;have x1:=HX.out.cell 1;have x2:=HX.out.cell 2;have x3:=HX.out.cell 3;have x4:=HX.out.cell 4;have x5:=HX.out.cell 5;have x6:=HX.out.cell 6;simp at x0 x1 x2 x3 x4 x5 x6
           go_wp2_with fail
           go_at_call 124;refine(wa_within_c _ _ _ _).mono ?_;rintro e w1 ⟨rfl,hb9⟩;have g2:=(hb9.cell (p:=⟨GV,0,none⟩) gl).trans g1;have gl2:=Nat.lt_of_lt_of_le gl hb9.size;clear g1 gl;have g1:=g2;have gl:=gl2;clear g2 gl2;replace HB:=hdT HB hb9;replace HX:=hdB HX hb9;clear hb9 ;clear x0 x1 x2 x3 x4 x5 x6;have x0:=HX.out.cell 0;have x1:=HX.out.cell 1;have x2:=HX.out.cell 2;have x3:=HX.out.cell 3;have x4:=HX.out.cell 4;have x5:=HX.out.cell 5;have x6:=HX.out.cell 6;simp at x0 x1 x2 x3 x4 x5 x6
           go_wp2_with fail
           go_at_call 124;refine(wa_within_c _ _ _ _).mono ?_;rintro e w1 ⟨rfl,hb9⟩;have g2:=(hb9.cell (p:=⟨GV,0,none⟩) gl).trans g1;have gl2:=Nat.lt_of_lt_of_le gl hb9.size;clear g1 gl;have g1:=g2;have gl:=gl2;clear g2 gl2;replace HB:=hdT HB hb9;replace HX:=hdB HX hb9;clear hb9 ;clear x0 x1 x2 x3 x4 x5 x6;have x0:=HX.out.cell 0;have x1:=HX.out.cell 1;have x2:=HX.out.cell 2;have x3:=HX.out.cell 3;have x4:=HX.out.cell 4;have x5:=HX.out.cell 5;have x6:=HX.out.cell 6;simp at x0 x1 x2 x3 x4 x5 x6
           go_wp2_with fail
           go_at_call 124;refine(wa_within_c _ _ _ _).mono ?_;rintro e w1 ⟨rfl,hb9⟩;have g2:=(hb9.cell (p:=⟨GV,0,none⟩) gl).trans g1;have gl2:=Nat.lt_of_lt_of_le gl hb9.size;clear g1 gl;have g1:=g2;have gl:=gl2;clear g2 gl2;replace HB:=hdT HB hb9;replace HX:=hdB HX hb9;clear hb9 ;clear x0 x1 x2 x3 x4 x5 x6;have x0:=HX.out.cell 0;have x1:=HX.out.cell 1;have x2:=HX.out.cell 2;have x3:=HX.out.cell 3;have x4:=HX.out.cell 4;have x5:=HX.out.cell 5;have x6:=HX.out.cell 6;simp at x0 x1 x2 x3 x4 x5 x6
           go_wp2_with fail
           go_ret
           exact⟨ret_bool HM.out.symm,HB.out⟩
         · cases h5:inB x.pump 0 100000
           · rw[h0,h1,h2,h3,h4,h5] at hv
             have HM:=hid hv;clear hv
             go_enter Tryz.func123,Tryz.ntmps123
             go_upto_region 1 with fail
             revert g1 gl HB HX;generalize (World.alloc w (.cells #[.int .i64 x.lo,.int .i64 x.hi,.int .i64 x.cap,.int .i64 x.keep,.int .i64 x.pass,.int .i64 x.to,.int .i64 x.pump] 162))=w1;intro g1 gl HB HX;have x0:=HX.out.cell 0;have x1:=HX.out.cell 1;have x2:=HX.out.cell 2;have x3:=HX.out.cell 3;have x4:=HX.out.cell 4;have x5:=HX.out.cell 5;have x6:=HX.out.cell 6;simp at x0 x1 x2 x3 x4 x5 x6
             go_wp2_with fail
             go_at_call 124;refine(wa_within_c _ _ _ _).mono ?_;rintro e w1 ⟨rfl,hb9⟩;have g2:=(hb9.cell (p:=⟨GV,0,none⟩) gl).trans g1;have gl2:=Nat.lt_of_lt_of_le gl hb9.size;clear g1 gl;have g1:=g2;have gl:=gl2;clear g2 gl2;replace HB:=hdT HB hb9;replace HX:=hdB HX hb9;clear hb9 ;clear x0 x1 x2 x3 x4 x5 x6;have x0:=HX.out.cell 0;have x1:=HX.out.cell 1;have x2:=HX.out.cell 2;have x3:=HX.out.cell 3;have x4:=HX.out.cell 4;have x5:=HX.out.cell 5;have x6:=HX.out.cell 6;simp at x0 x1 x2 x3 x4 x5 x6
             go_wp2_with fail
             go_at_call 125;refine(wa_up_c _ _ _ _).mono ?_;rintro e w1 ⟨rfl,hb9⟩;have g2:=(hb9.cell (p:=⟨GV,0,none⟩) gl).trans g1;have gl2:=Nat.lt_of_lt_of_le gl hb9.size;clear g1 gl;have g1:=g2;have gl:=gl2;clear g2 gl2;replace HB:=hdT HB hb9;replace HX:=hdB HX hb9;clear hb9 ;clear x0 x1 x2 x3 x4 x5 x6;have x0:=HX.out.cell 0;have x1:=HX.out.cell 1;have x2:=HX.out.cell 2;have x3:=HX.out.cell 3;have x4:=HX.out.cell 4;have x5:=HX.out.cell 5;have x6:=HX.out.cell 6;simp at x0 x1 x2 x3 x4 x5 x6
             go_wp2_with fail
             go_at_call 124;refine(wa_within_c _ _ _ _).mono ?_;rintro e w1 ⟨rfl,hb9⟩;have g2:=(hb9.cell (p:=⟨GV,0,none⟩) gl).trans g1;have gl2:=Nat.lt_of_lt_of_le gl hb9.size;clear g1 gl;have g1:=g2;have gl:=gl2;clear g2 gl2;replace HB:=hdT HB hb9;replace HX:=hdB HX hb9;clear hb9 ;clear x0 x1 x2 x3 x4 x5 x6;have x0:=HX.out.cell 0;have x1:=HX.out.cell 1;have x2:=HX.out.cell 2;have x3:=HX.out.cell 3;have x4:=HX.out.cell 4;have x5:=HX.out.cell 5;have x6:=HX.out.cell 6;simp at x0 x1 x2 x3 x4 x5 x6
             go_wp2_with fail
             go_at_call 124;refine(wa_within_c _ _ _ _).mono ?_;rintro e w1 ⟨rfl,hb9⟩;have g2:=(hb9.cell (p:=⟨GV,0,none⟩) gl).trans g1;have gl2:=Nat.lt_of_lt_of_le gl hb9.size;clear g1 gl;have g1:=g2;have gl:=gl2;clear g2 gl2;replace HB:=hdT HB hb9;replace HX:=hdB HX hb9;clear hb9 ;clear x0 x1 x2 x3 x4 x5 x6;have x0:=HX.out.cell 0;have x1:=HX.out.cell 1;have x2:=HX.out.cell 2;have x3:=HX.out.cell 3;have x4:=HX.out.cell 4;have x5:=HX.out.cell 5;have x6:=HX.out.cell 6;simp at x0 x1 x2 x3 x4 x5 x6
             go_wp2_with fail
             go_at_call 124;refine(wa_within_c _ _ _ _).mono ?_;rintro e w1 ⟨rfl,hb9⟩;have g2:=(hb9.cell (p:=⟨GV,0,none⟩) gl).trans g1;have gl2:=Nat.lt_of_lt_of_le gl hb9.size;clear g1 gl;have g1:=g2;have gl:=gl2;clear g2 gl2;replace HB:=hdT HB hb9;replace HX:=hdB HX hb9;clear hb9 ;clear x0 x1 x2 x3 x4 x5 x6;have x0:=HX.out.cell 0;have x1:=HX.out.cell 1;have x2:=HX.out.cell 2;have x3:=HX.out.cell 3;have x4:=HX.out.cell 4;have x5:=HX.out.cell 5;have x6:=HX.out.cell 6;simp at x0 x1 x2 x3 x4 x5 x6
             go_wp2_with fail
             go_at_call 124;refine(wa_within_c _ _ _ _).mono ?_;rintro e w1 ⟨rfl,hb9⟩;have g2:=(hb9.cell (p:=⟨GV,0,none⟩) gl).trans g1;have gl2:=Nat.lt_of_lt_of_le gl hb9.size;clear g1 gl;have g1:=g2;have gl:=gl2;clear g2 gl2;replace HB:=hdT HB hb9;replace HX:=hdB HX hb9;clear hb9 ;clear x0 x1 x2 x3 x4 x5 x6;have x0:=HX.out.cell 0;have x1:=HX.out.cell 1;have x2:=HX.out.cell 2;have x3:=HX.out.cell 3;have x4:=HX.out.cell 4;have x5:=HX.out.cell 5;have x6:=HX.out.cell 6;simp at x0 x1 x2 x3 x4 x5 x6
             go_wp2_with fail
             go_ret
             exact⟨ret_bool HM.out.symm,HB.out⟩
           · rw[h0,h1,h2,h3,h4,h5] at hv
             have HM:=hid hv;clear hv
             go_enter Tryz.func123,Tryz.ntmps123
             go_upto_region 1 with fail
             revert g1 gl HB HX;generalize (World.alloc w (.cells #[.int .i64 x.lo,.int .i64 x.hi,.int .i64 x.cap,.int .i64 x.keep,.int .i64 x.pass,.int .i64 x.to,.int .i64 x.pump] 162))=w1;intro g1 gl HB HX;have x0:=HX.out.cell 0;have x1:=HX.out.cell 1;have x2:=HX.out.cell 2;have x3:=HX.out.cell 3;have x4:=HX.out.cell 4;have x5:=HX.out.cell 5;have x6:=HX.out.cell 6;simp at x0 x1 x2 x3 x4 x5 x6
             go_wp2_with fail
             go_at_call 124;refine(wa_within_c _ _ _ _).mono ?_;rintro e w1 ⟨rfl,hb9⟩;have g2:=(hb9.cell (p:=⟨GV,0,none⟩) gl).trans g1;have gl2:=Nat.lt_of_lt_of_le gl hb9.size;clear g1 gl;have g1:=g2;have gl:=gl2;clear g2 gl2;replace HB:=hdT HB hb9;replace HX:=hdB HX hb9;clear hb9 ;clear x0 x1 x2 x3 x4 x5 x6;have x0:=HX.out.cell 0;have x1:=HX.out.cell 1;have x2:=HX.out.cell 2;have x3:=HX.out.cell 3;have x4:=HX.out.cell 4;have x5:=HX.out.cell 5;have x6:=HX.out.cell 6;simp at x0 x1 x2 x3 x4 x5 x6
             go_wp2_with fail
             go_at_call 125;refine(wa_up_c _ _ _ _).mono ?_;rintro e w1 ⟨rfl,hb9⟩;have g2:=(hb9.cell (p:=⟨GV,0,none⟩) gl).trans g1;have gl2:=Nat.lt_of_lt_of_le gl hb9.size;clear g1 gl;have g1:=g2;have gl:=gl2;clear g2 gl2;replace HB:=hdT HB hb9;replace HX:=hdB HX hb9;clear hb9 ;clear x0 x1 x2 x3 x4 x5 x6;have x0:=HX.out.cell 0;have x1:=HX.out.cell 1;have x2:=HX.out.cell 2;have x3:=HX.out.cell 3;have x4:=HX.out.cell 4;have x5:=HX.out.cell 5;have x6:=HX.out.cell 6;simp at x0 x1 x2 x3 x4 x5 x6
             go_wp2_with fail
             go_at_call 124;refine(wa_within_c _ _ _ _).mono ?_;rintro e w1 ⟨rfl,hb9⟩;have g2:=(hb9.cell (p:=⟨GV,0,none⟩) gl).trans g1;have gl2:=Nat.lt_of_lt_of_le gl hb9.size;clear g1 gl;have g1:=g2;have gl:=gl2;clear g2 gl2;replace HB:=hdT HB hb9;replace HX:=hdB HX hb9;clear hb9 ;clear x0 x1 x2 x3 x4 x5 x6;have x0:=HX.out.cell 0;have x1:=HX.out.cell 1;have x2:=HX.out.cell 2;have x3:=HX.out.cell 3;have x4:=HX.out.cell 4;have x5:=HX.out.cell 5;have x6:=HX.out.cell 6;simp at x0 x1 x2 x3 x4 x5 x6
             go_wp2_with fail
             go_at_call 124;refine(wa_within_c _ _ _ _).mono ?_;rintro e w1 ⟨rfl,hb9⟩;have g2:=(hb9.cell (p:=⟨GV,0,none⟩) gl).trans g1;have gl2:=Nat.lt_of_lt_of_le gl hb9.size;clear g1 gl;have g1:=g2;have gl:=gl2;clear g2 gl2;replace HB:=hdT HB hb9;replace HX:=hdB HX hb9;clear hb9 ;clear x0 x1 x2 x3 x4 x5 x6;have x0:=HX.out.cell 0;have x1:=HX.out.cell 1;have x2:=HX.out.cell 2;have x3:=HX.out.cell 3;have x4:=HX.out.cell 4;have x5:=HX.out.cell 5;have x6:=HX.out.cell 6;simp at x0 x1 x2 x3 x4 x5 x6
             go_wp2_with fail
             go_at_call 124;refine(wa_within_c _ _ _ _).mono ?_;rintro e w1 ⟨rfl,hb9⟩;have g2:=(hb9.cell (p:=⟨GV,0,none⟩) gl).trans g1;have gl2:=Nat.lt_of_lt_of_le gl hb9.size;clear g1 gl;have g1:=g2;have gl:=gl2;clear g2 gl2;replace HB:=hdT HB hb9;replace HX:=hdB HX hb9;clear hb9 ;clear x0 x1 x2 x3 x4 x5 x6;have x0:=HX.out.cell 0;have x1:=HX.out.cell 1;have x2:=HX.out.cell 2;have x3:=HX.out.cell 3;have x4:=HX.out.cell 4;have x5:=HX.out.cell 5;have x6:=HX.out.cell 6;simp at x0 x1 x2 x3 x4 x5 x6
             go_wp2_with fail
             go_at_call 124;refine(wa_within_c _ _ _ _).mono ?_;rintro e w1 ⟨rfl,hb9⟩;have g2:=(hb9.cell (p:=⟨GV,0,none⟩) gl).trans g1;have gl2:=Nat.lt_of_lt_of_le gl hb9.size;clear g1 gl;have g1:=g2;have gl:=gl2;clear g2 gl2;replace HB:=hdT HB hb9;replace HX:=hdB HX hb9;clear hb9 ;clear x0 x1 x2 x3 x4 x5 x6;have x0:=HX.out.cell 0;have x1:=HX.out.cell 1;have x2:=HX.out.cell 2;have x3:=HX.out.cell 3;have x4:=HX.out.cell 4;have x5:=HX.out.cell 5;have x6:=HX.out.cell 6;simp at x0 x1 x2 x3 x4 x5 x6
             go_wp2_with fail
             go_ret
             exact⟨ret_bool HM.out.symm,HB.out⟩
theorem celB_eq (n:Nat)(x:Cel):celB n x=decide (celOk n x):=by
 have:celB n x=true↔celOk n x:=by
  simp only[celB,Bool.and_eq_true,inB_iff,upB_iff,celOk]
 cases h:celB n x
 · rw[decide_eq_false];rw[← this,h];exact Bool.false_ne_true
 · rw[decide_eq_true];exact this.1 h
theorem CheckGround_c {C:List Cel}{A:Option Addr}{n c:Nat}(sn0 sn1 so0 so1 melt:Int){w:World}(h:Rd encCel 7 w A n C)(hn:n≤maxLen) :
 Calls Tryz.prog 96 #[.agg #[.slice A n c,.int .i64 sn0,.int .i64 sn1,.int .i64 so0,.int .i64 so1,.int .i64 melt]] w fun e w'=>e=.returned (.int .i64 (if groundOk C sn0 sn1 so0 so1 melt then 0 else 1))∧Below w.heap.size w w':=by
 have hv:groundOk C sn0 sn1 so0 so1 melt=(inB n 1 8 && allB (celB n) C && upB sn0 sn1 100000 && upB so0 so1 1000 && inB melt 0 50 && noSelf C):=by
  have e:allB (fun x=>decide (celOk C.length x)) C=allB (celB n) C:=by rw[h.len];congr 1;funext x;exact(celB_eq n x).symm
  unfold groundOk;rw[e,h.len]
 obtain⟨R,hR⟩:∃ R:Int,R=(if groundOk C sn0 sn1 so0 so1 melt then 0 else 1):=⟨_,rfl⟩;rw[← hR];rw[hv] at hR;clear hv;have hmf:∀(fn:Fn) (first cap:Array Value) (w:World),(Instr.makeFunc fn first cap).run Tryz.prog w=.ok (.func fn first cap) w:=fun _ _ _ _=>rfl;have hal:=(Below.refl w.heap.size w).alloc (Nat.le_refl _) (.cells #[.slice A n c,.int .i64 sn0,.int .i64 sn1,.int .i64 so0,.int .i64 so1,.int .i64 melt] 33);have hx:=Blk.new w 33 #[.slice A n c,.int .i64 sn0,.int .i64 sn1,.int .i64 so0,.int .i64 so1,.int .i64 melt];have HB:=hid hal;have HX:=hid hx;have HR:=hid (h.below hal);have HN:=hid hn;have HL:=hid h.len;clear hal hx h hn;cases h0:inB n 1 8
 · rw[h0] at hR
   have HM:=hid hR;clear hR
   go_enter Tryz.func96,Tryz.ntmps96
   go_upto_region 2 with fail
   revert HB HX HR;generalize (World.alloc w (.cells #[.slice A n c,.int .i64 sn0,.int .i64 sn1,.int .i64 so0,.int .i64 so1,.int .i64 melt] 33))=w1;intro HB HX HR;have x0:=HX.out.cell 0;have x1:=HX.out.cell 1;have x2:=HX.out.cell 2;have x3:=HX.out.cell 3;have x4:=HX.out.cell 4;have x5:=HX.out.cell 5;simp at x0 x1 x2 x3 x4 x5
   go_wp2_with fail
   go_at_call 124;refine(wa_within_c _ _ _ _).mono ?_;rintro e w1 ⟨rfl,hb9⟩;replace HB:=hdT HB hb9;replace HX:=hdB HX hb9;replace HR:=hid (HR.out.below hb9);clear hb9 ;clear x0 x1 x2 x3 x4 x5;have x0:=HX.out.cell 0;have x1:=HX.out.cell 1;have x2:=HX.out.cell 2;have x3:=HX.out.cell 3;have x4:=HX.out.cell 4;have x5:=HX.out.cell 5;simp at x0 x1 x2 x3 x4 x5
   go_wp2_with fail
   go_ret
   exact⟨by rw[HM.out];simp,HB.out⟩
 · cases h1:allB (celB n) C
   · rw[h0,h1] at hR
     have HM:=hid hR;clear hR
     go_enter Tryz.func96,Tryz.ntmps96
     go_upto_region 2 with fail
     revert HB HX HR;generalize (World.alloc w (.cells #[.slice A n c,.int .i64 sn0,.int .i64 sn1,.int .i64 so0,.int .i64 so1,.int .i64 melt] 33))=w1;intro HB HX HR;have x0:=HX.out.cell 0;have x1:=HX.out.cell 1;have x2:=HX.out.cell 2;have x3:=HX.out.cell 3;have x4:=HX.out.cell 4;have x5:=HX.out.cell 5;simp at x0 x1 x2 x3 x4 x5
     go_wp2_with fail
     go_at_call 124;refine(wa_within_c _ _ _ _).mono ?_;rintro e w1 ⟨rfl,hb9⟩;replace HB:=hdT HB hb9;replace HX:=hdB HX hb9;replace HR:=hid (HR.out.below hb9);clear hb9 ;clear x0 x1 x2 x3 x4 x5;have x0:=HX.out.cell 0;have x1:=HX.out.cell 1;have x2:=HX.out.cell 2;have x3:=HX.out.cell 3;have x4:=HX.out.cell 4;have x5:=HX.out.cell 5;simp at x0 x1 x2 x3 x4 x5;have hc:=allCel_c (c:=c) (p:=celB n) w.heap.size w1 HR.out HN.out (fun i x W hx hW=>celValid_c x ((hW.cell (p:=⟨w.heap.size,0,none⟩) HX.out.lt).trans (HX.out.cell 0)) (Nat.lt_of_lt_of_le HX.out.lt hW.size) HN.out);have HC:=hid hc;clear hc
     go_wp2_with fail
     go_at_call 126;refine(HC.out).mono ?_;rintro e w1 ⟨rfl,hb9⟩;replace HB:=hdT HB hb9;replace HX:=hdB HX hb9;replace HR:=hid (HR.out.below hb9);clear hb9 ;clear HC;clear x0 x1 x2 x3 x4 x5;have x0:=HX.out.cell 0;have x1:=HX.out.cell 1;have x2:=HX.out.cell 2;have x3:=HX.out.cell 3;have x4:=HX.out.cell 4;have x5:=HX.out.cell 5;simp at x0 x1 x2 x3 x4 x5
     go_wp2_with fail
     go_ret
     exact⟨by rw[HM.out];simp,HB.out⟩
   · cases h2:upB sn0 sn1 100000
     · rw[h0,h1,h2] at hR
       have HM:=hid hR;clear hR
       go_enter Tryz.func96,Tryz.ntmps96
       go_upto_region 2 with fail
       revert HB HX HR;generalize (World.alloc w (.cells #[.slice A n c,.int .i64 sn0,.int .i64 sn1,.int .i64 so0,.int .i64 so1,.int .i64 melt] 33))=w1;intro HB HX HR;have x0:=HX.out.cell 0;have x1:=HX.out.cell 1;have x2:=HX.out.cell 2;have x3:=HX.out.cell 3;have x4:=HX.out.cell 4;have x5:=HX.out.cell 5;simp at x0 x1 x2 x3 x4 x5
       go_wp2_with fail
       go_at_call 124;refine(wa_within_c _ _ _ _).mono ?_;rintro e w1 ⟨rfl,hb9⟩;replace HB:=hdT HB hb9;replace HX:=hdB HX hb9;replace HR:=hid (HR.out.below hb9);clear hb9 ;clear x0 x1 x2 x3 x4 x5;have x0:=HX.out.cell 0;have x1:=HX.out.cell 1;have x2:=HX.out.cell 2;have x3:=HX.out.cell 3;have x4:=HX.out.cell 4;have x5:=HX.out.cell 5;simp at x0 x1 x2 x3 x4 x5;have hc:=allCel_c (c:=c) (p:=celB n) w.heap.size w1 HR.out HN.out (fun i x W hx hW=>celValid_c x ((hW.cell (p:=⟨w.heap.size,0,none⟩) HX.out.lt).trans (HX.out.cell 0)) (Nat.lt_of_lt_of_le HX.out.lt hW.size) HN.out);have HC:=hid hc;clear hc
       go_wp2_with fail
       go_at_call 126;refine(HC.out).mono ?_;rintro e w1 ⟨rfl,hb9⟩;replace HB:=hdT HB hb9;replace HX:=hdB HX hb9;replace HR:=hid (HR.out.below hb9);clear hb9 ;clear HC;clear x0 x1 x2 x3 x4 x5;have x0:=HX.out.cell 0;have x1:=HX.out.cell 1;have x2:=HX.out.cell 2;have x3:=HX.out.cell 3;have x4:=HX.out.cell 4;have x5:=HX.out.cell 5;simp at x0 x1 x2 x3 x4 x5
       go_wp2_with fail
       go_at_call 125;refine(wa_up_c _ _ _ _).mono ?_;rintro e w1 ⟨rfl,hb9⟩;replace HB:=hdT HB hb9;replace HX:=hdB HX hb9;replace HR:=hid (HR.out.below hb9);clear hb9 ;clear x0 x1 x2 x3 x4 x5;have x0:=HX.out.cell 0;have x1:=HX.out.cell 1;have x2:=HX.out.cell 2;have x3:=HX.out.cell 3;have x4:=HX.out.cell 4;have x5:=HX.out.cell 5;simp at x0 x1 x2 x3 x4 x5
       go_wp2_with fail
       go_ret
       exact⟨by rw[HM.out];simp,HB.out⟩
     · cases h3:upB so0 so1 1000
       · rw[h0,h1,h2,h3] at hR
         have HM:=hid hR;clear hR
         go_enter Tryz.func96,Tryz.ntmps96
         go_upto_region 2 with fail
         revert HB HX HR;generalize (World.alloc w (.cells #[.slice A n c,.int .i64 sn0,.int .i64 sn1,.int .i64 so0,.int .i64 so1,.int .i64 melt] 33))=w1;intro HB HX HR;have x0:=HX.out.cell 0;have x1:=HX.out.cell 1;have x2:=HX.out.cell 2;have x3:=HX.out.cell 3;have x4:=HX.out.cell 4;have x5:=HX.out.cell 5;simp at x0 x1 x2 x3 x4 x5
         go_wp2_with fail
         go_at_call 124;refine(wa_within_c _ _ _ _).mono ?_;rintro e w1 ⟨rfl,hb9⟩;replace HB:=hdT HB hb9;replace HX:=hdB HX hb9;replace HR:=hid (HR.out.below hb9);clear hb9 ;clear x0 x1 x2 x3 x4 x5;have x0:=HX.out.cell 0;have x1:=HX.out.cell 1;have x2:=HX.out.cell 2;have x3:=HX.out.cell 3;have x4:=HX.out.cell 4;have x5:=HX.out.cell 5;simp at x0 x1 x2 x3 x4 x5;have hc:=allCel_c (c:=c) (p:=celB n) w.heap.size w1 HR.out HN.out (fun i x W hx hW=>celValid_c x ((hW.cell (p:=⟨w.heap.size,0,none⟩) HX.out.lt).trans (HX.out.cell 0)) (Nat.lt_of_lt_of_le HX.out.lt hW.size) HN.out);have HC:=hid hc;clear hc
         go_wp2_with fail
         go_at_call 126;refine(HC.out).mono ?_;rintro e w1 ⟨rfl,hb9⟩;replace HB:=hdT HB hb9;replace HX:=hdB HX hb9;replace HR:=hid (HR.out.below hb9);clear hb9 ;clear HC;clear x0 x1 x2 x3 x4 x5;have x0:=HX.out.cell 0;have x1:=HX.out.cell 1;have x2:=HX.out.cell 2;have x3:=HX.out.cell 3;have x4:=HX.out.cell 4;have x5:=HX.out.cell 5;simp at x0 x1 x2 x3 x4 x5
         go_wp2_with fail
         go_at_call 125;refine(wa_up_c _ _ _ _).mono ?_;rintro e w1 ⟨rfl,hb9⟩;replace HB:=hdT HB hb9;replace HX:=hdB HX hb9;replace HR:=hid (HR.out.below hb9);clear hb9 ;clear x0 x1 x2 x3 x4 x5;have x0:=HX.out.cell 0;have x1:=HX.out.cell 1;have x2:=HX.out.cell 2;have x3:=HX.out.cell 3;have x4:=HX.out.cell 4;have x5:=HX.out.cell 5;simp at x0 x1 x2 x3 x4 x5
         go_wp2_with fail
         go_at_call 125;refine(wa_up_c _ _ _ _).mono ?_;rintro e w1 ⟨rfl,hb9⟩;replace HB:=hdT HB hb9;replace HX:=hdB HX hb9;replace HR:=hid (HR.out.below hb9);clear hb9 ;clear x0 x1 x2 x3 x4 x5;have x0:=HX.out.cell 0;have x1:=HX.out.cell 1;have x2:=HX.out.cell 2;have x3:=HX.out.cell 3;have x4:=HX.out.cell 4;have x5:=HX.out.cell 5;simp at x0 x1 x2 x3 x4 x5
         go_wp2_with fail
         go_ret
         exact⟨by rw[HM.out];simp,HB.out⟩
       · cases h4:inB melt 0 50
         · rw[h0,h1,h2,h3,h4] at hR
           have HM:=hid hR;clear hR
           go_enter Tryz.func96,Tryz.ntmps96
           go_upto_region 2 with fail
           revert HB HX HR;generalize (World.alloc w (.cells #[.slice A n c,.int .i64 sn0,.int .i64 sn1,.int .i64 so0,.int .i64 so1,.int .i64 melt] 33))=w1;intro HB HX HR;have x0:=HX.out.cell 0;have x1:=HX.out.cell 1;have x2:=HX.out.cell 2;have x3:=HX.out.cell 3;have x4:=HX.out.cell 4;have x5:=HX.out.cell 5;simp at x0 x1 x2 x3 x4 x5
           go_wp2_with fail
           go_at_call 124;refine(wa_within_c _ _ _ _).mono ?_;rintro e w1 ⟨rfl,hb9⟩;replace HB:=hdT HB hb9;replace HX:=hdB HX hb9;replace HR:=hid (HR.out.below hb9);clear hb9 ;clear x0 x1 x2 x3 x4 x5;have x0:=HX.out.cell 0;have x1:=HX.out.cell 1;have x2:=HX.out.cell 2;have x3:=HX.out.cell 3;have x4:=HX.out.cell 4;have x5:=HX.out.cell 5;simp at x0 x1 x2 x3 x4 x5;have hc:=allCel_c (c:=c) (p:=celB n) w.heap.size w1 HR.out HN.out (fun i x W hx hW=>celValid_c x ((hW.cell (p:=⟨w.heap.size,0,none⟩) HX.out.lt).trans (HX.out.cell 0)) (Nat.lt_of_lt_of_le HX.out.lt hW.size) HN.out);have HC:=hid hc;clear hc
           go_wp2_with fail
           go_at_call 126;refine(HC.out).mono ?_;rintro e w1 ⟨rfl,hb9⟩;replace HB:=hdT HB hb9;replace HX:=hdB HX hb9;replace HR:=hid (HR.out.below hb9);clear hb9 ;clear HC;clear x0 x1 x2 x3 x4 x5;have x0:=HX.out.cell 0;have x1:=HX.out.cell 1;have x2:=HX.out.cell 2;have x3:=HX.out.cell 3;have x4:=HX.out.cell 4;have x5:=HX.out.cell 5;simp at x0 x1 x2 x3 x4 x5
           go_wp2_with fail
           go_at_call 125;refine(wa_up_c _ _ _ _).mono ?_;rintro e w1 ⟨rfl,hb9⟩;replace HB:=hdT HB hb9;replace HX:=hdB HX hb9;replace HR:=hid (HR.out.below hb9);clear hb9 ;clear x0 x1 x2 x3 x4 x5;have x0:=HX.out.cell 0;have x1:=HX.out.cell 1;have x2:=HX.out.cell 2;have x3:=HX.out.cell 3;have x4:=HX.out.cell 4;have x5:=HX.out.cell 5;simp at x0 x1 x2 x3 x4 x5
           go_wp2_with fail
           go_at_call 125;refine(wa_up_c _ _ _ _).mono ?_;rintro e w1 ⟨rfl,hb9⟩;replace HB:=hdT HB hb9;replace HX:=hdB HX hb9;replace HR:=hid (HR.out.below hb9);clear hb9 ;clear x0 x1 x2 x3 x4 x5;have x0:=HX.out.cell 0;have x1:=HX.out.cell 1;have x2:=HX.out.cell 2;have x3:=HX.out.cell 3;have x4:=HX.out.cell 4;have x5:=HX.out.cell 5;simp at x0 x1 x2 x3 x4 x5
           go_wp2_with fail
           go_at_call 124;refine(wa_within_c _ _ _ _).mono ?_;rintro e w1 ⟨rfl,hb9⟩;replace HB:=hdT HB hb9;replace HX:=hdB HX hb9;replace HR:=hid (HR.out.below hb9);clear hb9 ;clear x0 x1 x2 x3 x4 x5;have x0:=HX.out.cell 0;have x1:=HX.out.cell 1;have x2:=HX.out.cell 2;have x3:=HX.out.cell 3;have x4:=HX.out.cell 4;have x5:=HX.out.cell 5;simp at x0 x1 x2 x3 x4 x5
           go_wp2_with fail
           go_ret
           exact⟨by rw[HM.out];simp,HB.out⟩
         · rw[h0,h1,h2,h3,h4] at hR
           have HM:=hid hR;clear hR
           go_enter Tryz.func96,Tryz.ntmps96
           go_upto_region 2 with fail
           revert HB HX HR;generalize (World.alloc w (.cells #[.slice A n c,.int .i64 sn0,.int .i64 sn1,.int .i64 so0,.int .i64 so1,.int .i64 melt] 33))=w1;intro HB HX HR;have x0:=HX.out.cell 0;have x1:=HX.out.cell 1;have x2:=HX.out.cell 2;have x3:=HX.out.cell 3;have x4:=HX.out.cell 4;have x5:=HX.out.cell 5;simp at x0 x1 x2 x3 x4 x5
           go_wp2_with fail
           go_at_call 124;refine(wa_within_c _ _ _ _).mono ?_;rintro e w1 ⟨rfl,hb9⟩;replace HB:=hdT HB hb9;replace HX:=hdB HX hb9;replace HR:=hid (HR.out.below hb9);clear hb9 ;clear x0 x1 x2 x3 x4 x5;have x0:=HX.out.cell 0;have x1:=HX.out.cell 1;have x2:=HX.out.cell 2;have x3:=HX.out.cell 3;have x4:=HX.out.cell 4;have x5:=HX.out.cell 5;simp at x0 x1 x2 x3 x4 x5;have hc:=allCel_c (c:=c) (p:=celB n) w.heap.size w1 HR.out HN.out (fun i x W hx hW=>celValid_c x ((hW.cell (p:=⟨w.heap.size,0,none⟩) HX.out.lt).trans (HX.out.cell 0)) (Nat.lt_of_lt_of_le HX.out.lt hW.size) HN.out);have HC:=hid hc;clear hc
           go_wp2_with fail
           go_at_call 126;refine(HC.out).mono ?_;rintro e w1 ⟨rfl,hb9⟩;replace HB:=hdT HB hb9;replace HX:=hdB HX hb9;replace HR:=hid (HR.out.below hb9);clear hb9 ;clear HC;clear x0 x1 x2 x3 x4 x5;have x0:=HX.out.cell 0;have x1:=HX.out.cell 1;have x2:=HX.out.cell 2;have x3:=HX.out.cell 3;have x4:=HX.out.cell 4;have x5:=HX.out.cell 5;simp at x0 x1 x2 x3 x4 x5
           go_wp2_with fail
           go_at_call 125;refine(wa_up_c _ _ _ _).mono ?_;rintro e w1 ⟨rfl,hb9⟩;replace HB:=hdT HB hb9;replace HX:=hdB HX hb9;replace HR:=hid (HR.out.below hb9);clear hb9 ;clear x0 x1 x2 x3 x4 x5;have x0:=HX.out.cell 0;have x1:=HX.out.cell 1;have x2:=HX.out.cell 2;have x3:=HX.out.cell 3;have x4:=HX.out.cell 4;have x5:=HX.out.cell 5;simp at x0 x1 x2 x3 x4 x5
           go_wp2_with fail
           go_at_call 125;refine(wa_up_c _ _ _ _).mono ?_;rintro e w1 ⟨rfl,hb9⟩;replace HB:=hdT HB hb9;replace HX:=hdB HX hb9;replace HR:=hid (HR.out.below hb9);clear hb9 ;clear x0 x1 x2 x3 x4 x5;have x0:=HX.out.cell 0;have x1:=HX.out.cell 1;have x2:=HX.out.cell 2;have x3:=HX.out.cell 3;have x4:=HX.out.cell 4;have x5:=HX.out.cell 5;simp at x0 x1 x2 x3 x4 x5
           go_wp2_with fail
           go_at_call 124;refine(wa_within_c _ _ _ _).mono ?_;rintro e w1 ⟨rfl,hb9⟩;replace HB:=hdT HB hb9;replace HX:=hdB HX hb9;replace HR:=hid (HR.out.below hb9);clear hb9 ;clear x0 x1 x2 x3 x4 x5;have x0:=HX.out.cell 0;have x1:=HX.out.cell 1;have x2:=HX.out.cell 2;have x3:=HX.out.cell 3;have x4:=HX.out.cell 4;have x5:=HX.out.cell 5;simp at x0 x1 x2 x3 x4 x5
           -- [Z
           go_wp2_with fail
           go_loopw [4,5,40] (fun _ _ i wr=>∃ k:Nat,k≤n∧i=.int .i64 (k:Int)∧Below w1.heap.size w1 wr∧∀ j,j<k→(celA C j).to≠(j:Int)) (fun _ _ i _=>n - (intOf i).toNat)
           case atStart=>exact⟨0,Nat.zero_le _,rfl,Below.refl _ _,fun j hj=>absurd hj (by omega)⟩
           case round =>
            obtain⟨k,hk,rfl,hb,hall⟩:=hrel;have HA:=hid hall;have hn9:=HN.out;unfold maxLen at hn9;have HBW:=hid hb;clear hall
            by_cases hlt:k<n
            · obtain⟨b,o,x,rfl,hbl,hx,y0,y1,y2,y3,y4,y5,y6⟩:=(HR.out.below hb).atCel hlt
              have hce:celA C k=x:=by unfold celA;rw[List.getD_eq_getElem?_getD,hx];rfl
              have HCE:=hid hce;clear hx hce hb
              by_cases hto:x.to=(k:Int)
              · have HT:=hid hto
                go_wp2_with fail
                go_ret
                refine⟨?_,HB.out.trans ((HBW.out.alloc HBW.out.size _).mono (by have:=HB.out.size;omega))⟩
                have hns:noSelf C=false:=by
                 cases hq:noSelf C with
                 | false=>rfl
                 | true=>exact absurd (by rw[HCE.out];exact HT.out) (noSelf_iff.1 hq k (by rw[HL.out];exact hlt))
                rw[HM.out,hns];simp
              · go_wp2_with fail
                go_roundw
                case rel=>exact⟨k+1,by omega,by go_num,(HBW.out.alloc HBW.out.size _),fun j hj=>by
                 rcases Nat.lt_or_ge j k with hjk | hjk
                 · exact HA.out j hjk
                 · obtain rfl:j=k:=by omega
                   rw[HCE.out];exact hto⟩
                case measure=>simp[intOf];omega
            · obtain rfl:k=n:=by omega
              clear hb
              go_wp2_with fail
              go_ret
              refine⟨?_,HB.out.trans (HBW.out.mono (by have:=HB.out.size;omega))⟩;rw[HM.out,noSelf_iff.2 (fun i hi=>HA.out i (by rw[HL.out] at hi;exact hi))];simp
           -- Z]
theorem dayValid_c (x:Dy)(w:World):Calls Tryz.prog 171 #[.agg #[.int .i64 x.lo,.int .i64 x.hi,.int .i64 x.warm]] w fun e w'=>e=.returned (.bool (dayOk x))∧Below w.heap.size w w':=by
 have hv:dayOk x=(upB x.lo x.hi 1000 && inB x.warm (-50) 50):=rfl;have hal:=(Below.refl w.heap.size w).alloc (Nat.le_refl _) (.cells #[.int .i64 x.lo,.int .i64 x.hi,.int .i64 x.warm] 106);have hx:=Blk.new w 106 #[.int .i64 x.lo,.int .i64 x.hi,.int .i64 x.warm];have HB:=hid hal;have HX:=hid hx;clear hal hx;cases h0:upB x.lo x.hi 1000
 · rw[h0] at hv
   have HM:=hid hv;clear hv
   go_enter Tryz.func171,Tryz.ntmps171
   go_upto_region 1 with fail
   revert HB HX;generalize (World.alloc w (.cells #[.int .i64 x.lo,.int .i64 x.hi,.int .i64 x.warm] 106))=w1;intro HB HX;have x0:=HX.out.cell 0;have x1:=HX.out.cell 1;have x2:=HX.out.cell 2;simp at x0 x1 x2
   go_wp2_with fail
   go_at_call 125;refine(wa_up_c _ _ _ _).mono ?_;rintro e w1 ⟨rfl,hb9⟩;replace HB:=hdT HB hb9;replace HX:=hdB HX hb9;clear hb9 ;clear x0 x1 x2
   go_wp2_with fail
   go_ret
   exact⟨ret_bool HM.out.symm,HB.out⟩
 · rw[h0,Bool.true_and] at hv
   have HM:=hid hv;clear hv
   go_enter Tryz.func171,Tryz.ntmps171
   go_upto_region 1 with fail
   revert HB HX;generalize (World.alloc w (.cells #[.int .i64 x.lo,.int .i64 x.hi,.int .i64 x.warm] 106))=w1;intro HB HX;have x0:=HX.out.cell 0;have x1:=HX.out.cell 1;have x2:=HX.out.cell 2;simp at x0 x1 x2
   go_wp2_with fail
   go_at_call 125;refine(wa_up_c _ _ _ _).mono ?_;rintro e w1 ⟨rfl,hb9⟩;replace HB:=hdT HB hb9;replace HX:=hdB HX hb9;clear hb9 ;clear x0 x1 x2;have x0:=HX.out.cell 0;have x1:=HX.out.cell 1;have x2:=HX.out.cell 2;simp at x0 x1 x2
   go_wp2_with fail
   go_at_call 124;refine(wa_within_c _ _ _ _).mono ?_;rintro e w1 ⟨rfl,hb9⟩;replace HB:=hdT HB hb9;replace HX:=hdB HX hb9;clear hb9 ;clear x0 x1 x2
   go_wp2_with fail
   go_ret
   exact⟨ret_bool HM.out.symm,HB.out⟩
end Go.Proofs.YtkhcliibilkefaaGreatDoor
