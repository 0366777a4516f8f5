/- CONTRACTS of package water: what is valid of a ground. Written by mkyground.py. -/
import Derived.Test.YtlaengnhfjlphaaGreatDoorPut
import Derived.Test.YtlaengnhfjlphaaGreatDoorYLeaf
set_option linter.unusedVariables false
set_option linter.unusedSimpArgs false
set_option maxRecDepth 100000
set_option maxHeartbeats 8000000
namespace Go.Proofs.YtlaengnhfjlphaaGreatDoor
open Lib (hid)
open Go.RowKit Go.Proofs
attribute [local go_sem ↓] Go.wp_at_zero Go.wp_at_succ
theorem wa_within_c (n lo hi:Int)(w:World) :
 Calls Tryz.prog 105 #[.int .i64 n,.int .i64 lo,.int .i64 hi] w fun e w'=>e=.returned (.bool (inB n lo hi))∧Below w.heap.size w w':=by
 by_cases h:lo≤n
 · go_enter Tryz.func105,Tryz.ntmps105
   go_wp2
   go_ret
   exact⟨ret_bool (by simp[inB,h]),Below.refl _ _⟩
 · have h':n < lo:=by omega
   go_enter Tryz.func105,Tryz.ntmps105
   go_wp2
   go_ret
   exact⟨ret_bool (inB_not.2 (.inl h')).symm,Below.refl _ _⟩
theorem wa_up_c (lo hi most:Int)(w:World) :
 Calls Tryz.prog 106 #[.agg #[.int .i64 lo,.int .i64 hi],.int .i64 most] w fun e w'=>e=.returned (.bool (upB lo hi most))∧Below w.heap.size w w':=by
 by_cases h:0≤lo
 · by_cases h2:lo≤hi
   · go_enter Tryz.func106,Tryz.ntmps106
     go_wp2
     go_ret
     exact⟨ret_bool (by simp[upB,h];omega),(Below.refl _ _).alloc (Nat.le_refl _) _⟩
   · go_enter Tryz.func106,Tryz.ntmps106
     go_wp2
     go_ret
     exact⟨ret_bool (by simp[upB,h];omega),(Below.refl _ _).alloc (Nat.le_refl _) _⟩
 · go_enter Tryz.func106,Tryz.ntmps106
   go_wp2
   go_ret
   exact⟨ret_bool (by simp[upB];omega),(Below.refl _ _).alloc (Nat.le_refl _) _⟩
def celB (n:Nat)(x:Cel):Bool:=inB x.cap 1 100000 && (upB x.lo x.hi x.cap && (inB x.keep 0 x.cap && (inB x.pass 0 1000 && (inB x.to (-1) ((n:Int) - 1) && (inB x.pump 0 100000)))))
theorem celValid_c (x:Cel){GV:Nat}{GA:Option Addr}{n gc:Nat}{w:World}(hG:w.cell? ⟨GV,0,none⟩=some (.slice GA n gc))(hGl:GV < w.heap.size)(hn:n≤maxLen):Calls Tryz.prog 104 #[.agg #[.int .i64 x.lo,.int .i64 x.hi,.int .i64 x.cap,.int .i64 x.keep,.int .i64 x.pass,.int .i64 x.to,.int .i64 x.pump],.pointer (some ⟨GV,0,none⟩)] w fun e w'=>e=.returned (.bool (celB n x))∧Below w.heap.size w w':=by
 have hv:celB n x=(inB x.cap 1 100000 && (upB x.lo x.hi x.cap && (inB x.keep 0 x.cap && (inB x.pass 0 1000 && (inB x.to (-1) ((n:Int) - 1) && (inB x.pump 0 100000)))))):=rfl;unfold maxLen at hn;have hal:=(Below.refl w.heap.size w).alloc (Nat.le_refl _) (.cells #[.int .i64 x.lo,.int .i64 x.hi,.int .i64 x.cap,.int .i64 x.keep,.int .i64 x.pass,.int .i64 x.to,.int .i64 x.pump] 130);have hx:=Blk.new w 130 #[.int .i64 x.lo,.int .i64 x.hi,.int .i64 x.cap,.int .i64 x.keep,.int .i64 x.pass,.int .i64 x.to,.int .i64 x.pump];have g1:=(hal.cell (p:=⟨GV,0,none⟩) hGl).trans hG;have gl:GV < (w.alloc (.cells #[.int .i64 x.lo,.int .i64 x.hi,.int .i64 x.cap,.int .i64 x.keep,.int .i64 x.pass,.int .i64 x.to,.int .i64 x.pump] 130)).heap.size:=Nat.lt_of_lt_of_le hGl hal.size;have HB:=hid hal;have HX:=hid hx;clear hal hx hG hGl;cases h0:inB x.cap 1 100000
 · rw[h0] at hv
   have HM:=hid hv;clear hv
   go_enter Tryz.func104,Tryz.ntmps104
   go_upto_region 1 with fail
   revert g1 gl HB HX;generalize (World.alloc w (.cells #[.int .i64 x.lo,.int .i64 x.hi,.int .i64 x.cap,.int .i64 x.keep,.int .i64 x.pass,.int .i64 x.to,.int .i64 x.pump] 130))=w1;intro g1 gl HB HX;have x0:=HX.out.cell 0;have x1:=HX.out.cell 1;have x2:=HX.out.cell 2;have x3:=HX.out.cell 3;have x4:=HX.out.cell 4;have x5:=HX.out.cell 5;have x6:=HX.out.cell 6;simp at x0 x1 x2 x3 x4 x5 x6
   go_wp2_with fail
   go_at_call 105;refine(wa_within_c _ _ _ _).mono ?_;rintro e w1 ⟨rfl,hb9⟩;have g2:=(hb9.cell (p:=⟨GV,0,none⟩) gl).trans g1;have gl2:=Nat.lt_of_lt_of_le gl hb9.size;clear g1 gl;have g1:=g2;have gl:=gl2;clear g2 gl2;replace HB:=hdT HB hb9;replace HX:=hdB HX hb9;clear hb9 ;clear x0 x1 x2 x3 x4 x5 x6;have x0:=HX.out.cell 0;have x1:=HX.out.cell 1;have x2:=HX.out.cell 2;have x3:=HX.out.cell 3;have x4:=HX.out.cell 4;have x5:=HX.out.cell 5;have x6:=HX.out.cell 6;simp at x0 x1 x2 x3 x4 x5 x6
   go_wp2_with fail
   go_ret
   exact⟨ret_bool HM.out.symm,HB.out⟩
 · cases h1:upB x.lo x.hi x.cap
   · rw[h0,h1] at hv
     have HM:=hid hv;clear hv
     go_enter Tryz.func104,Tryz.ntmps104
     go_upto_region 1 with fail
     revert g1 gl HB HX;generalize (World.alloc w (.cells #[.int .i64 x.lo,.int .i64 x.hi,.int .i64 x.cap,.int .i64 x.keep,.int .i64 x.pass,.int .i64 x.to,.int .i64 x.pump] 130))=w1;intro g1 gl HB HX;have x0:=HX.out.cell 0;have x1:=HX.out.cell 1;have x2:=HX.out.cell 2;have x3:=HX.out.cell 3;have x4:=HX.out.cell 4;have x5:=HX.out.cell 5;have x6:=HX.out.cell 6;simp at x0 x1 x2 x3 x4 x5 x6
     go_wp2_with fail
     go_at_call 105;refine(wa_within_c _ _ _ _).mono ?_;rintro e w1 ⟨rfl,hb9⟩;have g2:=(hb9.cell (p:=⟨GV,0,none⟩) gl).trans g1;have gl2:=Nat.lt_of_lt_of_le gl hb9.size;clear g1 gl;have g1:=g2;have gl:=gl2;clear g2 gl2;replace HB:=hdT HB hb9;replace HX:=hdB HX hb9;clear hb9 ;clear x0 x1 x2 x3 x4 x5 x6;have x0:=HX.out.cell 0;have x1:=HX.out.cell 1;have x2:=HX.out.cell 2;have x3:=HX.out.cell 3;have x4:=HX.out.cell 4;have x5:=HX.out.cell 5;have x6:=HX.out.cell 6;simp at x0 x1 x2 x3 x4 x5 x6
     go_wp2_with fail
     go_at_call 106;refine(wa_up_c _ _ _ _).mono ?_;rintro e w1 ⟨rfl,hb9⟩;have g2:=(hb9.cell (p:=⟨GV,0,none⟩) gl).trans g1;have gl2:=Nat.lt_of_lt_of_le gl hb9.size;clear g1 gl;have g1:=g2;have gl:=gl2;clear g2 gl2;replace HB:=hdT HB hb9;replace HX:=hdB HX hb9;clear hb9 ;clear x0 x1 x2 x3 x4 x5 x6;have x0:=HX.out.cell 0;have x1:=HX.out.cell 1;have x2:=HX.out.cell 2;have x3:=HX.out.cell 3;have x4:=HX.out.cell 4;have x5:=HX.out.cell 5;have x6:=HX.out.cell 6;simp at x0 x1 x2 x3 x4 x5 x6
     go_wp2_with fail
     go_ret
     exact⟨ret_bool HM.out.symm,HB.out⟩
   · cases h2:inB x.keep 0 x.cap
     · rw[h0,h1,h2] at hv
       have HM:=hid hv;clear hv
       go_enter Tryz.func104,Tryz.ntmps104
       go_upto_region 1 with fail
       revert g1 gl HB HX;generalize (World.alloc w (.cells #[.int .i64 x.lo,.int .i64 x.hi,.int .i64 x.cap,.int .i64 x.keep,.int .i64 x.pass,.int .i64 x.to,.int .i64 x.pump] 130))=w1;intro g1 gl HB HX;have x0:=HX.out.cell 0;have x1:=HX.out.cell 1;have x2:=HX.out.cell 2;have x3:=HX.out.cell 3;have x4:=HX.out.cell 4;have x5:=HX.out.cell 5;have x6:=HX.out.cell 6;simp at x0 x1 x2 x3 x4 x5 x6
       go_wp2_with fail
       go_at_call 105;refine(wa_within_c _ _ _ _).mono ?_;rintro e w1 ⟨rfl,hb9⟩;have g2:=(hb9.cell (p:=⟨GV,0,none⟩) gl).trans g1;have gl2:=Nat.lt_of_lt_of_le gl hb9.size;clear g1 gl;have g1:=g2;have gl:=gl2;clear g2 gl2;replace HB:=hdT HB hb9;replace HX:=hdB HX hb9;clear hb9 ;clear x0 x1 x2 x3 x4 x5 x6;have x0:=HX.out.cell 0;have x1:=HX.out.cell 1;have x2:=HX.out.cell 2;have x3:=HX.out.cell 3;have x4:=HX.out.cell 4;have x5:=HX.out.cell 5;have x6:=HX.out.cell 6;simp at x0 x1 x2 x3 x4 x5 x6
       go_wp2_with fail
       go_at_call 106;refine(wa_up_c _ _ _ _).mono ?_;rintro e w1 ⟨rfl,hb9⟩;have g2:=(hb9.cell (p:=⟨GV,0,none⟩) gl).trans g1;have gl2:=Nat.lt_of_lt_of_le gl hb9.size;clear g1 gl;have g1:=g2;have gl:=gl2;clear g2 gl2;replace HB:=hdT HB hb9;replace HX:=hdB HX hb9;clear hb9 ;clear x0 x1 x2 x3 x4 x5 x6;have x0:=HX.out.cell 0;have x1:=HX.out.cell 1;have x2:=HX.out.cell 2;have x3:=HX.out.cell 3;have x4:=HX.out.cell 4;have x5:=HX.out.cell 5;have x6:=HX.out.cell 6;simp at x0 x1 x2 x3 x4 x5 x6
       go_wp2_with fail
       go_at_call 105;refine(wa_within_c _ _ _ _).mono ?_;rintro e w1 ⟨rfl,hb9⟩;have g2:=(hb9.cell (p:=⟨GV,0,none⟩) gl).trans g1;have gl2:=Nat.lt_of_lt_of_le gl hb9.size;clear g1 gl;have g1:=g2;have gl:=gl2;clear g2 gl2;replace HB:=hdT HB hb9;replace HX:=hdB HX hb9;clear hb9 ;clear x0 x1 x2 x3 x4 x5 x6;have x0:=HX.out.cell 0;have x1:=HX.out.cell 1;have x2:=HX.out.cell 2;have x3:=HX.out.cell 3;have x4:=HX.out.cell 4;have x5:=HX.out.cell 5;have x6:=HX.out.cell 6;simp at x0 x1 x2 x3 x4 x5 x6
       go_wp2_with fail
       go_ret
       exact⟨ret_bool HM.out.symm,HB.out⟩
     · cases h3:inB x.pass 0 1000
       · rw[h0,h1,h2,h3] at hv
         have HM:=hid hv;clear hv
         go_enter Tryz.func104,Tryz.ntmps104
         go_upto_region 1 with fail
         revert g1 gl HB HX;generalize (World.alloc w (.cells #[.int .i64 x.lo,.int .i64 x.hi,.int .i64 x.cap,.int .i64 x.keep,.int .i64 x.pass,.int .i64 x.to,.int .i64 x.pump] 130))=w1;intro g1 gl HB HX;have x0:=HX.out.cell 0;have x1:=HX.out.cell 1;have x2:=HX.out.cell 2;have x3:=HX.out.cell 3;have x4:=HX.out.cell 4;have x5:=HX.out.cell 5;have x6:=HX.out.cell 6;simp at x0 x1 x2 x3 x4 x5 x6
         go_wp2_with fail
         go_at_call 105;refine(wa_within_c _ _ _ _).mono ?_;rintro e w1 ⟨rfl,hb9⟩;have g2:=(hb9.cell (p:=⟨GV,0,none⟩) gl).trans g1;have gl2:=Nat.lt_of_lt_of_le gl hb9.size;clear g1 gl;have g1:=g2;have gl:=gl2;clear g2 gl2;replace HB:=hdT HB hb9;replace HX:=hdB HX hb9;clear hb9 ;clear x0 x1 x2 x3 x4 x5 x6;have x0:=HX.out.cell 0;have x1:=HX.out.cell 1;have x2:=HX.out.cell 2;have x3:=HX.out.cell 3;have x4:=HX.out.cell 4;have x5:=HX.out.cell 5;have x6:=HX.out.cell 6;simp at x0 x1 x2 x3 x4 x5 x6
         go_wp2_with fail
         go_at_call 106;refine(wa_up_c _ _ _ _).mono ?_;rintro e w1 ⟨rfl,hb9⟩;have g2:=(hb9.cell (p:=⟨GV,0,none⟩) gl).trans g1;have gl2:=Nat.lt_of_lt_of_le gl hb9.size;clear g1 gl;have g1:=g2;have gl:=gl2;clear g2 gl2;replace HB:=hdT HB hb9;replace HX:=hdB HX hb9;clear hb9 ;clear x0 x1 x2 x3 x4 x5 x6;have x0:=HX.out.cell 0;have x1:=HX.out.cell 1;have x2:=HX.out.cell 2;have x3:=HX.out.cell 3;have x4:=HX.out.cell 4;have x5:=HX.out.cell 5;have x6:=HX.out.cell 6;simp at x0 x1 x2 x3 x4 x5 x6
         go_wp2_with fail
         go_at_call 105;refine(wa_within_c _ _ _ _).mono ?_;rintro e w1 ⟨rfl,hb9⟩;have g2:=(hb9.cell (p:=⟨GV,0,none⟩) gl).trans g1;have gl2:=Nat.lt_of_lt_of_le gl hb9.size;clear g1 gl;have g1:=g2;have gl:=gl2;clear g2 gl2;replace HB:=hdT HB hb9;replace HX:=hdB HX hb9;clear hb9 ;clear x0 x1 x2 x3 x4 x5 x6;have x0:=HX.out.cell 0;have x1:=HX.out.cell 1;have x2:=HX.out.cell 2;have x3:=HX.out.cell 3;have x4:=HX.out.cell 4;have x5:=HX.out.cell 5;have x6:=HX.out.cell 6;simp at x0 x1 x2 x3 x4 x5 x6
         go_wp2_with fail
         go_at_call 105;refine(wa_within_c _ _ _ _).mono ?_;rintro e w1 ⟨rfl,hb9⟩;have g2:=(hb9.cell (p:=⟨GV,0,none⟩) gl).trans g1;have gl2:=Nat.lt_of_lt_of_le gl hb9.size;clear g1 gl;have g1:=g2;have gl:=gl2;clear g2 gl2;replace HB:=hdT HB hb9;replace HX:=hdB HX hb9;clear hb9 ;clear x0 x1 x2 x3 x4 x5 x6;have x0:=HX.out.cell 0;have x1:=HX.out.cell 1;have x2:=HX.out.cell 2;have x3:=HX.out.cell 3;have x4:=HX.out.cell 4;have x5:=HX.out.cell 5;have x6:=HX.out.cell 6;simp at x0 x1 x2 x3 x4 x5 x6
         go_wp2_with fail
         go_ret
         exact⟨ret_bool HM.out.symm,HB.out⟩
       · cases h4:inB x.to (-1) ((n:Int) - 1)
         · rw[h0,h1,h2,h3,h4] at hv
           have HM:=hid hv;clear hv
           go_enter Tryz.func104,Tryz.ntmps104
           go_upto_region 1 with fail
           revert g1 gl HB HX;generalize (World.alloc w (.cells #[.int .i64 x.lo,.int .i64 x.hi,.int .i64 x.cap,.int .i64 x.keep,.int .i64 x.pass,.int .i64 x.to,.int .i64 x.pump] 130))=w1;intro g1 gl HB HX;have x0:=HX.out.cell 0;have x1:=HX.out.cell 1;have x2:=HX.out.cell 2;have x3:=HX.out.cell 3;have x4:=HX.out.cell 4;have x5:=HX.out.cell 5;have x6:=HX.out.cell 6;simp at x0 x1 x2 x3 x4 x5 x6
           go_wp2_with fail
           go_at_call 105;refine(wa_within_c _ _ _ _).mono ?_;rintro e w1 ⟨rfl,hb9⟩;have g2:=(hb9.cell (p:=⟨GV,0,none⟩) gl).trans g1;have gl2:=Nat.lt_of_lt_of_le gl hb9.size;clear g1 gl;have g1:=g2;have gl:=gl2;clear g2 gl2;replace HB:=hdT HB hb9;replace HX:=hdB HX hb9;clear hb9 ;clear x0 x1 x2 x3 x4 x5 x6;have x0:=HX.out.cell 0;have x1:=HX.out.cell 1;have x2:=HX.out.cell 2;have x3:=HX.out.cell 3;have x4:=HX.out.cell 4;have x5:=HX.out.cell 5;have x6:=HX.out.cell 6;simp at x0 x1 x2 x3 x4 x5 x6
           go_wp2_with fail
           go_at_call 106;refine(wa_up_c _ _ _ _).mono ?_;rintro e w1 ⟨rfl,hb9⟩;have g2:=(hb9.cell (p:=⟨GV,0,none⟩) gl).trans g1;have gl2:=Nat.lt_of_lt_of_le gl hb9.size;clear g1 gl;have g1:=g2;have gl:=gl2;clear g2 gl2;replace HB:=hdT HB hb9;replace HX:=hdB HX hb9;clear hb9 ;clear x0 x1 x2 x3 x4 x5 x6;have x0:=HX.out.cell 0;have x1:=HX.out.cell 1;have x2:=HX.out.cell 2;have x3:=HX.out.cell 3;have x4:=HX.out.cell 4;have x5:=HX.out.cell 5;have x6:=HX.out.cell 6;simp at x0 x1 x2 x3 x4 x5 x6
           go_wp2_with fail
           go_at_call 105;refine(wa_within_c _ _ _ _).mono ?_;rintro e w1 ⟨rfl,hb9⟩;have g2:=(hb9.cell (p:=⟨GV,0,none⟩) gl).trans g1;have gl2:=Nat.lt_of_lt_of_le gl hb9.size;clear g1 gl;have g1:=g2;have gl:=gl2;clear g2 gl2;replace HB:=hdT HB hb9;replace HX:=hdB HX hb9;clear hb9 ;clear x0 x1 x2 x3 x4 x5 x6;have x0:=HX.out.cell 0;have x1:=HX.out.cell 1;have x2:=HX.out.cell 2;have x3:=HX.out.cell 3;have x4:=HX.out.cell 4;have x5:=HX.out.cell 5;have x6:=HX.out.cell 6;simp at x0 x1 x2 x3 x4 x5 x6
           go_wp2_with fail
           go_at_call 105;refine(wa_within_c _ _ _ _).mono ?_;rintro e w1 ⟨rfl,hb9⟩;have g2:=(hb9.cell (p:=⟨GV,0,none⟩) gl).trans g1;have gl2:=Nat.lt_of_lt_of_le gl hb9.size;clear g1 gl;have g1:=g2;have gl:=gl2;clear g2 gl2;replace HB:=hdT HB hb9;replace HX:=hdB HX hb9;clear hb9 ;clear x0 x1 x2 x3 x4 x5 x6;have x0:=HX.out.cell 0;have x1:=HX.out.cell 1;have x2:=HX.out.cell 2;have x3:=HX.out.cell 3;have x4:=HX.out.cell 4;have x5:=HX.out.cell 5;have x6:=HX.out.cell 6;simp at x0 x1 x2 x3 x4 x5 x6
           go_wp2_with fail
           go_at_call 105;refine(wa_within_c _ _ _ _).mono ?_;rintro e w1 ⟨rfl,hb9⟩;have g2:=(hb9.cell (p:=⟨GV,0,none⟩) gl).trans g1;have gl2:=Nat.lt_of_lt_of_le gl hb9.size;clear g1 gl;have g1:=g2;have gl:=gl2;clear g2 gl2;replace HB:=hdT HB hb9;replace HX:=hdB HX hb9;clear hb9 ;clear x0 x1 x2 x3 x4 x5 x6;have x0:=HX.out.cell 0;have x1:=HX.out.cell 1;have x2:=HX.out.cell 2;have x3:=HX.out.cell 3;have x4:=HX.out.cell 4;have x5:=HX.out.cell 5;have x6:=HX.out.cell 6;simp at x0 x1 x2 x3 x4 x5 x6
           go_wp2_with fail
           go_ret
           exact⟨ret_bool HM.out.symm,HB.out⟩
         · cases h5:inB x.pump 0 100000
           · rw[h0,h1,h2,h3,h4,h5] at hv
             have HM:=hid hv;clear hv
             go_enter Tryz.func104,Tryz.ntmps104
             go_upto_region 1 with fail
             revert g1 gl HB HX;generalize (World.alloc w (.cells #[.int .i64 x.lo,.int .i64 x.hi,.int .i64 x.cap,.int .i64 x.keep,.int .i64 x.pass,.int .i64 x.to,.int .i64 x.pump] 130))=w1;intro g1 gl HB HX;have x0:=HX.out.cell 0;have x1:=HX.out.cell 1;have x2:=HX.out.cell 2;have x3:=HX.out.cell 3;have x4:=HX.out.cell 4;have x5:=HX.out.cell 5;have x6:=HX.out.cell 6;simp at x0 x1 x2 x3 x4 x5 x6
             go_wp2_with fail
             go_at_call 105;refine(wa_within_c _ _ _ _).mono ?_;rintro e w1 ⟨rfl,hb9⟩;have g2:=(hb9.cell (p:=⟨GV,0,none⟩) gl).trans g1;have gl2:=Nat.lt_of_lt_of_le gl hb9.size;clear g1 gl;have g1:=g2;have gl:=gl2;clear g2 gl2;replace HB:=hdT HB hb9;replace HX:=hdB HX hb9;clear hb9 ;clear x0 x1 x2 x3 x4 x5 x6;have x0:=HX.out.cell 0;have x1:=HX.out.cell 1;have x2:=HX.out.cell 2;have x3:=HX.out.cell 3;have x4:=HX.out.cell 4;have x5:=HX.out.cell 5;have x6:=HX.out.cell 6;simp at x0 x1 x2 x3 x4 x5 x6
             go_wp2_with fail
             go_at_call 106;refine(wa_up_c _ _ _ _).mono ?_;rintro e w1 ⟨rfl,hb9⟩;have g2:=(hb9.cell (p:=⟨GV,0,none⟩) gl).trans g1;have gl2:=Nat.lt_of_lt_of_le gl hb9.size;clear g1 gl;have g1:=g2;have gl:=gl2;clear g2 gl2;replace HB:=hdT HB hb9;replace HX:=hdB HX hb9;clear hb9 ;clear x0 x1 x2 x3 x4 x5 x6;have x0:=HX.out.cell 0;have x1:=HX.out.cell 1;have x2:=HX.out.cell 2;have x3:=HX.out.cell 3;have x4:=HX.out.cell 4;have x5:=HX.out.cell 5;have x6:=HX.out.cell 6;simp at x0 x1 x2 x3 x4 x5 x6
             go_wp2_with fail
             go_at_call 105;refine(wa_within_c _ _ _ _).mono ?_;rintro e w1 ⟨rfl,hb9⟩;have g2:=(hb9.cell (p:=⟨GV,0,none⟩) gl).trans g1;have gl2:=Nat.lt_of_lt_of_le gl hb9.size;clear g1 gl;have g1:=g2;have gl:=gl2;clear g2 gl2;replace HB:=hdT HB hb9;replace HX:=hdB HX hb9;clear hb9 ;clear x0 x1 x2 x3 x4 x5 x6;have x0:=HX.out.cell 0;have x1:=HX.out.cell 1;have x2:=HX.out.cell 2;have x3:=HX.out.cell 3;have x4:=HX.out.cell 4;have x5:=HX.out.cell 5;have x6:=HX.out.cell 6;simp at x0 x1 x2 x3 x4 x5 x6
             go_wp2_with fail
             go_at_call 105;refine(wa_within_c _ _ _ _).mono ?_;rintro e w1 ⟨rfl,hb9⟩;have g2:=(hb9.cell (p:=⟨GV,0,none⟩) gl).trans g1;have gl2:=Nat.lt_of_lt_of_le gl hb9.size;clear g1 gl;have g1:=g2;have gl:=gl2;clear g2 gl2;replace HB:=hdT HB hb9;replace HX:=hdB HX hb9;clear hb9 ;clear x0 x1 x2 x3 x4 x5 x6;have x0:=HX.out.cell 0;have x1:=HX.out.cell 1;have x2:=HX.out.cell 2;have x3:=HX.out.cell 3;have x4:=HX.out.cell 4;have x5:=HX.out.cell 5;have x6:=HX.out.cell 6;simp at x0 x1 x2 x3 x4 x5 x6
             go_wp2_with fail
             go_at_call 105;refine(wa_within_c _ _ _ _).mono ?_;rintro e w1 ⟨rfl,hb9⟩;have g2:=(hb9.cell (p:=⟨GV,0,none⟩) gl).trans g1;have gl2:=Nat.lt_of_lt_of_le gl hb9.size;clear g1 gl;have g1:=g2;have gl:=gl2;clear g2 gl2;replace HB:=hdT HB hb9;replace HX:=hdB HX hb9;clear hb9 ;clear x0 x1 x2 x3 x4 x5 x6;have x0:=HX.out.cell 0;have x1:=HX.out.cell 1;have x2:=HX.out.cell 2;have x3:=HX.out.cell 3;have x4:=HX.out.cell 4;have x5:=HX.out.cell 5;have x6:=HX.out.cell 6;simp at x0 x1 x2 x3 x4 x5 x6
             go_wp2_with fail
             go_at_call 105;refine(wa_within_c _ _ _ _).mono ?_;rintro e w1 ⟨rfl,hb9⟩;have g2:=(hb9.cell (p:=⟨GV,0,none⟩) gl).trans g1;have gl2:=Nat.lt_of_lt_of_le gl hb9.size;clear g1 gl;have g1:=g2;have gl:=gl2;clear g2 gl2;replace HB:=hdT HB hb9;replace HX:=hdB HX hb9;clear hb9 ;clear x0 x1 x2 x3 x4 x5 x6;have x0:=HX.out.cell 0;have x1:=HX.out.cell 1;have x2:=HX.out.cell 2;have x3:=HX.out.cell 3;have x4:=HX.out.cell 4;have x5:=HX.out.cell 5;have x6:=HX.out.cell 6;simp at x0 x1 x2 x3 x4 x5 x6
             go_wp2_with fail
             go_ret
             exact⟨ret_bool HM.out.symm,HB.out⟩
           · rw[h0,h1,h2,h3,h4,h5] at hv
             have HM:=hid hv;clear hv
             go_enter Tryz.func104,Tryz.ntmps104
             go_upto_region 1 with fail
             revert g1 gl HB HX;generalize (World.alloc w (.cells #[.int .i64 x.lo,.int .i64 x.hi,.int .i64 x.cap,.int .i64 x.keep,.int .i64 x.pass,.int .i64 x.to,.int .i64 x.pump] 130))=w1;intro g1 gl HB HX;have x0:=HX.out.cell 0;have x1:=HX.out.cell 1;have x2:=HX.out.cell 2;have x3:=HX.out.cell 3;have x4:=HX.out.cell 4;have x5:=HX.out.cell 5;have x6:=HX.out.cell 6;simp at x0 x1 x2 x3 x4 x5 x6
             go_wp2_with fail
             go_at_call 105;refine(wa_within_c _ _ _ _).mono ?_;rintro e w1 ⟨rfl,hb9⟩;have g2:=(hb9.cell (p:=⟨GV,0,none⟩) gl).trans g1;have gl2:=Nat.lt_of_lt_of_le gl hb9.size;clear g1 gl;have g1:=g2;have gl:=gl2;clear g2 gl2;replace HB:=hdT HB hb9;replace HX:=hdB HX hb9;clear hb9 ;clear x0 x1 x2 x3 x4 x5 x6;have x0:=HX.out.cell 0;have x1:=HX.out.cell 1;have x2:=HX.out.cell 2;have x3:=HX.out.cell 3;have x4:=HX.out.cell 4;have x5:=HX.out.cell 5;have x6:=HX.out.cell 6;simp at x0 x1 x2 x3 x4 x5 x6
             go_wp2_with fail
             go_at_call 106;refine(wa_up_c _ _ _ _).mono ?_;rintro e w1 ⟨rfl,hb9⟩;have g2:=(hb9.cell (p:=⟨GV,0,none⟩) gl).trans g1;have gl2:=Nat.lt_of_lt_of_le gl hb9.size;clear g1 gl;have g1:=g2;have gl:=gl2;clear g2 gl2;replace HB:=hdT HB hb9;replace HX:=hdB HX hb9;clear hb9 ;clear x0 x1 x2 x3 x4 x5 x6;have x0:=HX.out.cell 0;have x1:=HX.out.cell 1;have x2:=HX.out.cell 2;have x3:=HX.out.cell 3;have x4:=HX.out.cell 4;have x5:=HX.out.cell 5;have x6:=HX.out.cell 6;simp at x0 x1 x2 x3 x4 x5 x6
             go_wp2_with fail
             go_at_call 105;refine(wa_within_c _ _ _ _).mono ?_;rintro e w1 ⟨rfl,hb9⟩;have g2:=(hb9.cell (p:=⟨GV,0,none⟩) gl).trans g1;have gl2:=Nat.lt_of_lt_of_le gl hb9.size;clear g1 gl;have g1:=g2;have gl:=gl2;clear g2 gl2;replace HB:=hdT HB hb9;replace HX:=hdB HX hb9;clear hb9 ;clear x0 x1 x2 x3 x4 x5 x6;have x0:=HX.out.cell 0;have x1:=HX.out.cell 1;have x2:=HX.out.cell 2;have x3:=HX.out.cell 3;have x4:=HX.out.cell 4;have x5:=HX.out.cell 5;have x6:=HX.out.cell 6;simp at x0 x1 x2 x3 x4 x5 x6
             go_wp2_with fail
             go_at_call 105;refine(wa_within_c _ _ _ _).mono ?_;rintro e w1 ⟨rfl,hb9⟩;have g2:=(hb9.cell (p:=⟨GV,0,none⟩) gl).trans g1;have gl2:=Nat.lt_of_lt_of_le gl hb9.size;clear g1 gl;have g1:=g2;have gl:=gl2;clear g2 gl2;replace HB:=hdT HB hb9;replace HX:=hdB HX hb9;clear hb9 ;clear x0 x1 x2 x3 x4 x5 x6;have x0:=HX.out.cell 0;have x1:=HX.out.cell 1;have x2:=HX.out.cell 2;have x3:=HX.out.cell 3;have x4:=HX.out.cell 4;have x5:=HX.out.cell 5;have x6:=HX.out.cell 6;simp at x0 x1 x2 x3 x4 x5 x6
             go_wp2_with fail
             go_at_call 105;refine(wa_within_c _ _ _ _).mono ?_;rintro e w1 ⟨rfl,hb9⟩;have g2:=(hb9.cell (p:=⟨GV,0,none⟩) gl).trans g1;have gl2:=Nat.lt_of_lt_of_le gl hb9.size;clear g1 gl;have g1:=g2;have gl:=gl2;clear g2 gl2;replace HB:=hdT HB hb9;replace HX:=hdB HX hb9;clear hb9 ;clear x0 x1 x2 x3 x4 x5 x6;have x0:=HX.out.cell 0;have x1:=HX.out.cell 1;have x2:=HX.out.cell 2;have x3:=HX.out.cell 3;have x4:=HX.out.cell 4;have x5:=HX.out.cell 5;have x6:=HX.out.cell 6;simp at x0 x1 x2 x3 x4 x5 x6
             go_wp2_with fail
             go_at_call 105;refine(wa_within_c _ _ _ _).mono ?_;rintro e w1 ⟨rfl,hb9⟩;have g2:=(hb9.cell (p:=⟨GV,0,none⟩) gl).trans g1;have gl2:=Nat.lt_of_lt_of_le gl hb9.size;clear g1 gl;have g1:=g2;have gl:=gl2;clear g2 gl2;replace HB:=hdT HB hb9;replace HX:=hdB HX hb9;clear hb9 ;clear x0 x1 x2 x3 x4 x5 x6;have x0:=HX.out.cell 0;have x1:=HX.out.cell 1;have x2:=HX.out.cell 2;have x3:=HX.out.cell 3;have x4:=HX.out.cell 4;have x5:=HX.out.cell 5;have x6:=HX.out.cell 6;simp at x0 x1 x2 x3 x4 x5 x6
             go_wp2_with fail
             go_ret
             exact⟨ret_bool HM.out.symm,HB.out⟩
end Go.Proofs.YtlaengnhfjlphaaGreatDoor
