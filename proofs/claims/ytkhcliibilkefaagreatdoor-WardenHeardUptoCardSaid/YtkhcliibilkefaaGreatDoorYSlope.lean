/- CONTRACTS of package slope, for slopes whose columns have one bed each: what is valid. Written by mkyslope.py. -/
import Derived.Test.YtkhcliibilkefaaGreatDoorZHearMap
import Derived.Test.YtkhcliibilkefaaGreatDoorYLeaf
set_option linter.unusedVariables false
set_option linter.unusedSimpArgs false
set_option maxRecDepth 100000
set_option maxHeartbeats 8000000
namespace Go.Proofs.YtkhcliibilkefaaGreatDoor
open Lib (hid)
open Go.RowKit Go.Proofs
attribute [local go_sem ↓] Go.wp_at_zero Go.wp_at_succ
theorem sl_within_c (n lo hi:Int)(w:World) :
 Calls Tryz.prog 163 #[.int .i64 n,.int .i64 lo,.int .i64 hi] w fun e w'=>e=.returned (.bool (inB n lo hi))∧Below w.heap.size w w':=by
 by_cases h:lo≤n
 · go_enter Tryz.func163,Tryz.ntmps163
   go_wp2
   go_ret
   exact⟨ret_bool (by simp[inB,h]),Below.refl _ _⟩
 · have h':n<lo:=by omega
   go_enter Tryz.func163,Tryz.ntmps163
   go_wp2
   go_ret
   exact⟨ret_bool (inB_not.2 (.inl h')).symm,Below.refl _ _⟩
theorem sl_up_c (lo hi most:Int)(w:World) :
 Calls Tryz.prog 207 #[.agg #[.int .i64 lo,.int .i64 hi],.int .i64 most] w fun e w'=>e=.returned (.bool (upB lo hi most))∧Below w.heap.size w w':=by
 by_cases h:0≤lo
 · by_cases h2:lo≤hi
   · go_enter Tryz.func207,Tryz.ntmps207
     go_wp2
     go_ret
     exact⟨ret_bool (by simp[upB,h];omega),(Below.refl _ _).alloc (Nat.le_refl _) _⟩
   · go_enter Tryz.func207,Tryz.ntmps207
     go_wp2
     go_ret
     exact⟨ret_bool (by simp[upB,h];omega),(Below.refl _ _).alloc (Nat.le_refl _) _⟩
 · go_enter Tryz.func207,Tryz.ntmps207
   go_wp2
   go_ret
   exact⟨ret_bool (by simp[upB];omega),(Below.refl _ _).alloc (Nat.le_refl _) _⟩
def bedB (b:BedS):Bool:=inB b.drive (-100000) 100000 && (inB b.normal 0 100000 && (upB b.f0 b.f1 2000 && (upB b.c0 b.c1 100000 && upB b.w0 b.w1 100000)))
theorem bedB_eq (b:BedS):bedB b=decide (bedOk b):=by
 have:bedB b=true↔bedOk b:=by
  simp only[bedB,Bool.and_eq_true,inB_iff,upB_iff,bedOk]
 cases h:bedB b
 · rw[decide_eq_false];rw[← this,h];exact Bool.false_ne_true
 · rw[decide_eq_true];exact this.1 h
theorem bedValid_c (b:BedS)(w:World):Calls Tryz.prog 167 #[.agg #[.int .i64 b.drive,.int .i64 b.normal,.int .i64 b.f0,.int .i64 b.f1,.int .i64 b.c0,.int .i64 b.c1,.int .i64 b.w0,.int .i64 b.w1]] w fun e w'=>e=.returned (.bool (bedB b))∧Below w.heap.size w w':=by
 have hv:bedB b=(inB b.drive (-100000) 100000 && (inB b.normal 0 100000 && (upB b.f0 b.f1 2000 && (upB b.c0 b.c1 100000 && (upB b.w0 b.w1 100000))))):=rfl;have hal:=(Below.refl w.heap.size w).alloc (Nat.le_refl _) (.cells #[.int .i64 b.drive,.int .i64 b.normal,.int .i64 b.f0,.int .i64 b.f1,.int .i64 b.c0,.int .i64 b.c1,.int .i64 b.w0,.int .i64 b.w1] 157);have hn:=Blk.new w 157 #[.int .i64 b.drive,.int .i64 b.normal,.int .i64 b.f0,.int .i64 b.f1,.int .i64 b.c0,.int .i64 b.c1,.int .i64 b.w0,.int .i64 b.w1];have HB:=hid hal;have HX:=hid hn;clear hal hn;cases h0:inB b.drive (-100000) 100000
 · rw[h0] at hv
   have HM:=hid hv;clear hv
   go_enter Tryz.func167,Tryz.ntmps167
   go_upto_region 1 with fail
   revert HB HX;generalize (World.alloc w (.cells #[.int .i64 b.drive,.int .i64 b.normal,.int .i64 b.f0,.int .i64 b.f1,.int .i64 b.c0,.int .i64 b.c1,.int .i64 b.w0,.int .i64 b.w1] 157))=w1;intro HB HX;have x0:=HX.out.cell 0;have x1:=HX.out.cell 1;have x2:=HX.out.cell 2;have x3:=HX.out.cell 3;have x4:=HX.out.cell 4;have x5:=HX.out.cell 5;have x6:=HX.out.cell 6;have x7:=HX.out.cell 7;simp at x0 x1 x2 x3 x4 x5 x6 x7
   go_wp2_with fail
   go_at_call 163;refine(sl_within_c _ _ _ _).mono ?_;rintro e w1 ⟨rfl,hb9⟩;replace HB:=hdT HB hb9;replace HX:=hdB HX hb9;clear hb9 ;clear x0 x1 x2 x3 x4 x5 x6 x7;have x0:=HX.out.cell 0;have x1:=HX.out.cell 1;have x2:=HX.out.cell 2;have x3:=HX.out.cell 3;have x4:=HX.out.cell 4;have x5:=HX.out.cell 5;have x6:=HX.out.cell 6;have x7:=HX.out.cell 7;simp at x0 x1 x2 x3 x4 x5 x6 x7
   go_wp2_with fail
   go_ret
   exact⟨ret_bool HM.out.symm,HB.out⟩
 · cases h1:inB b.normal 0 100000
   · rw[h0,h1] at hv
     have HM:=hid hv;clear hv
     go_enter Tryz.func167,Tryz.ntmps167
     go_upto_region 1 with fail
     revert HB HX;generalize (World.alloc w (.cells #[.int .i64 b.drive,.int .i64 b.normal,.int .i64 b.f0,.int .i64 b.f1,.int .i64 b.c0,.int .i64 b.c1,.int .i64 b.w0,.int .i64 b.w1] 157))=w1;intro HB HX;have x0:=HX.out.cell 0;have x1:=HX.out.cell 1;have x2:=HX.out.cell 2;have x3:=HX.out.cell 3;have x4:=HX.out.cell 4;have x5:=HX.out.cell 5;have x6:=HX.out.cell 6;have x7:=HX.out.cell 7;simp at x0 x1 x2 x3 x4 x5 x6 x7
     go_wp2_with fail
     go_at_call 163;refine(sl_within_c _ _ _ _).mono ?_;rintro e w1 ⟨rfl,hb9⟩;replace HB:=hdT HB hb9;replace HX:=hdB HX hb9;clear hb9 ;clear x0 x1 x2 x3 x4 x5 x6 x7;have x0:=HX.out.cell 0;have x1:=HX.out.cell 1;have x2:=HX.out.cell 2;have x3:=HX.out.cell 3;have x4:=HX.out.cell 4;have x5:=HX.out.cell 5;have x6:=HX.out.cell 6;have x7:=HX.out.cell 7;simp at x0 x1 x2 x3 x4 x5 x6 x7
     go_wp2_with fail
     go_at_call 163;refine(sl_within_c _ _ _ _).mono ?_;rintro e w1 ⟨rfl,hb9⟩;replace HB:=hdT HB hb9;replace HX:=hdB HX hb9;clear hb9 ;clear x0 x1 x2 x3 x4 x5 x6 x7;have x0:=HX.out.cell 0;have x1:=HX.out.cell 1;have x2:=HX.out.cell 2;have x3:=HX.out.cell 3;have x4:=HX.out.cell 4;have x5:=HX.out.cell 5;have x6:=HX.out.cell 6;have x7:=HX.out.cell 7;simp at x0 x1 x2 x3 x4 x5 x6 x7
     go_wp2_with fail
     go_ret
     exact⟨ret_bool HM.out.symm,HB.out⟩
   · cases h2:upB b.f0 b.f1 2000
     · rw[h0,h1,h2] at hv
       have HM:=hid hv;clear hv
       go_enter Tryz.func167,Tryz.ntmps167
       go_upto_region 1 with fail
       revert HB HX;generalize (World.alloc w (.cells #[.int .i64 b.drive,.int .i64 b.normal,.int .i64 b.f0,.int .i64 b.f1,.int .i64 b.c0,.int .i64 b.c1,.int .i64 b.w0,.int .i64 b.w1] 157))=w1;intro HB HX;have x0:=HX.out.cell 0;have x1:=HX.out.cell 1;have x2:=HX.out.cell 2;have x3:=HX.out.cell 3;have x4:=HX.out.cell 4;have x5:=HX.out.cell 5;have x6:=HX.out.cell 6;have x7:=HX.out.cell 7;simp at x0 x1 x2 x3 x4 x5 x6 x7
       go_wp2_with fail
       go_at_call 163;refine(sl_within_c _ _ _ _).mono ?_;rintro e w1 ⟨rfl,hb9⟩;replace HB:=hdT HB hb9;replace HX:=hdB HX hb9;clear hb9 ;clear x0 x1 x2 x3 x4 x5 x6 x7;have x0:=HX.out.cell 0;have x1:=HX.out.cell 1;have x2:=HX.out.cell 2;have x3:=HX.out.cell 3;have x4:=HX.out.cell 4;have x5:=HX.out.cell 5;have x6:=HX.out.cell 6;have x7:=HX.out.cell 7;simp at x0 x1 x2 x3 x4 x5 x6 x7
       go_wp2_with fail
       go_at_call 163;refine(sl_within_c _ _ _ _).mono ?_;rintro e w1 ⟨rfl,hb9⟩;replace HB:=hdT HB hb9;replace HX:=hdB HX hb9;clear hb9 ;clear x0 x1 x2 x3 x4 x5 x6 x7;have x0:=HX.out.cell 0;have x1:=HX.out.cell 1;have x2:=HX.out.cell 2;have x3:=HX.out.cell 3;have x4:=HX.out.cell 4;have x5:=HX.out.cell 5;have x6:=HX.out.cell 6;have x7:=HX.out.cell 7;simp at x0 x1 x2 x3 x4 x5 x6 x7
       go_wp2_with fail
       go_at_call 207;refine(sl_up_c _ _ _ _).mono ?_;rintro e w1 ⟨rfl,hb9⟩;replace HB:=hdT HB hb9;replace HX:=hdB HX hb9;clear hb9 ;clear x0 x1 x2 x3 x4 x5 x6 x7;have x0:=HX.out.cell 0;have x1:=HX.out.cell 1;have x2:=HX.out.cell 2;have x3:=HX.out.cell 3;have x4:=HX.out.cell 4;have x5:=HX.out.cell 5;have x6:=HX.out.cell 6;have x7:=HX.out.cell 7;simp at x0 x1 x2 x3 x4 x5 x6 x7
       go_wp2_with fail
       go_ret
       exact⟨ret_bool HM.out.symm,HB.out⟩
     · cases h3:upB b.c0 b.c1 100000
       · rw[h0,h1,h2,h3] at hv
         have HM:=hid hv;clear hv
         go_enter Tryz.func167,Tryz.ntmps167
         go_upto_region 1 with fail
         revert HB HX;generalize (World.alloc w (.cells #[.int .i64 b.drive,.int .i64 b.normal,.int .i64 b.f0,.int .i64 b.f1,.int .i64 b.c0,.int .i64 b.c1,.int .i64 b.w0,.int .i64 b.w1] 157))=w1;intro HB HX;have x0:=HX.out.cell 0;have x1:=HX.out.cell 1;have x2:=HX.out.cell 2;have x3:=HX.out.cell 3;have x4:=HX.out.cell 4;have x5:=HX.out.cell 5;have x6:=HX.out.cell 6;have x7:=HX.out.cell 7;simp at x0 x1 x2 x3 x4 x5 x6 x7
         go_wp2_with fail
         go_at_call 163;refine(sl_within_c _ _ _ _).mono ?_;rintro e w1 ⟨rfl,hb9⟩;replace HB:=hdT HB hb9;replace HX:=hdB HX hb9;clear hb9 ;clear x0 x1 x2 x3 x4 x5 x6 x7;have x0:=HX.out.cell 0;have x1:=HX.out.cell 1;have x2:=HX.out.cell 2;have x3:=HX.out.cell 3;have x4:=HX.out.cell 4;have x5:=HX.out.cell 5;have x6:=HX.out.cell 6;have x7:=HX.out.cell 7;simp at x0 x1 x2 x3 x4 x5 x6 x7
         go_wp2_with fail
         go_at_call 163;refine(sl_within_c _ _ _ _).mono ?_;rintro e w1 ⟨rfl,hb9⟩;replace HB:=hdT HB hb9;replace HX:=hdB HX hb9;clear hb9 ;clear x0 x1 x2 x3 x4 x5 x6 x7;have x0:=HX.out.cell 0;have x1:=HX.out.cell 1;have x2:=HX.out.cell 2;have x3:=HX.out.cell 3;have x4:=HX.out.cell 4;have x5:=HX.out.cell 5;have x6:=HX.out.cell 6;have x7:=HX.out.cell 7;simp at x0 x1 x2 x3 x4 x5 x6 x7
         go_wp2_with fail
         go_at_call 207;refine(sl_up_c _ _ _ _).mono ?_;rintro e w1 ⟨rfl,hb9⟩;replace HB:=hdT HB hb9;replace HX:=hdB HX hb9;clear hb9 ;clear x0 x1 x2 x3 x4 x5 x6 x7;have x0:=HX.out.cell 0;have x1:=HX.out.cell 1;have x2:=HX.out.cell 2;have x3:=HX.out.cell 3;have x4:=HX.out.cell 4;have x5:=HX.out.cell 5;have x6:=HX.out.cell 6;have x7:=HX.out.cell 7;simp at x0 x1 x2 x3 x4 x5 x6 x7
         go_wp2_with fail
         go_at_call 207;refine(sl_up_c _ _ _ _).mono ?_;rintro e w1 ⟨rfl,hb9⟩;replace HB:=hdT HB hb9;replace HX:=hdB HX hb9;clear hb9 ;clear x0 x1 x2 x3 x4 x5 x6 x7;have x0:=HX.out.cell 0;have x1:=HX.out.cell 1;have x2:=HX.out.cell 2;have x3:=HX.out.cell 3;have x4:=HX.out.cell 4;have x5:=HX.out.cell 5;have x6:=HX.out.cell 6;have x7:=HX.out.cell 7;simp at x0 x1 x2 x3 x4 x5 x6 x7
         go_wp2_with fail
         go_ret
         exact⟨ret_bool HM.out.symm,HB.out⟩
       · cases h4:upB b.w0 b.w1 100000
         · rw[h0,h1,h2,h3,h4] at hv
           have HM:=hid hv;clear hv
           go_enter Tryz.func167,Tryz.ntmps167
           go_upto_region 1 with fail
           revert HB HX;generalize (World.alloc w (.cells #[.int .i64 b.drive,.int .i64 b.normal,.int .i64 b.f0,.int .i64 b.f1,.int .i64 b.c0,.int .i64 b.c1,.int .i64 b.w0,.int .i64 b.w1] 157))=w1;intro HB HX;have x0:=HX.out.cell 0;have x1:=HX.out.cell 1;have x2:=HX.out.cell 2;have x3:=HX.out.cell 3;have x4:=HX.out.cell 4;have x5:=HX.out.cell 5;have x6:=HX.out.cell 6;have x7:=HX.out.cell 7;simp at x0 x1 x2 x3 x4 x5 x6 x7
           go_wp2_with fail
           go_at_call 163;refine(sl_within_c _ _ _ _).mono ?_;rintro e w1 ⟨rfl,hb9⟩;replace HB:=hdT HB hb9;replace HX:=hdB HX hb9;clear hb9 ;clear x0 x1 x2 x3 x4 x5 x6 x7;have x0:=HX.out.cell 0;have x1:=HX.out.cell 1;have x2:=HX.out.cell 2;have x3:=HX.out.cell 3;have x4:=HX.out.cell 4;have x5:=HX.out.cell 5;have x6:=HX.out.cell 6;have x7:=HX.out.cell 7;simp at x0 x1 x2 x3 x4 x5 x6 x7
           go_wp2_with fail
           go_at_call 163;refine(sl_within_c _ _ _ _).mono ?_;rintro e w1 ⟨rfl,hb9⟩;replace HB:=hdT HB hb9;replace HX:=hdB HX hb9;clear hb9 ;clear x0 x1 x2 x3 x4 x5 x6 x7;have x0:=HX.out.cell 0;have x1:=HX.out.cell 1;have x2:=HX.out.cell 2;have x3:=HX.out.cell 3;have x4:=HX.out.cell 4;have x5:=HX.out.cell 5;have x6:=HX.out.cell 6;have x7:=HX.out.cell 7;simp at x0 x1 x2 x3 x4 x5 x6 x7
           go_wp2_with fail
           go_at_call 207;refine(sl_up_c _ _ _ _).mono ?_;rintro e w1 ⟨rfl,hb9⟩;replace HB:=hdT HB hb9;replace HX:=hdB HX hb9;clear hb9 ;clear x0 x1 x2 x3 x4 x5 x6 x7;have x0:=HX.out.cell 0;have x1:=HX.out.cell 1;have x2:=HX.out.cell 2;have x3:=HX.out.cell 3;have x4:=HX.out.cell 4;have x5:=HX.out.cell 5;have x6:=HX.out.cell 6;have x7:=HX.out.cell 7;simp at x0 x1 x2 x3 x4 x5 x6 x7
           go_wp2_with fail
           go_at_call 207;refine(sl_up_c _ _ _ _).mono ?_;rintro e w1 ⟨rfl,hb9⟩;replace HB:=hdT HB hb9;replace HX:=hdB HX hb9;clear hb9 ;clear x0 x1 x2 x3 x4 x5 x6 x7;have x0:=HX.out.cell 0;have x1:=HX.out.cell 1;have x2:=HX.out.cell 2;have x3:=HX.out.cell 3;have x4:=HX.out.cell 4;have x5:=HX.out.cell 5;have x6:=HX.out.cell 6;have x7:=HX.out.cell 7;simp at x0 x1 x2 x3 x4 x5 x6 x7
           go_wp2_with fail
           go_at_call 207;refine(sl_up_c _ _ _ _).mono ?_;rintro e w1 ⟨rfl,hb9⟩;replace HB:=hdT HB hb9;replace HX:=hdB HX hb9;clear hb9 ;clear x0 x1 x2 x3 x4 x5 x6 x7;have x0:=HX.out.cell 0;have x1:=HX.out.cell 1;have x2:=HX.out.cell 2;have x3:=HX.out.cell 3;have x4:=HX.out.cell 4;have x5:=HX.out.cell 5;have x6:=HX.out.cell 6;have x7:=HX.out.cell 7;simp at x0 x1 x2 x3 x4 x5 x6 x7
           go_wp2_with fail
           go_ret
           exact⟨ret_bool HM.out.symm,HB.out⟩
         · rw[h0,h1,h2,h3,h4] at hv
           have HM:=hid hv;clear hv
           go_enter Tryz.func167,Tryz.ntmps167
           go_upto_region 1 with fail
           revert HB HX;generalize (World.alloc w (.cells #[.int .i64 b.drive,.int .i64 b.normal,.int .i64 b.f0,.int .i64 b.f1,.int .i64 b.c0,.int .i64 b.c1,.int .i64 b.w0,.int .i64 b.w1] 157))=w1;intro HB HX;have x0:=HX.out.cell 0;have x1:=HX.out.cell 1;have x2:=HX.out.cell 2;have x3:=HX.out.cell 3;have x4:=HX.out.cell 4;have x5:=HX.out.cell 5;have x6:=HX.out.cell 6;have x7:=HX.out.cell 7;simp at x0 x1 x2 x3 x4 x5 x6 x7
           go_wp2_with fail
           go_at_call 163;refine(sl_within_c _ _ _ _).mono ?_;rintro e w1 ⟨rfl,hb9⟩;replace HB:=hdT HB hb9;replace HX:=hdB HX hb9;clear hb9 ;clear x0 x1 x2 x3 x4 x5 x6 x7;have x0:=HX.out.cell 0;have x1:=HX.out.cell 1;have x2:=HX.out.cell 2;have x3:=HX.out.cell 3;have x4:=HX.out.cell 4;have x5:=HX.out.cell 5;have x6:=HX.out.cell 6;have x7:=HX.out.cell 7;simp at x0 x1 x2 x3 x4 x5 x6 x7
           go_wp2_with fail
           go_at_call 163;refine(sl_within_c _ _ _ _).mono ?_;rintro e w1 ⟨rfl,hb9⟩;replace HB:=hdT HB hb9;replace HX:=hdB HX hb9;clear hb9 ;clear x0 x1 x2 x3 x4 x5 x6 x7;have x0:=HX.out.cell 0;have x1:=HX.out.cell 1;have x2:=HX.out.cell 2;have x3:=HX.out.cell 3;have x4:=HX.out.cell 4;have x5:=HX.out.cell 5;have x6:=HX.out.cell 6;have x7:=HX.out.cell 7;simp at x0 x1 x2 x3 x4 x5 x6 x7
           go_wp2_with fail
           go_at_call 207;refine(sl_up_c _ _ _ _).mono ?_;rintro e w1 ⟨rfl,hb9⟩;replace HB:=hdT HB hb9;replace HX:=hdB HX hb9;clear hb9 ;clear x0 x1 x2 x3 x4 x5 x6 x7;have x0:=HX.out.cell 0;have x1:=HX.out.cell 1;have x2:=HX.out.cell 2;have x3:=HX.out.cell 3;have x4:=HX.out.cell 4;have x5:=HX.out.cell 5;have x6:=HX.out.cell 6;have x7:=HX.out.cell 7;simp at x0 x1 x2 x3 x4 x5 x6 x7
           go_wp2_with fail
           go_at_call 207;refine(sl_up_c _ _ _ _).mono ?_;rintro e w1 ⟨rfl,hb9⟩;replace HB:=hdT HB hb9;replace HX:=hdB HX hb9;clear hb9 ;clear x0 x1 x2 x3 x4 x5 x6 x7;have x0:=HX.out.cell 0;have x1:=HX.out.cell 1;have x2:=HX.out.cell 2;have x3:=HX.out.cell 3;have x4:=HX.out.cell 4;have x5:=HX.out.cell 5;have x6:=HX.out.cell 6;have x7:=HX.out.cell 7;simp at x0 x1 x2 x3 x4 x5 x6 x7
           go_wp2_with fail
           go_at_call 207;refine(sl_up_c _ _ _ _).mono ?_;rintro e w1 ⟨rfl,hb9⟩;replace HB:=hdT HB hb9;replace HX:=hdB HX hb9;clear hb9 ;clear x0 x1 x2 x3 x4 x5 x6 x7;have x0:=HX.out.cell 0;have x1:=HX.out.cell 1;have x2:=HX.out.cell 2;have x3:=HX.out.cell 3;have x4:=HX.out.cell 4;have x5:=HX.out.cell 5;have x6:=HX.out.cell 6;have x7:=HX.out.cell 7;simp at x0 x1 x2 x3 x4 x5 x6 x7
           go_wp2_with fail
           go_ret
           exact⟨ret_bool HM.out.symm,HB.out⟩
theorem allB_one {α:Type}(p:α→Bool)(x:α):allB p [x]=p x:=by simp[allB]
theorem colValid_c {x:ColR}{V:Nat}{w:World}(hV:w.cell? ⟨V,0,none⟩=some (.int .i64 1))(hr:Rd encBed 8 w x.A 1 [x.bed]) :
 Calls Tryz.prog 165 #[.slice x.A 1 x.c,.pointer (some ⟨V,0,none⟩)] w fun e w'=>e=.returned (.bool (bedB x.bed))∧Below w.heap.size w w':=by
 have hc:=allBed_c (c:=x.c) (p:=bedB) w hr (by unfold maxLen;omega) (fun i b W hb hW=>bedValid_c b W);rw[allB_one] at hc;have HC:=hid hc;clear hc
 go_enter Tryz.func165,Tryz.ntmps165
 go_wp2_with (go_at_call 166;refine HC.out.mono ?_;rintro e w' ⟨rfl,hb⟩)
 go_ret
 exact⟨rfl,hb⟩
theorem slValid_c {CL:List ColR}{A:Option Addr}{n c:Nat}{least:Int}{w:World}(h:Rd encC 1 w A n CL)(hb:∀(i:Nat) (r:ColR),CL[i]?=some r→Rd encBed 8 w r.A 1 [r.bed])(hn:n≤maxLen) :
 Calls Tryz.prog 122 #[.agg #[.slice A n c,.int .i64 least]] w fun e w'=>e=.returned (.bool (slopeOk (CL.map (·.bed)) least))∧Below w.heap.size w w':=by
 have hv:slopeOk (CL.map (·.bed)) least=(inB n 1 12 && inB least 1 4 && allB (fun r=>bedB r.bed) CL):=by
  have e:allB (fun b=>decide (bedOk b)) (CL.map (·.bed))=allB (fun r=>bedB r.bed) CL:=by
   unfold allB;rw[List.all_map];congr 1;funext r;exact(bedB_eq r.bed).symm
  unfold slopeOk;rw[e,List.length_map,h.len]
 have hal:=(Below.refl w.heap.size w).alloc (Nat.le_refl _) (.cells #[.slice A n c,.int .i64 least] 27);have hx0:=Blk.new w 27 #[.slice A n c,.int .i64 least];have HB:=hid hal;have HX:=hid hx0;have HR:=hid (h.below hal);have HN:=hid hn;have HBD:=hid (fun i r hr=>(hb i r hr).below hal);clear hal hx0 h hb hn
 have h15:inB 1 1 5=true:=by decide
 cases h1:inB n 1 12
 · rw[h1,Bool.false_and,Bool.false_and] at hv
   have HV:=hid hv;clear hv
   go_enter Tryz.func122,Tryz.ntmps122
   go_upto_region 1 with fail
   revert HB HX HR HBD;generalize (World.alloc w (.cells #[.slice A n c,.int .i64 least] 27))=w1;intro HB HX HR HBD;have x0:=HX.out.cell 0;have x1:=HX.out.cell 1;simp at x0 x1
   go_wp2_with fail
   go_at_call 163;refine(sl_within_c _ _ _ _).mono ?_;rintro e w1 ⟨rfl,hb9⟩;replace HB:=hdT HB hb9;clear hb9 ;clear x0 x1
   go_wp2_with fail
   go_ret
   exact⟨ret_bool HV.out.symm,HB.out⟩
 · have hn1:1≤n∧n≤12:=by have:=inB_iff.1 h1;omega
   cases h2:inB least 1 4
   all_goals
    rw[h1,h2] at hv;have HV:=hid hv;clear hv
    go_enter Tryz.func122,Tryz.ntmps122
    go_upto_region 1 with fail
    revert HB HX HR HBD;generalize (World.alloc w (.cells #[.slice A n c,.int .i64 least] 27))=w1;intro HB HX HR HBD;obtain⟨g,o,r0,rfl,hgl,hr0,y0⟩:=HR.out.atC (i:=0) (by omega);have x0:=HX.out.cell 0;have x1:=HX.out.cell 1;simp at x0 x1 y0
    go_wp2_with fail
    go_at_call 163;refine(sl_within_c _ _ _ _).mono ?_;rintro e w1 ⟨rfl,hb9⟩;have y0:=(hb9.cell (p:=⟨g,o,none⟩) hgl).trans y0;have hgl:=Nat.lt_of_lt_of_le hgl hb9.size;have HBE:=hid (fun i r hr=>(HBD.out i r hr).below hb9);clear HBD;have HBD:=HBE;clear HBE;replace HB:=hdT HB hb9;replace HX:=hdB HX hb9;replace HR:=hid (HR.out.below hb9);clear hb9 ;clear x0 x1;have x0:=HX.out.cell 0;have x1:=HX.out.cell 1;simp at x0 x1
    go_wp2_with fail
    go_at_call 163;refine(sl_within_c _ _ _ _).mono ?_;rintro e w1 ⟨rfl,hb9⟩;have y0:=(hb9.cell (p:=⟨g,o,none⟩) hgl).trans y0;have hgl:=Nat.lt_of_lt_of_le hgl hb9.size;have HBE:=hid (fun i r hr=>(HBD.out i r hr).below hb9);clear HBD;have HBD:=HBE;clear HBE;replace HB:=hdT HB hb9;replace HX:=hdB HX hb9;replace HR:=hid (HR.out.below hb9);clear hb9 ;rw[h15];clear x0 x1;have x0:=HX.out.cell 0;have x1:=HX.out.cell 1;simp at x0 x1
    go_wp2_with fail
    go_at_call 163;refine(sl_within_c _ _ _ _).mono ?_;rintro e w1 ⟨rfl,hb9⟩;have y0:=(hb9.cell (p:=⟨g,o,none⟩) hgl).trans y0;have hgl:=Nat.lt_of_lt_of_le hgl hb9.size;have HBE:=hid (fun i r hr=>(HBD.out i r hr).below hb9);clear HBD;have HBD:=HBE;clear HBE;replace HB:=hdT HB hb9;replace HX:=hdB HX hb9;replace HR:=hid (HR.out.below hb9);clear hb9 ;clear x0 x1;have x0:=HX.out.cell 0;have x1:=HX.out.cell 1;simp at x0 x1
   · go_wp2_with fail
     go_ret
     exact⟨ret_bool (by rw[HV.out];simp),HB.out⟩
   · have hmf:∀(fn:Fn) (first cap:Array Value) (w:World),(Instr.makeFunc fn first cap).run Tryz.prog w=.ok (.func fn first cap) w:=fun _ _ _ _=>rfl
     go_upto_region 4 with fail
     have hal:=(Below.refl w1.heap.size w1).alloc (Nat.le_refl _) (.cells #[.int .i64 1] 3);have hn:=Blk.new w1 3 #[.int .i64 1];have HBE:=hid (fun i r hr=>(HBD.out i r hr).below hal);replace HB:=hdT HB hal;replace HX:=hdB HX hal;replace HR:=hid (HR.out.below hal);have HO:=hid hn;clear hal hn HBD x0 x1;revert HBE HB HX HR HO;generalize w1.heap.size=gO;generalize (World.alloc w1 (.cells #[.int .i64 1] 3))=w1;intro HBE HB HX HR HO;have x0:=HX.out.cell 0;have x1:=HX.out.cell 1;simp at x0 x1;have hc:=allCol_c (c:=c) (p:=fun r=>bedB r.bed) gO w1 HR.out HN.out (fun i r W hr hW=>colValid_c ((hW.cell (p:=⟨gO,0,none⟩) HO.out.lt).trans (HO.out.cell 0)) ((HBE.out i r hr).below hW));have HC:=hid hc;clear hc
     go_wp2_with fail
     go_at_call 164;refine(HC.out).mono ?_;rintro e w1 ⟨rfl,hb9⟩;replace HB:=hdT HB hb9;replace HX:=hdB HX hb9;replace HR:=hid (HR.out.below hb9);replace HO:=hdB HO hb9;clear hb9 
     go_wp2_with fail
     go_ret
     exact⟨ret_bool (by rw[HV.out];simp),HB.out⟩
theorem CheckSlope_c {CL:List ColR}{A:Option Addr}{n c:Nat}{least:Int}{w:World}(h:Rd encC 1 w A n CL)(hb:∀(i:Nat) (r:ColR),CL[i]?=some r→Rd encBed 8 w r.A 1 [r.bed])(hn:n≤maxLen) :
 Calls Tryz.prog 94 #[.agg #[.slice A n c,.int .i64 least]] w fun e w'=>e=.returned (.int .i64 (if slopeOk (CL.map (·.bed)) least then 0 else 1))∧Below w.heap.size w w':=by
 have hal:=(Below.refl w.heap.size w).alloc (Nat.le_refl _) (.cells #[.slice A n c,.int .i64 least] 27);have hc:=slValid_c (c:=c) (least:=least) (h.below hal) (fun i r hr=>(hb i r hr).below hal) hn;cases hs:slopeOk (CL.map (·.bed)) least
 all_goals
  rw[hs] at hc;have HC:=hid hc;have HAL:=hid hal;clear hc hal
  go_enter Tryz.func94,Tryz.ntmps94
  go_wp2_with (go_at_call 122;refine HC.out.mono ?_;rintro e w' ⟨rfl,hb9⟩)
  go_ret
  exact⟨rfl,HAL.out.trans (hb9.mono (by simp))⟩
end Go.Proofs.YtkhcliibilkefaaGreatDoor
