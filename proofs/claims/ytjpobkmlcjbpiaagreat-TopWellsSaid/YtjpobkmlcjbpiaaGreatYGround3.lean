/- CONTRACT of water.check: a ground with days. -/
import Derived.Test.YtjpobkmlcjbpiaaGreatYGround2
set_option linter.unusedVariables false
set_option linter.unusedSimpArgs false
namespace Go.Proofs.YtjpobkmlcjbpiaaGreat
open Go.RowKit Go.Proofs
attribute [local go_sem ↓] Go.wp_at_zero Go.wp_at_succ

set_option linter.unusedSimpArgs false in
set_option maxRecDepth 100000 in
set_option maxHeartbeats 1000000 in
theorem wcheck_c {C : List Cel} {A : Option Addr} {n c : Nat} (sn0 sn1 so0 so1 melt : Int) {D : List Dy} {DA : Option Addr} {dn dc : Nat} {w : World} (h : Rd encCel 7 w A n C) (hn : n ≤ maxLen) (hd : Rd encDy 3 w DA dn D) (hdn : dn ≤ maxLen) :
    Calls Tryz.prog 21 #[.agg #[.slice A n c, .int .i64 sn0, .int .i64 sn1, .int .i64 so0, .int .i64 so1, .int .i64 melt], .slice DA dn dc] w fun e w' => e = .returned (.int .i64 (faultW C sn0 sn1 so0 so1 melt D)) ∧ Below w.heap.size w w' := by
  obtain ⟨R, hR⟩ : ∃ R : Int, R = faultW C sn0 sn1 so0 so1 melt D := ⟨_, rfl⟩
  rw [← hR]
  unfold faultW at hR
  rw [hd.len] at hR
  have hal := (Below.refl w.heap.size w).alloc (Nat.le_refl _) (.cells #[.slice A n c, .int .i64 sn0, .int .i64 sn1, .int .i64 so0, .int .i64 so1, .int .i64 melt] 46)
  have hx := Blk.new w 46 #[.slice A n c, .int .i64 sn0, .int .i64 sn1, .int .i64 so0, .int .i64 so1, .int .i64 melt]
  have hg := CheckGround_c (c := c) sn0 sn1 so0 so1 melt (h.below hal) hn
  have HB := Lib.hid hal; have HX := Lib.hid hx; have HG := Lib.hid hg; have HD := Lib.hid (hd.below hal)
  clear hal hx hg h hn hd
  cases hq : groundOk C sn0 sn1 so0 so1 melt
  · rw [hq, if_pos rfl] at hR
    rw [hq] at HG
    subst hR
    go_enter Tryz.func21, Tryz.ntmps21
    go_upto_region 1 with fail
    revert HB HX HG HD
    generalize (World.alloc w (.cells #[.slice A n c, .int .i64 sn0, .int .i64 sn1, .int .i64 so0, .int .i64 so1, .int .i64 melt] 46)) = w1
    intro HB HX HG HD
    have x0 := HX.out.cell 0; have x1 := HX.out.cell 1; have x2 := HX.out.cell 2; have x3 := HX.out.cell 3; have x4 := HX.out.cell 4; have x5 := HX.out.cell 5
    simp at x0 x1 x2 x3 x4 x5
    go_wp2_with fail
    go_at_call 52
    refine (HG.out).mono ?_
    rintro e w1 ⟨rfl, hb9⟩
    have t0 := below_tr HB.out hb9
    clear HB
    have HB := Lib.hid t0
    clear t0
    clear hb9 
    go_wp2_with fail
    go_ret
    exact ⟨rfl, HB.out⟩
  · rw [hq, if_neg (by decide)] at hR
    rw [hq] at HG
    unfold maxLen at hdn
    rcases Nat.lt_or_ge 30 dn with h30 | h30
    · rw [if_pos h30] at hR
      subst hR
      go_enter Tryz.func21, Tryz.ntmps21
      go_upto_region 1 with fail
      revert HB HX HG HD
      generalize (World.alloc w (.cells #[.slice A n c, .int .i64 sn0, .int .i64 sn1, .int .i64 so0, .int .i64 so1, .int .i64 melt] 46)) = w1
      intro HB HX HG HD
      have x0 := HX.out.cell 0; have x1 := HX.out.cell 1; have x2 := HX.out.cell 2; have x3 := HX.out.cell 3; have x4 := HX.out.cell 4; have x5 := HX.out.cell 5
      simp at x0 x1 x2 x3 x4 x5
      go_wp2_with fail
      go_at_call 52
      refine (HG.out).mono ?_
      rintro e w1 ⟨rfl, hb9⟩
      have t0 := below_tr HB.out hb9
      clear HB
      have HB := Lib.hid t0
      clear t0
      clear hb9 
      go_wp2_with fail
      go_ret
      exact ⟨rfl, HB.out⟩
    · rw [if_neg (by omega)] at hR
      cases ha : allB dayOk D
      all_goals
        rw [ha] at hR
        simp only [if_true, if_false, Bool.false_eq_true] at hR
        subst hR
        go_enter Tryz.func21, Tryz.ntmps21
        go_upto_region 1 with fail
        revert HB HX HG HD
        generalize (World.alloc w (.cells #[.slice A n c, .int .i64 sn0, .int .i64 sn1, .int .i64 so0, .int .i64 so1, .int .i64 melt] 46)) = w1
        intro HB HX HG HD
        have x0 := HX.out.cell 0; have x1 := HX.out.cell 1; have x2 := HX.out.cell 2; have x3 := HX.out.cell 3; have x4 := HX.out.cell 4; have x5 := HX.out.cell 5
        simp at x0 x1 x2 x3 x4 x5
        go_wp2_with fail
        go_at_call 52
        refine (HG.out).mono ?_
        rintro e w1 ⟨rfl, hb9⟩
        have t0 := below_tr HB.out hb9; have t1 := HD.out.below hb9
        clear HB HD
        have HB := Lib.hid t0; have HD := Lib.hid t1
        clear t0 t1
        clear hb9 
        clear HG x0 x1 x2 x3 x4 x5 HX
        have hc := allDay_c (c := dc) (p := dayOk) w1 HD.out (by unfold maxLen; omega) (fun i x W hx hW => dayValid_c x W)
        rw [ha] at hc
        have HC := Lib.hid hc; clear hc
        go_wp2_with fail
        go_at_call 53
        refine (HC.out).mono ?_
        rintro e w1 ⟨rfl, hb9⟩
        have t0 := below_tr HB.out hb9; have t1 := HD.out.below hb9
        clear HB HD
        have HB := Lib.hid t0; have HD := Lib.hid t1
        clear t0 t1
        clear hb9 
        go_wp2_with fail
        go_ret
        exact ⟨rfl, HB.out⟩
end Go.Proofs.YtjpobkmlcjbpiaaGreat
