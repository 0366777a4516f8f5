/- THE CONTRACT of zone.CheckValley. -/
import Derived.Test.YtphdndiikikecaaZSlide
import Derived.Test.YtphdndiikikecaaZAllPar
import Derived.Test.YtphdndiikikecaaZAllSli
import Derived.Deep.DeepCutAuto
namespace Go.Proofs.Ytphdndiikikecaa
open Go.RowKit Go.Proofs

theorem errV_big {v : Vly} (h : 10 < v.sls.length) : errV v = 3 := by simp [errV, h]
theorem errV_of {v : Vly} (h : v.sls.length ≤ 10) : errV v = if (inB v.pars.length 1 12 && allB parOk v.pars && allB (sliOk v.pars.length) v.sls && stepsOk v.s0 v.s1 v.s2) = true then 0 else 1 := by
  unfold errV; rw [if_neg (by omega)]

set_option maxRecDepth 100000 in
set_option maxHeartbeats 1000000 in
theorem checkV_c {v : Vly} {PA SA : Option Addr} {pn pc sn sc : Nat} {w : World} (h : RdV w PA pn SA sn v) (hpn : pn ≤ maxLen) (hsn : sn ≤ maxLen) :
    Calls Try.prog 40 #[.agg #[.slice PA pn pc, .slice SA sn sc, .int .i64 v.s0, .int .i64 v.s1, .int .i64 v.s2]] w fun e w' => e = .returned (.int .i64 (errV v)) ∧ Below w.heap.size w w' := by
  have HB := Lib.hid (errV_big (v := v)); have HO := Lib.hid (errV_of (v := v))
  obtain ⟨R, hR⟩ : ∃ R, R = errV v := ⟨_, rfl⟩
  rw [← hR] at HB HO ⊢
  clear hR
  have HLP := Lib.hid h.pars.len; have HLS := Lib.hid h.sls.len
  have HV := Lib.hid h
  obtain ⟨pars, sls, s0, s1, s2⟩ := v
  simp only at HB HO HLP HLS ⊢
  clear h
  go_enter Try.func40, Try.ntmps40
  go_upto_region 1 with fail
  go_cut [3] (fun x wx => x = .bool (stepsOk s0 s1 s2) ∧ wx = w.alloc (.cells #[.slice PA pn pc, .slice SA sn sc, .int .i64 s0, .int .i64 s1, .int .i64 s2] 36))
  case first =>
    by_cases h1 : 1 ≤ s0
    · by_cases h2 : s0 < s1
      · by_cases h3 : s1 < s2
        · go_wp2_with fail
          go_meet
          exact ⟨by simp [stepsOk, h1, h2, h3], rfl⟩
        · have h3' : s2 ≤ s1 := by omega
          go_wp2_with fail
          go_meet
          exact ⟨by rw [show stepsOk s0 s1 s2 = false by rw [← Bool.not_eq_true, stepsOk_iff]; omega], rfl⟩
      · have h2' : s1 ≤ s0 := by omega
        go_wp2_with fail
        go_meet
        exact ⟨by rw [show stepsOk s0 s1 s2 = false by rw [← Bool.not_eq_true, stepsOk_iff]; omega], rfl⟩
    · have h1' : s0 < 1 := by omega
      go_wp2_with fail
      go_meet
      exact ⟨by rw [show stepsOk s0 s1 s2 = false by rw [← Bool.not_eq_true, stepsOk_iff]; omega], rfl⟩
  case rest =>
    obtain ⟨rfl, rfl⟩ := hcut
    have hb0 : Below w.heap.size w (w.alloc (.cells #[.slice PA pn pc, .slice SA sn sc, .int .i64 s0, .int .i64 s1, .int .i64 s2] 36)) := (Below.refl _ w).alloc (Nat.le_refl _) _
    have HB0 := Lib.hid hb0; clear hb0
    by_cases h10 : 10 < sn
    · have hRR := HB.out (by rw [HLS.out]; exact h10)
      have HR := Lib.hid hRR; clear hRR
      have h10' : (10 : Int) < (sn : Int) := by omega
      go_wp2_with fail
      go_ret
      exact ⟨ret_int HR.out.symm, HB0.out⟩
    · have hRR := HO.out (by rw [HLS.out]; omega)
      rw [HLP.out] at hRR
      have h10' : (sn : Int) ≤ 10 := by omega
      cases hin : inB (pn : Int) 1 12
      · rw [hin] at hRR
        simp only [Bool.false_and, Bool.false_eq_true, if_false] at hRR
        have HR := Lib.hid hRR; clear hRR
        go_wp2_with (go_at_call 69; refine (within_c _ _ _ _).mono ?_; rintro e w' ⟨rfl, rfl⟩; simp only [hin])
        go_ret
        exact ⟨ret_int HR.out.symm, HB0.out⟩
      · have hin2 := inB_iff.1 hin
        have h12 : pn ≤ 12 := by omega
        have cp := fun (W : World) (hW : Below w.heap.size w W) => allPar_c (p := parOk) (c := pc) W (HV.out.pars.mono hW) hpn fun _ x W' _ _ => parcel_c x W'
        have cs := fun (W : World) (hW : Below w.heap.size w W) => allSli_c (p := sliOk pn) (c := sc) (.agg #[.slice PA pn pc, .slice SA sn sc, .int .i64 s0, .int .i64 s1, .int .i64 s2]) W (HV.out.sls.mono hW) hsn
          fun i x W' hx hW' => slide_c PA SA pn pc sn sc s0 s1 s2 x W' ((HV.out.way i x hx).1.mono (hW.trans (hW'.mono hW.size))) (HV.out.way i x hx).2.1 h12
        have CP := Lib.hid cp; have CS := Lib.hid cs
        clear cp cs
        simp only at CP CS
        rw [hin] at hRR
        cases hp : allB parOk pars
        · rw [hp] at hRR
          simp only [Bool.and_false, Bool.false_and, Bool.false_eq_true, if_false] at hRR
          have HR := Lib.hid hRR; clear hRR
          go_wp2_with (go_at_call 69; refine (within_c _ _ _ _).mono ?_; rintro e w' ⟨rfl, rfl⟩; simp only [hin])
          refine (CP.out _ HB0.out).mono ?_
          rintro e w1 ⟨rfl, hb1⟩
          rw [hp]
          go_wp2_with fail
          go_ret
          exact ⟨ret_int HR.out.symm, below_tr HB0.out hb1⟩
        · rw [hp] at hRR
          cases hs : allB (sliOk pn) sls
          · rw [hs] at hRR
            simp only [Bool.and_false, Bool.false_and, Bool.false_eq_true, if_false] at hRR
            have HR := Lib.hid hRR; clear hRR
            go_wp2_with (go_at_call 69; refine (within_c _ _ _ _).mono ?_; rintro e w' ⟨rfl, rfl⟩; simp only [hin])
            refine (CP.out _ HB0.out).mono ?_
            rintro e w1 ⟨rfl, hb1⟩
            rw [hp]
            have kb := (Blk.new w 36 #[.slice PA pn pc, .slice SA sn sc, .int .i64 s0, .int .i64 s1, .int .i64 s2]).below hb1 (by simp)
            have x0 := kb.cell 0; have x1 := kb.cell 1; have x2 := kb.cell 2; have x3 := kb.cell 3; have x4 := kb.cell 4
            simp at x0 x1 x2 x3 x4
            go_wp2_with fail
            refine (CS.out _ (below_tr HB0.out hb1)).mono ?_
            rintro e w2 ⟨rfl, hb2⟩
            rw [hs]
            go_wp2_with fail
            go_ret
            exact ⟨ret_int HR.out.symm, below_tr (below_tr HB0.out hb1) hb2⟩
          · rw [hs] at hRR
            simp only [Bool.true_and] at hRR
            have HR := Lib.hid hRR; clear hRR
            cases hst : stepsOk s0 s1 s2
            all_goals
              go_wp2_with (go_at_call 69; refine (within_c _ _ _ _).mono ?_; rintro e w' ⟨rfl, rfl⟩; simp only [hin])
              refine (CP.out _ HB0.out).mono ?_
              rintro e w1 ⟨rfl, hb1⟩
              rw [hp]
              have kb := (Blk.new w 36 #[.slice PA pn pc, .slice SA sn sc, .int .i64 s0, .int .i64 s1, .int .i64 s2]).below hb1 (by simp)
              have x0 := kb.cell 0; have x1 := kb.cell 1; have x2 := kb.cell 2; have x3 := kb.cell 3; have x4 := kb.cell 4
              simp at x0 x1 x2 x3 x4
              go_wp2_with fail
              refine (CS.out _ (below_tr HB0.out hb1)).mono ?_
              rintro e w2 ⟨rfl, hb2⟩
              rw [hs]
              go_wp2_with fail
              go_ret
              have hRR := HR.out
              rw [hst] at hRR
              exact ⟨ret_int (by rw [hRR]; rfl), below_tr (below_tr HB0.out hb1) hb2⟩
end Go.Proofs.Ytphdndiikikecaa
