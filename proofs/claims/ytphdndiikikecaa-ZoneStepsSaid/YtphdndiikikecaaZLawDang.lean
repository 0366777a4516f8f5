/- THE WALK of ZoneDangers. -/
import Derived.Test.YtphdndiikikecaaZReady
import Derived.Test.YtphdndiikikecaaZDanger
namespace Go.Proofs.Ytphdndiikikecaa
open Go.RowKit Go.Proofs
attribute [local go_sem ↓] Go.wp_at_zero Go.wp_at_succ

set_option maxRecDepth 100000 in
set_option maxHeartbeats 4000000 in
theorem ZoneDangers_w {v : Vly} {tr : List Int} {PA SA TA : Option Addr} {pn pc sn sc tn tc : Nat} {w : World} (h : RdV w PA pn SA sn v) (hpn : pn ≤ maxLen) (hsn : sn ≤ maxLen) (hT : Rd enc1 1 w TA tn tr) (htn : tn ≤ maxLen) :
    Calls Try.prog 10 #[.agg #[.slice PA pn pc, .slice SA sn sc, .int .i64 v.s0, .int .i64 v.s1, .int .i64 v.s2], .slice TA tn tc] w fun e w' => e = .returned (.bool true) ∧ Below w.heap.size w w' := by
  have hlp := h.pars.len; have hls := h.sls.len
  have HS0 := Lib.hid (SW.new w (vA PA pn pc SA sn sc v))
  have HTH := Lib.hid (Thin_c (pc := pc) (sc := sc) (h.below HS0.out.bel) hsn)
  have HV := Lib.hid h; have HT := Lib.hid hT
  unfold maxLen at htn
  by_cases hearly : thinB v = false ∨ 20 < tn
  · have hcases : thinB v = false ∨ (thinB v = true ∧ 20 < tn) := by
      cases hth : thinB v
      · exact .inl rfl
      · exact .inr ⟨rfl, hearly.resolve_left (by rw [hth]; simp)⟩
    clear h hT hearly
    rcases hcases with hth | ⟨hth, hgt⟩
    · rw [hth] at HTH
      clear hth
      go_enter Try.func10, Try.ntmps10
      go_wp2_with fail
      refine HTH.out.mono ?_
      rintro e w1 ⟨rfl, hb⟩
      have HB1 := Lib.hid (below_tr HS0.out.bel hb)
      clear hb
      go_wp2_with (go_at_call 18; refine (wakes_ok _).mono ?_; rintro e w2 ⟨rfl, hb2⟩)
      go_ret
      exact ⟨rfl, below_tr HB1.out hb2⟩
    · rw [hth] at HTH
      have hg : (20 : Int) < (tn : Int) := by omega
      clear hth
      go_enter Try.func10, Try.ntmps10
      go_wp2_with fail
      refine HTH.out.mono ?_
      rintro e w1 ⟨rfl, hb⟩
      have HB1 := Lib.hid (below_tr HS0.out.bel hb)
      clear hb
      go_wp2_with (go_at_call 18; refine (wakes_ok _).mono ?_; rintro e w2 ⟨rfl, hb2⟩)
      go_ret
      exact ⟨rfl, below_tr HB1.out hb2⟩
  · have hth : thinB v = true := by
      cases hth : thinB v
      · exact absurd (.inl hth) hearly
      · rfl
    have hle : ¬ (20 : Int) < (tn : Int) := fun hg => hearly (.inr (by omega))
    have htn20 : tn ≤ 20 := by omega
    rw [hth] at HTH
    have ht := thinB_iff.1 hth
    have hpn15 : pn ≤ 15 := by omega
    have hsn12 : sn ≤ 12 := by omega
    have HWY := Lib.hid (fun (s : Sli) (hs : s ∈ v.sls) => show s.way.length ≤ 1000 from by have := ht.1 s hs; omega)
    clear h hT hearly hth ht
    go_enter Try.func10, Try.ntmps10
    go_wp2_with fail
    refine HTH.out.mono ?_
    rintro e w1 ⟨rfl, hb⟩
    have HS1 := Lib.hid (HS0.out.below hb)
    obtain ⟨c0, c1, c2, c3, c4⟩ := HS1.out.cells
    have HVL := Lib.hid (Valley_c (pc := pc) (sc := sc) (HV.out.below HS1.out.bel) (by omega) (by omega) HWY.out)
    clear hb HTH HS0
    go_wp2_with fail
    refine HVL.out.mono ?_
    rintro e w2 ⟨A1, d1, A2, d2, v', rfl, hv', hal, hb⟩
    have HS2 := Lib.hid (HS1.out.below hb)
    have HCH := Lib.hid (checkV_c (pc := d1) (sc := d2) hv' (by unfold maxLen; omega) (by unfold maxLen; omega))
    rw [hal.err] at HCH
    obtain ⟨E, hE⟩ : ∃ E, E = errV v := ⟨_, rfl⟩
    rw [← hE] at HCH
    have HE := Lib.hid hE
    clear c0 c1 c2 c3 c4 hb hal hv' HVL HS1 hE
    go_wp2_with fail
    refine HCH.out.mono ?_
    rintro e w3 ⟨rfl, hb⟩
    have HS3 := Lib.hid (HS2.out.below hb)
    obtain ⟨c0, c1, c2, c3, c4⟩ := HS3.out.cells
    have HVL := Lib.hid (Valley_c (pc := pc) (sc := sc) (HV.out.below HS3.out.bel) (by omega) (by omega) HWY.out)
    clear hb HCH HS2
    go_wp2_with fail
    refine HVL.out.mono ?_
    rintro e w4 ⟨A3, d3, A4, d4, v', rfl, hv', hal, hb⟩
    have HS4 := Lib.hid (HS3.out.below hb)
    have HLI := Lib.hid (list_c (c := tc) (HT.out.below HS4.out.bel) (by omega))
    have HAL := Lib.hid hal; have HV4 := Lib.hid hv'
    clear c0 c1 c2 c3 c4 hb hal hv' HVL HS3
    go_wp2_with fail
    refine HLI.out.mono ?_
    rintro e w5 ⟨vl, rfl, hown, hb⟩
    obtain ⟨A5, d5, rfl, _, hr5⟩ := Rd.of_own2 hown HT.out.len
    clear hown
    have HS5 := Lib.hid (HS4.out.below hb)
    have HV5 := Lib.hid (HV4.out.below hb)
    have HR5 := Lib.hid hr5
    clear hb hr5 HLI HS4 HV4
    by_cases herr : E = 0
    · subst herr
      have hok : VOk v := errV_zero.1 HE.out.symm
      have HOK := Lib.hid hok
      by_cases hf : Fits v tr
      · have HF := Lib.hid hf
        have HDG := Lib.hid (DangerZ_c (pc := d3) (sc := d4) (tc := d5) HV5.out (HAL.out.ok hok) HR5.out (HAL.out.fits hf))
        rw [HAL.out.dangs, HAL.out.zone] at HDG
        clear hok hf
        go_wp2_with fail
        refine HDG.out.mono ?_
        rintro e w6 ⟨B1, e1, B2, e2, rfl, hr1, hr2, hb⟩
        have HS6 := Lib.hid (HS5.out.below hb)
        obtain ⟨c0, c1, c2, c3, c4⟩ := HS6.out.cells
        have HR1 := Lib.hid hr1; have HR2 := Lib.hid hr2
        have HFT := Lib.hid (fault_c (pc := pc) (sc := sc) (HV.out.below HS6.out.bel) (by unfold maxLen; omega) (by unfold maxLen; omega))
        rw [← HE.out] at HFT
        clear hb hr1 hr2 HDG HS5
        go_wp2_with fail
        refine HFT.out.mono ?_
        rintro e w7 ⟨rfl, hb⟩
        have HS7 := Lib.hid (HS6.out.below hb)
        have HR3 := Lib.hid (HR1.out.below hb); have HR4 := Lib.hid (HR2.out.below hb)
        have HFI := Lib.hid (Fits_c (pc := pc) (sc := sc) (tc := tc) (HV.out.below HS7.out.bel) (HT.out.below HS7.out.bel) (by unfold maxLen; omega) (by unfold maxLen; omega))
        clear hb HFT HS6 HR1 HR2 c0 c1 c2 c3 c4
        obtain ⟨c0, c1, c2, c3, c4⟩ := HS7.out.cells
        go_wp2_with fail
        refine HFI.out.mono ?_
        rintro e w8 ⟨bb, rfl, hbb, hb⟩
        obtain rfl : bb = true := hbb.2 HF.out
        have HS8 := Lib.hid (HS7.out.below hb)
        have HR5 := Lib.hid (HR3.out.below hb); have HR6 := Lib.hid (HR4.out.below hb)
        have HDL := Lib.hid (dangersL_c (pc := pc) (sc := sc) (tc := tc) HOK.out HF.out (HV.out.below HS8.out.bel) (HT.out.below HS8.out.bel))
        clear hb hbb HFI HS7 HR3 HR4 c0 c1 c2 c3 c4
        obtain ⟨c0, c1, c2, c3, c4⟩ := HS8.out.cells
        obtain ⟨dl, hdl⟩ : ∃ dl, dl = dangs v tr := ⟨_, rfl⟩
        have HD := Lib.hid hdl
        go_wp2_with fail
        refine HDL.out.mono ?_
        rintro e w9 ⟨B3, e3, B4, e4, rfl, hr3, hr4, hb⟩
        have HB9 := Lib.hid (below_tr HS8.out.bel hb)
        have HIA := Lib.hid (ints_c (c := e1) (c' := e3) (HR5.out.below hb) hr3 (by omega))
        have HIB := Lib.hid (fun W (hW : Below w9.heap.size w9 W) => ints_c (c := e2) (c' := e4) ((HR6.out.below hb).below hW) (hr4.below hW) (by omega))
        rw [decide_eq_true rfl] at HIA
        simp only [decide_eq_true rfl] at HIB
        clear hb HDL HS8 hr3 hr4 c0 c1 c2 c3 c4 hdl
        go_wp2_with fail
        refine HIA.out.mono ?_
        rintro e wa ⟨rfl, hba⟩
        go_wp2_with fail
        refine (HIB.out _ hba).mono ?_
        rintro e wb ⟨rfl, hbb⟩
        have HBY := Lib.hid (below_tr HB9.out (below_tr hba hbb))
        clear hba hbb HIA HIB
        go_wp2_with (go_at_call 18; refine (wakes_ok _).mono ?_; rintro e wd ⟨rfl, hbd⟩)
        go_ret
        exact ⟨rfl, below_tr HBY.out hbd⟩
      · have HDG := Lib.hid (Danger_not (pc := d3) (sc := d4) (tc := d5) HV5.out (HAL.out.ok hok) HR5.out (by unfold maxLen; omega) (fun hf' => hf (HAL.out.symm.fits hf')))
        have HNF := Lib.hid hf
        clear hok hf
        go_wp2_with fail
        refine HDG.out.mono ?_
        rintro e w6 ⟨rfl, hb⟩
        have HS6 := Lib.hid (HS5.out.below hb)
        obtain ⟨c0, c1, c2, c3, c4⟩ := HS6.out.cells
        have HFT := Lib.hid (fault_c (pc := pc) (sc := sc) (HV.out.below HS6.out.bel) (by unfold maxLen; omega) (by unfold maxLen; omega))
        rw [← HE.out] at HFT
        clear hb HDG HS5
        go_wp2_with fail
        refine HFT.out.mono ?_
        rintro e w7 ⟨rfl, hb⟩
        have HS7 := Lib.hid (HS6.out.below hb)
        have HFI := Lib.hid (Fits_c (pc := pc) (sc := sc) (tc := tc) (HV.out.below HS7.out.bel) (HT.out.below HS7.out.bel) (by unfold maxLen; omega) (by unfold maxLen; omega))
        clear hb HFT HS6 c0 c1 c2 c3 c4
        obtain ⟨c0, c1, c2, c3, c4⟩ := HS7.out.cells
        go_wp2_with fail
        refine HFI.out.mono ?_
        rintro e w8 ⟨bb, rfl, hbb, hb⟩
        obtain rfl : bb = false := by
          cases bb
          · rfl
          · exact absurd (hbb.1 rfl) HNF.out
        have HB8 := Lib.hid (below_tr HS7.out.bel hb)
        clear hb hbb HFI
        go_wp2_with (go_at_call 18; refine (wakes_ok _).mono ?_; rintro e w9 ⟨rfl, hb9⟩)
        go_ret
        exact ⟨rfl, below_tr HB8.out hb9⟩
    · have HBD := Lib.hid (Danger_bad (pc := d3) (sc := d4) (TA := A5) (tn := tn) (tc := d5) HV5.out (by unfold maxLen; omega) (by unfold maxLen; omega) (by rw [HAL.out.err, ← HE.out]; exact herr))
      rw [HAL.out.err, ← HE.out] at HBD
      have hE0 : (E == 0) = false := by rw [beq_eq_false_iff_ne]; exact herr
      have hE1 : (E == E) = true := by simp
      clear herr
      go_wp2_with fail
      refine HBD.out.mono ?_
      rintro e w6 ⟨rfl, hb⟩
      have HS6 := Lib.hid (HS5.out.below hb)
      obtain ⟨c0, c1, c2, c3, c4⟩ := HS6.out.cells
      have HFT := Lib.hid (fault_c (pc := pc) (sc := sc) (HV.out.below HS6.out.bel) (by unfold maxLen; omega) (by unfold maxLen; omega))
      rw [← HE.out] at HFT
      clear hb HBD HS5
      go_wp2_with fail
      refine HFT.out.mono ?_
      rintro e w7 ⟨rfl, hb⟩
      have HB7 := Lib.hid (below_tr HS6.out.bel hb)
      clear hb HFT
      go_wp2_with (go_at_call 18; refine (wakes_ok _).mono ?_; rintro e w8 ⟨rfl, hb8⟩)
      go_ret
      exact ⟨rfl, below_tr HB7.out hb8⟩
end Go.Proofs.Ytphdndiikikecaa
