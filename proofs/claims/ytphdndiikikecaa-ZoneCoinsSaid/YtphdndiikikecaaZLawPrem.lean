/- THE WALK of ZonePremiums. -/
import Derived.Test.YtphdndiikikecaaZWts
import Derived.Test.YtphdndiikikecaaZRShare
namespace Go.Proofs.Ytphdndiikikecaa
open Go.RowKit Go.Proofs
attribute [local go_sem ↓] Go.wp_at_zero Go.wp_at_succ

theorem PremP_zero {G : List Int} {c : Int} {n b : Nat} {e : Ending} {w' : World} (h : PremP G c n b e w') (hz : sumL G = 0) : e = .returned (.tuple #[.slice none 0 0, .int .i64 7]) := by
  unfold PremP at h; rwa [if_pos hz] at h
theorem PremP_pos {G : List Int} {c : Int} {n b : Nat} {e : Ending} {w' : World} (h : PremP G c n b e w') (hz : sumL G ≠ 0) (hl : (shareL c G).length = n) : ∃ A k, e = .returned (.tuple #[.slice A n k, .int .i64 0]) ∧ Rd enc1 1 w' A n (shareL c G) := by
  unfold PremP at h; rw [if_neg hz] at h
  obtain ⟨u, rfl, h⟩ := h
  obtain ⟨A, k, rfl, _, hr⟩ := Rd.of_own2 h hl
  exact ⟨A, k, rfl, hr⟩

set_option maxRecDepth 100000 in
set_option maxHeartbeats 4000000 in
theorem ZonePremiums_w {v : Vly} {PA SA : Option Addr} {pn pc sn sc : Nat} {coins : Int} {w : World} (h : RdV w PA pn SA sn v) (hsn : sn ≤ maxLen) :
    Calls Try.prog 4 #[.agg #[.slice PA pn pc, .slice SA sn sc, .int .i64 v.s0, .int .i64 v.s1, .int .i64 v.s2], .int .i64 coins] w fun e w' => e = .returned (.bool true) ∧ Below w.heap.size w w' := by
  have hlp := h.pars.len; have hls := h.sls.len
  have hs0 : SW w w.heap.size (vA PA pn pc SA sn sc v) (w.alloc (.cells (vA PA pn pc SA sn sc v) 26)) := ⟨(Below.refl _ w).alloc (Nat.le_refl _) _, Blk.new w _ _⟩
  have HS0 := Lib.hid hs0
  have HTH := Lib.hid (Thin_c (pc := pc) (sc := sc) (h.below hs0.1) hsn)
  have HV := Lib.hid h
  cases hth : thinB v
  · rw [hth] at HTH
    clear h hs0 hth
    go_enter Try.func4, Try.ntmps4
    go_wp2_with fail
    refine HTH.out.mono ?_
    rintro e w1 ⟨rfl, hb⟩
    have HB1 := Lib.hid (HS0.out.below hb).1
    clear hb
    go_wp2_with (go_at_call 18; refine (wakes_ok _).mono ?_; rintro e w2 ⟨rfl, hb2⟩)
    go_ret
    exact ⟨rfl, below_tr HB1.out hb2⟩
  · rw [hth] at HTH
    have ht := thinB_iff.1 hth
    have hpn15 : pn ≤ 15 := by omega
    have hsn12 : sn ≤ 12 := by omega
    have HWY := Lib.hid (fun (s : Sli) (hs : s ∈ v.sls) => show s.way.length ≤ 1000 from by have := ht.1 s hs; omega)
    clear h hs0 hth ht
    go_enter Try.func4, Try.ntmps4
    go_wp2_with fail
    refine HTH.out.mono ?_
    rintro e w1 ⟨rfl, hb⟩
    have HS1 := Lib.hid (HS0.out.below hb)
    obtain ⟨c0, c1, c2, c3, c4⟩ := HS1.out.cells
    have HVL := Lib.hid (Valley_c (pc := pc) (sc := sc) (HV.out.below HS1.out.1) (by omega) (by omega) HWY.out)
    clear hb HTH HS0
    go_wp2_with fail
    refine HVL.out.mono ?_
    rintro e w2 ⟨A1, d1, A2, d2, v', rfl, hv', hal, hb⟩
    have HS2 := Lib.hid (HS1.out.below hb)
    have HAL := Lib.hid hal
    have HV2 := Lib.hid hv'
    clear c0 c1 c2 c3 c4 hb hal hv' HVL HS1
    by_cases herr : errV v = 0
    · have hok : VOk v := errV_zero.1 herr
      have HOK := Lib.hid hok
      cases hfu : inB coins 0 100000000
      · have HPR := Lib.hid (Premiums_fund (pc := d1) (sc := d2) HV2.out (HAL.out.ok hok) hfu)
        clear hok
        go_wp2_with fail
        refine HPR.out.mono ?_
        rintro e w3 ⟨rfl, hb⟩
        have HS3 := Lib.hid (HS2.out.below hb)
        obtain ⟨c0, c1, c2, c3, c4⟩ := HS3.out.cells
        have HFT := Lib.hid (fault_c (pc := pc) (sc := sc) (HV.out.below HS3.out.1) (by unfold maxLen; omega) (by unfold maxLen; omega))
        rw [herr] at HFT
        clear hb HPR HS2
        go_wp2_with fail
        refine HFT.out.mono ?_
        rintro e w4 ⟨rfl, hb⟩
        have HB4 := Lib.hid (below_tr HS3.out.1 hb)
        have HIN := Lib.hid (In_c coins 0 100000000 w4)
        rw [hfu] at HIN
        clear hb HFT hfu
        go_wp2_with (first
          | (go_at_call 26; refine HIN.out.mono ?_; rintro e w5 ⟨rfl, rfl⟩)
          | (go_at_call 18; refine (wakes_ok _).mono ?_; rintro e w5 ⟨rfl, hb5⟩))
        go_ret
        exact ⟨rfl, below_tr HB4.out hb5⟩
      · have HPR := Lib.hid (Premiums_ok (pc := d1) (sc := d2) HV2.out (HAL.out.ok hok) hfu)
        rw [HAL.out.wts] at HPR
        have hfb := inB_iff.1 hfu
        obtain ⟨G, hG⟩ : ∃ G, G = wtsL v := ⟨_, rfl⟩
        have HGB := Lib.hid (wtsL_bd hok)
        have HGL := Lib.hid (show G.length = pn by rw [hG, wtsL_len, hlp])
        have hGp := hok.pn
        rw [hlp] at hGp
        have HWT := Lib.hid (fun W (hW : RdV W PA pn SA sn v) => Weights_c (pc := pc) (sc := sc) hok hW)
        rw [← hG] at HPR HGB HWT
        clear hok hG
        have HSO := Lib.hid (SumOk.of (M := 1000000000) (by omega) HGB.out (by rw [HGL.out]; omega))
        have hsum := sumL_bd (M := 1000000000) (by omega) HGB.out
        by_cases hz : sumL G = 0
        · go_wp2_with fail
          refine HPR.out.mono ?_
          rintro e w3 ⟨hpp, hb⟩
          obtain rfl := PremP_zero hpp hz
          have HS3 := Lib.hid (HS2.out.below hb)
          obtain ⟨c0, c1, c2, c3, c4⟩ := HS3.out.cells
          have HFT := Lib.hid (fault_c (pc := pc) (sc := sc) (HV.out.below HS3.out.1) (by unfold maxLen; omega) (by unfold maxLen; omega))
          rw [herr] at HFT
          clear hb HPR HS2 hpp
          go_wp2_with fail
          refine HFT.out.mono ?_
          rintro e w4 ⟨rfl, hb⟩
          have HS4 := Lib.hid (HS3.out.below hb)
          have HIN := Lib.hid (In_c coins 0 100000000 w4)
          rw [hfu] at HIN
          clear hb HFT hfu c0 c1 c2 c3 c4
          obtain ⟨c0, c1, c2, c3, c4⟩ := HS4.out.cells
          have HW4 := Lib.hid (HWT.out w4 (HV.out.below HS4.out.1))
          go_wp2_with (first
            | (go_at_call 26; refine HIN.out.mono ?_; rintro e w5 ⟨rfl, rfl⟩)
            | (go_at_call 28; refine HW4.out.mono ?_; rintro e w5 ⟨A3, c9, rfl, hr5, hb5⟩; have HB5 := Lib.hid (below_tr HS4.out.1 hb5))
            | (go_at_call 27; refine (rsum_c hr5 (by omega) HSO.out).mono ?_; rintro e w6 ⟨rfl, rfl⟩; rw [hz])
            | (go_at_call 18; refine (wakes_ok _).mono ?_; rintro e w7 ⟨rfl, hb7⟩))
          go_ret
          exact ⟨rfl, below_tr HB5.out hb7⟩
        · have hsl : (shareL coins G).length = pn := by unfold shareL; rw [outsAt_len, HGL.out]
          have hzb : (sumL G == 0) = false := by rw [beq_eq_false_iff_ne]; exact hz
          have HSH := Lib.hid hsl; clear hsl
          go_wp2_with fail
          refine HPR.out.mono ?_
          rintro e w3 ⟨hpp, hb⟩
          obtain ⟨A9, k9, rfl, hr9⟩ := PremP_pos hpp hz HSH.out
          have HR9 := Lib.hid hr9
          have HS3 := Lib.hid (HS2.out.below hb)
          obtain ⟨c0, c1, c2, c3, c4⟩ := HS3.out.cells
          have HFT := Lib.hid (fault_c (pc := pc) (sc := sc) (HV.out.below HS3.out.1) (by unfold maxLen; omega) (by unfold maxLen; omega))
          rw [herr] at HFT
          clear hb HPR HS2 hpp hr9
          go_wp2_with fail
          refine HFT.out.mono ?_
          rintro e w4 ⟨rfl, hb⟩
          have HS4 := Lib.hid (HS3.out.below hb)
          have HR4 := Lib.hid (HR9.out.below hb)
          have HIN := Lib.hid (In_c coins 0 100000000 w4)
          rw [hfu] at HIN
          clear hb HFT hfu c0 c1 c2 c3 c4
          obtain ⟨c0, c1, c2, c3, c4⟩ := HS4.out.cells
          have HW4 := Lib.hid (HWT.out w4 (HV.out.below HS4.out.1))
          obtain ⟨Z, hZ⟩ : ∃ Z, Z = sumL G := ⟨_, rfl⟩
          have HZ := Lib.hid hZ
          rw [← hZ] at hz hzb
          clear hZ
          go_upto_region 11 with (first
            | (go_at_call 26; refine HIN.out.mono ?_; rintro e w5 ⟨rfl, rfl⟩)
            | (go_at_call 28; refine HW4.out.mono ?_; rintro e w5 ⟨A3, c9, rfl, hr5, hb5⟩; have HS5 := Lib.hid (HS4.out.below hb5); have HR5 := Lib.hid (HR4.out.below hb5); obtain ⟨e0, e1, e2, e3, e4⟩ := HS5.out.cells)
            | (go_at_call 27; refine (rsum_c hr5 (by omega) HSO.out).mono ?_; rintro e w6 ⟨rfl, rfl⟩; rw [← HZ.out]))
          have HP0 := Lib.hid (show 0 < sumL G from by have := HZ.out; omega)
          have HW5 := Lib.hid (HWT.out w5 (HV.out.below HS5.out.1))
          clear hr5 hb5 hz hzb hsum HW4 HWT HIN
          go_wp2_with fail
          refine HW5.out.mono ?_
          rintro e w6 ⟨A4, c10, rfl, hr6, hb6⟩
          have HS6 := Lib.hid (HS5.out.below hb6)
          have HR6 := Lib.hid (HR5.out.below hb6)
          have HRS := Lib.hid (rshare_c (c := c10) hr6 (by omega) hfb HGB.out HP0.out)
          clear hr6 hb6 HW5 HR5 HS5
          go_wp2_with fail
          refine HRS.out.mono ?_
          rintro e w7 ⟨A5, c11, rfl, hr7, hb7⟩
          have HS7 := Lib.hid (HS6.out.below hb7)
          have HII := Lib.hid (ints_c (c := k9) (c' := c11) (HR6.out.below hb7) hr7 (by omega))
          have hdt : decide (shareL coins G = shareL coins G) = true := decide_eq_true rfl
          rw [hdt] at HII
          clear hr7 hb7 HRS HR6 HS6 hdt
          go_wp2_with fail
          refine HII.out.mono ?_
          rintro e w8 ⟨rfl, hb8⟩
          have HB8 := Lib.hid (below_tr HS7.out.1 hb8)
          clear hb8
          go_wp2_with (go_at_call 18; refine (wakes_ok _).mono ?_; rintro e w9 ⟨rfl, hb9⟩)
          go_ret
          exact ⟨rfl, below_tr HB8.out hb9⟩
    · have HBD := Lib.hid (Premiums_bad (pc := d1) (sc := d2) (coins := coins) HV2.out (by unfold maxLen; omega) (by unfold maxLen; omega) (by rw [HAL.out.err]; exact herr))
      rw [HAL.out.err] at HBD
      obtain ⟨E, hE⟩ : ∃ E, E = errV v := ⟨_, rfl⟩
      rw [← hE] at HBD
      have HE := Lib.hid hE
      have hE0 : (E == 0) = false := by rw [beq_eq_false_iff_ne, hE]; exact herr
      have hE1 : (E == E) = true := by simp
      clear herr hE
      go_wp2_with fail
      refine HBD.out.mono ?_
      rintro e w3 ⟨rfl, hb⟩
      have HS3 := Lib.hid (HS2.out.below hb)
      obtain ⟨c0, c1, c2, c3, c4⟩ := HS3.out.cells
      have HFT := Lib.hid (fault_c (pc := pc) (sc := sc) (HV.out.below HS3.out.1) (by unfold maxLen; omega) (by unfold maxLen; omega))
      rw [← HE.out] at HFT
      clear hb HBD HS2
      go_wp2_with fail
      refine HFT.out.mono ?_
      rintro e w4 ⟨rfl, hb⟩
      have HB4 := Lib.hid (below_tr HS3.out.1 hb)
      clear hb HFT
      go_wp2_with (go_at_call 18; refine (wakes_ok _).mono ?_; rintro e w5 ⟨rfl, hb5⟩)
      go_ret
      exact ⟨rfl, below_tr HB4.out hb5⟩
end Go.Proofs.Ytphdndiikikecaa
