/- THE WALK of ZoneCoins. -/
import Derived.Test.YtphdndiikikecaaZLawPrem
import Derived.Test.YtphdndiikikecaaZCoinsLaw
namespace Go.Proofs.Ytphdndiikikecaa
open Go.RowKit Go.Proofs
attribute [local go_sem ↓] Go.wp_at_zero Go.wp_at_succ

set_option maxRecDepth 100000 in
set_option maxHeartbeats 4000000 in
theorem ZoneCoins_w {v : Vly} {PA SA : Option Addr} {pn pc sn sc : Nat} {c : Int} {w : World} (h : RdV w PA pn SA sn v) (hpn : pn ≤ maxLen) (hsn : sn ≤ maxLen) (hc : 0 ≤ c ∧ c ≤ 4294967295) :
    Calls Try.prog 5 #[.agg #[.slice PA pn pc, .slice SA sn sc, .int .i64 v.s0, .int .i64 v.s1, .int .i64 v.s2], .int .u32 c] w fun e w' => e = .returned (.bool true) ∧ Below w.heap.size w w' := by
  have hlp := h.pars.len; have hls := h.sls.len
  have HS0 := Lib.hid (SW.new w (vA PA pn pc SA sn sc v))
  have HRY := Lib.hid (ready_c (pc := pc) (sc := sc) (h.below HS0.out.bel) hpn hsn)
  have HV := Lib.hid h
  cases hr : readyB v
  · rw [hr] at HRY
    clear h hr
    go_enter Try.func5, Try.ntmps5
    go_wp2_with fail
    refine HRY.out.mono ?_
    rintro e w1 ⟨rfl, hb⟩
    have HB1 := Lib.hid (below_tr HS0.out.bel hb)
    clear hb
    go_wp2_with (go_at_call 18; refine (wakes_ok _).mono ?_; rintro e w2 ⟨rfl, hb2⟩)
    go_ret
    exact ⟨rfl, below_tr HB1.out hb2⟩
  · rw [hr] at HRY
    obtain ⟨hth, hok⟩ := readyB_iff.1 hr
    have ht := thinB_iff.1 hth
    have hpn15 : pn ≤ 12 := by have := hok.pn; omega
    have hsn12 : sn ≤ 10 := by have := hok.sn; omega
    have HWY := Lib.hid (fun (s : Sli) (hs : s ∈ v.sls) => show s.way.length ≤ 1000 from by have := ht.1 s hs; omega)
    have HOK := Lib.hid hok
    obtain ⟨F, hF⟩ : ∃ F, F = c.tmod 100000001 := ⟨_, rfl⟩
    have hF0 : 0 ≤ F ∧ F ≤ 100000000 := by
      have h1 := Int.tmod_eq_emod_of_nonneg (b := 100000001) hc.1
      rw [h1] at hF
      have h2 := Int.emod_nonneg c (show (100000001 : Int) ≠ 0 by omega)
      have h3 := Int.emod_lt_of_pos c (show (0 : Int) < 100000001 by omega)
      omega
    have hfu : inB F 0 100000000 = true := inB_iff.2 hF0
    have hwc : IntKind.i64.wrap c = c := wi (by omega)
    have hwF : IntKind.i64.wrap F = F := wi (by omega)
    have hFm : c.tmod 100000001 = F := hF.symm
    clear h hr hth ht hF
    go_enter Try.func5, Try.ntmps5
    go_wp2_with fail
    refine HRY.out.mono ?_
    rintro e w1 ⟨rfl, hb⟩
    have HS1 := Lib.hid (HS0.out.below hb)
    obtain ⟨c0, c1, c2, c3, c4⟩ := HS1.out.cells
    have HVL := Lib.hid (Valley_c (pc := pc) (sc := sc) (HV.out.below HS1.out.bel) (by omega) (by omega) HWY.out)
    clear hb HRY HS0
    go_wp2_with fail
    refine HVL.out.mono ?_
    rintro e w2 ⟨A1, d1, A2, d2, v', rfl, hv', hal, hb⟩
    have HS2 := Lib.hid (HS1.out.below hb)
    have HPR := Lib.hid (Premiums_ok (pc := d1) (sc := d2) hv' (hal.ok hok) hfu)
    rw [hal.wts] at HPR
    obtain ⟨G, hG⟩ : ∃ G, G = wtsL v := ⟨_, rfl⟩
    have HGB := Lib.hid (wtsL_bd hok)
    have HGL := Lib.hid (show G.length = pn by rw [hG, wtsL_len, hlp])
    have HWT := Lib.hid (fun W (hW : RdV W PA pn SA sn v) => Weights_c (pc := pc) (sc := sc) hok hW)
    rw [← hG] at HPR HGB HWT
    clear c0 c1 c2 c3 c4 hb hal hv' HVL HS1 hok hG hfu
    have HSO := Lib.hid (SumOk.of (M := 1000000000) (by omega) HGB.out (by rw [HGL.out]; omega))
    have hsum := sumL_bd (M := 1000000000) (by omega) HGB.out
    rw [HGL.out] at hsum
    by_cases hz : sumL G = 0
    · go_wp2_with fail
      refine HPR.out.mono ?_
      rintro e w3 ⟨hpp, hb⟩
      obtain rfl := PremP_zero hpp hz
      have HS3 := Lib.hid (HS2.out.below hb)
      obtain ⟨c0, c1, c2, c3, c4⟩ := HS3.out.cells
      have HW4 := Lib.hid (HWT.out w3 (HV.out.below HS3.out.bel))
      clear hb HPR HS2 hpp HWT
      go_wp2_with fail
      refine HW4.out.mono ?_
      rintro e w5 ⟨A3, c9, rfl, hr5, hb5⟩
      have HB5 := Lib.hid (below_tr HS3.out.bel hb5)
      have HSM := Lib.hid (rsum_c (c := c9) hr5 (by omega) HSO.out)
      rw [hz] at HSM
      clear hr5 hb5
      go_wp2_with fail
      refine HSM.out.mono ?_
      rintro e w6 ⟨rfl, rfl⟩
      go_wp2_with (go_at_call 18; refine (wakes_ok _).mono ?_; rintro e w7 ⟨rfl, hb7⟩)
      go_ret
      exact ⟨rfl, below_tr HB5.out hb7⟩
    · have hsl : (shareL F G).length = pn := by unfold shareL; rw [outsAt_len, HGL.out]
      go_wp2_with fail
      refine HPR.out.mono ?_
      rintro e w3 ⟨hpp, hb⟩
      obtain ⟨A9, k9, rfl, hr9⟩ := PremP_pos hpp hz hsl
      have HS3 := Lib.hid (HS2.out.below hb)
      obtain ⟨c0, c1, c2, c3, c4⟩ := HS3.out.cells
      have HW4 := Lib.hid (HWT.out w3 (HV.out.below HS3.out.bel))
      have HR3 := Lib.hid hr9
      have HZP := Lib.hid (show 0 < sumL G by omega)
      have HSS := Lib.hid (sum_share (c := F) HZP.out)
      have HCO := Lib.hid (fun (i : Nat) (y x : Int) (hy : G[i]? = some y) (hx : (shareL F G)[i]? = some x) => share_ok hF0.1 (fun q hq => (HGB.out q hq).1) HZP.out hy hx)
      have HMO := Lib.hid (fun (i k : Nat) (y x y' x' : Int) (hy : G[i]? = some y) (hx : (shareL F G)[i]? = some x) (hy' : G[k]? = some y') (hx' : (shareL F G)[k]? = some x') (hlt : y' < y) => share_mono hF0.1 HZP.out hy hx hy' hx' hlt)
      have HSF := Lib.hid (fun (x : Int) (hx : x ∈ shareL F G) => show 0 ≤ x ∧ x ≤ 100000000 from by
        obtain ⟨i, hi⟩ := List.getElem?_of_mem hx
        have hil := lt_of_get hi
        have hg := List.getElem?_eq_getElem (show i < G.length by rw [HGL.out]; omega)
        have h1 := HCO.out i _ _ hg hi
        have h2 := h1.lo; have h3 := h1.hi
        omega)
      have HSH := Lib.hid hsl
      clear hb HPR HS2 hpp HWT hr9 hsl
      go_wp2_with fail
      refine HW4.out.mono ?_
      rintro e w5 ⟨A3, c9, rfl, hr5, hb5⟩
      have HS5 := Lib.hid (HS3.out.below hb5)
      have HR5 := Lib.hid (HR3.out.below hb5)
      have HG5 := Lib.hid hr5
      have HSM := Lib.hid (rsum_c (c := c9) hr5 (by omega) HSO.out)
      obtain ⟨Z, hZ⟩ : ∃ Z, Z = sumL G := ⟨_, rfl⟩
      have HZ := Lib.hid hZ
      rw [← hZ] at HSM hz hsum HZP HCO
      have HSU := Lib.hid (rsum_c (c := k9) HR5.out (by omega) (SumOk.of (M := 100000000) (by omega) HSF.out (by rw [HSH.out]; omega)))
      rw [HSS.out] at HSU
      have hz1 : (1 : Int) ≤ Z := HZP.out
      clear hr5 hb5 HS3 HR3 hZ c0 c1 c2 c3 c4
      obtain ⟨c0, c1, c2, c3, c4⟩ := HS5.out.cells
      go_wp2_with fail
      refine HSM.out.mono ?_
      rintro e w6 ⟨rfl, rfl⟩
      go_wp2_with (go_at_call 27; refine HSU.out.mono ?_; rintro e w6 ⟨rfl, rfl⟩)
      have hpnF : Z ≤ 12000000000 := by omega
      have HF0 := Lib.hid hF0
      obtain ⟨S, hS⟩ : ∃ S, S = shareL F G := ⟨_, rfl⟩
      rw [← hS] at HR5 HSH HCO HMO
      clear hS HSF HSS HSU HSM
      go_loopw [10] (fun i wr => ∃ k : Nat, k ≤ pn ∧ i = .int .i64 k ∧ Below w5.heap.size w5 wr) (fun i _ => pn - (intOf i).toNat)
      case atStart => exact ⟨0, Nat.zero_le _, rfl, Below.refl _ _⟩
      case round =>
        obtain ⟨k, hk, rfl, hb⟩ := hrel
        have HB := Lib.hid hb
        by_cases hlt : k < pn
        · obtain ⟨b, o, x, hA, hblt, hx, hxc⟩ := (HR5.out.below hb).at1 hlt
          obtain ⟨b', o', y, hA', hblt', hy, hyc⟩ := (HG5.out.below hb).at1 hlt
          subst hA hA'
          have hco := HCO.out k y x hy hx
          have q1 := hco.lo; have q2 := hco.hi; have q3 := hco.lt; have q4 := hco.gt
          have hyb := HGB.out y (List.mem_of_getElem? hy)
          have HX := Lib.hid hx; have HY := Lib.hid hy
          have hm1 : 0 ≤ x * Z ∧ x * Z ≤ 1200000000000000000 := by
            refine ⟨Int.mul_nonneg q1 (by omega), ?_⟩
            calc x * Z ≤ 100000000 * Z := Int.mul_le_mul_of_nonneg_right (by omega) (by omega)
              _ ≤ 100000000 * 12000000000 := Int.mul_le_mul_of_nonneg_left (by omega) (by omega)
          have hm2 : 0 ≤ F * y ∧ F * y ≤ 100000000000000000 := by
            refine ⟨Int.mul_nonneg (by omega) (by omega), ?_⟩
            calc F * y ≤ 100000000 * y := Int.mul_le_mul_of_nonneg_right (by omega) (by omega)
              _ ≤ 100000000 * 1000000000 := Int.mul_le_mul_of_nonneg_left (by omega) (by omega)
          have hw1 : IntKind.i64.wrap (x * Z) = x * Z := wi (by omega)
          have hw2 : IntKind.i64.wrap (F * y) = F * y := wi (by omega)
          have hw3 : IntKind.i64.wrap (F * y + Z) = F * y + Z := wi (by omega)
          have hw4 : IntKind.i64.wrap (F * y - Z) = F * y - Z := wi (by omega)
          have n1 : decide (x < 0) = false := decide_eq_false (by omega)
          have n2 : decide (F < x) = false := decide_eq_false (by omega)
          have n3 : decide (F * y + Z ≤ x * Z) = false := decide_eq_false (by omega)
          have n4 : decide (x * Z ≤ F * y - Z) = false := decide_eq_false (by omega)
          have hkn : (k : Int) < (pn : Int) := by omega
          have hk0 : (0 : Int) ≤ (k : Int) := by omega
          clear hco hx hy hb
          go_wp2_with fail
          go_quiet (fail)
          go_wp2_with fail
          go_loopw [11] (fun j w7 => ∃ m : Nat, m ≤ pn ∧ j = .int .i64 m ∧ Below w5.heap.size w5 w7) (fun j _ => pn - (intOf j).toNat)
          case atStart => exact ⟨0, Nat.zero_le _, rfl, below_drewN HB.out _⟩
          case round =>
            obtain ⟨m, hm, rfl, hb7⟩ := hrel
            have HB7 := Lib.hid hb7
            by_cases hltm : m < pn
            · obtain ⟨b2, o2, x2, hA2, hblt2, hx2, hxc2⟩ := (HR5.out.below hb7).at1 hltm
              obtain ⟨b3, o3, y2, hA3, hblt3, hy2, hyc2⟩ := (HG5.out.below hb7).at1 hltm
              obtain ⟨b4, o4, x4, hA4, hblt4, hx4, hxc4⟩ := (HR5.out.below hb7).at1 hlt
              obtain ⟨b5, o5, y5, hA5, hblt5, hy5, hyc5⟩ := (HG5.out.below hb7).at1 hlt
              cases hA2; cases hA3; cases hA4; cases hA5
              rw [HX.out] at hx4; cases hx4
              rw [HY.out] at hy5; cases hy5
              have hmn : (m : Int) < (pn : Int) := by omega
              have hm0 : (0 : Int) ≤ (m : Int) := by omega
              have hmo := HMO.out k m y x y2 x2 HY.out HX.out hy2 hx2
              clear hx2 hy2 hb7
              by_cases hyy : y2 < y
              · have z1 : decide (y2 < y) = true := decide_eq_true hyy
                have z2 : decide (x < x2) = false := decide_eq_false (by have := hmo hyy; omega)
                clear hmo
                go_wp2_with fail
                go_quiet (fail)
                go_wp2_with fail
                go_roundw
                case rel => exact ⟨m + 1, by omega, by go_num, below_drewN HB7.out _⟩
                case measure => simp [intOf] <;> omega
              · have z1 : decide (y2 < y) = false := decide_eq_false hyy
                clear hmo
                go_wp2_with fail
                go_quiet (fail)
                go_wp2_with fail
                go_roundw
                case rel => exact ⟨m + 1, by omega, by go_num, below_drewN HB7.out _⟩
                case measure => simp [intOf] <;> omega
            · obtain rfl : m = pn := by omega
              clear hb7
              go_wp2_with fail
              go_roundw
              case rel => exact ⟨k + 1, by omega, by go_num, HB7.out⟩
              case measure => simp [intOf] <;> omega
        · obtain rfl : k = pn := by omega
          clear hb
          have HBE := Lib.hid (below_tr HS5.out.bel HB.out)
          go_wp2_with (go_at_call 18; refine (wakes_ok _).mono ?_; rintro e w9 ⟨rfl, hb9⟩)
          go_ret
          exact ⟨rfl, below_tr HBE.out hb9⟩
end Go.Proofs.Ytphdndiikikecaa
