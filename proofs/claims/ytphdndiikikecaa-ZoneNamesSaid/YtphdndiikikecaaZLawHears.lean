/- THE WALK of ZoneHears. -/
import Derived.Test.YtphdndiikikecaaZEv
import Derived.Test.YtphdndiikikecaaZLeft
import Derived.Test.YtphdndiikikecaaZHearFault
set_option linter.unusedVariables false
set_option linter.unusedSimpArgs false
namespace Go.Proofs.Ytphdndiikikecaa
open Go.RowKit Go.Proofs
attribute [local go_sem ↓] Go.wp_at_zero Go.wp_at_succ

theorem VAlike.lefts {v v' : Vly} (h : VAlike v v') (l : List Evd) : leftsL v' l = leftsL v l := by
  refine List.ext_getElem? fun k => ?_
  cases hs : v.sls[k]? with
  | none =>
    have h1 := h.len
    rw [List.getElem?_eq_none_iff] at hs
    rw [List.getElem?_eq_none (by rw [leftsL_len]; omega), List.getElem?_eq_none (by rw [leftsL_len]; omega)]
  | some s =>
    obtain ⟨s', hs', hc⟩ := core_get h.sls hs
    rw [leftsL_get hs, leftsL_get hs']
    simp only [core, Prod.mk.injEq] at hc
    rw [hc.2.2.1, hc.2.2.2]
theorem VAlike.hearE {v v' : Vly} (h : VAlike v v') (l : List Evd) : hearE v' l = hearE v l := by
  unfold Proofs.Ytphdndiikikecaa.hearE
  rw [h.lefts, h.len]

theorem Hear_e {v v' : Vly} {l : List Evd} {PA SA LA : Option Addr} {pn pc sn sc ln lc : Nat} {w : World} (hok : VOk v) (hal : VAlike v v') (h : RdV w PA pn SA sn v') (hL : Rd encE 3 w LA ln l) (hln : ln ≤ maxLen) (hE : hearE v l ≠ 0) :
    Calls Try.prog 46 #[.agg #[.slice PA pn pc, .slice SA sn sc, .int .i64 v'.s0, .int .i64 v'.s1, .int .i64 v'.s2], .slice LA ln lc] w
      fun e w' => e = .returned (.tuple #[.slice none 0 0, .int .i64 (hearE v l)]) ∧ Below w.heap.size w w' := by
  have hok' := hal.ok hok
  have hls := h.sls.len; have hll := hL.len
  have hlen := hal.len
  by_cases hno : 20 < l.length ∨ allB (evOk sn) l = false
  · refine (Hear_arg (pc := pc) (sc := sc) (lc := lc) h hok' hL hln hno).mono ?_
    rintro e w' ⟨rfl, hb⟩
    refine ⟨?_, hb⟩
    by_cases h20 : 20 < l.length
    · rw [if_pos h20, hearE_long h20]
    · rw [if_neg h20, hearE_odd h20 (by rw [← hlen, hls]; exact hno.resolve_left h20)]
  · have h20 : ¬ 20 < l.length := fun h => hno (.inl h)
    have hev : allB (evOk sn) l = true := by
      cases hh : allB (evOk sn) l
      · exact absurd (.inr hh) hno
      · rfl
    refine (Hear_c (pc := pc) (sc := sc) (lc := lc) h hok' hL (by omega) hev).mono ?_
    rintro e w' ⟨hP, hb⟩
    have hev' : allB (evOk v.sls.length) l = true := by rw [← hlen, hls]; exact hev
    rcases hP with ⟨A, c, hup, _, _⟩ | ⟨hup, rfl⟩
    · rw [hal.lefts] at hup
      exact absurd (hearE_ok h20 hev' hup) hE
    · rw [hal.lefts] at hup
      exact ⟨by rw [hearE_fail h20 hev' hup], hb⟩
theorem Hear_o {v v' : Vly} {l : List Evd} {PA SA LA : Option Addr} {pn pc sn sc ln lc : Nat} {w : World} (hok : VOk v) (hal : VAlike v v') (h : RdV w PA pn SA sn v') (hL : Rd encE 3 w LA ln l) (hE : hearE v l = 0) :
    Calls Try.prog 46 #[.agg #[.slice PA pn pc, .slice SA sn sc, .int .i64 v'.s0, .int .i64 v'.s1, .int .i64 v'.s2], .slice LA ln lc] w
      fun e w' => ∃ A c, e = .returned (.tuple #[.slice A sn c, .int .i64 0]) ∧ Rd enc2 2 w' A sn (leftsL v l) ∧ Below w.heap.size w w' := by
  have hok' := hal.ok hok
  have hls := h.sls.len; have hll := hL.len
  have hlen := hal.len
  have h20 : ¬ 20 < l.length := fun hh => by rw [hearE_long hh] at hE; omega
  have hev' : allB (evOk v.sls.length) l = true := by
    cases hh : allB (evOk v.sls.length) l
    · rw [hearE_odd h20 hh] at hE; omega
    · rfl
  have hup : allB upR (leftsL v l) = true := by
    cases hh : allB upR (leftsL v l)
    · rw [hearE_fail h20 hev' hh] at hE; omega
    · rfl
  refine (Hear_c (pc := pc) (sc := sc) (lc := lc) h hok' hL (by omega) (by rw [← hls, hlen]; exact hev')).mono ?_
  rintro e w' ⟨hP, hb⟩
  rcases hP with ⟨A, c, _, rfl, hr⟩ | ⟨hup', _⟩
  · rw [hal.lefts] at hr
    exact ⟨A, c, rfl, hr, hb⟩
  · rw [hal.lefts, hup] at hup'; cases hup'

set_option maxRecDepth 100000 in
set_option maxHeartbeats 4000000 in
theorem ZoneHears_w {v : Vly} {l : List Evd} {PA SA LA : Option Addr} {pn pc sn sc ln lc : Nat} {w : World} (h : RdV w PA pn SA sn v) (hpn : pn ≤ maxLen) (hsn : sn ≤ maxLen) (hL : Rd encE 3 w LA ln l) (hln : ln ≤ maxLen) :
    Calls Try.prog 14 #[.agg #[.slice PA pn pc, .slice SA sn sc, .int .i64 v.s0, .int .i64 v.s1, .int .i64 v.s2], .slice LA ln lc] w fun e w' => e = .returned (.bool true) ∧ Below w.heap.size w w' := by
  have hlp := h.pars.len; have hls := h.sls.len
  have HS0 := Lib.hid (SW.new w (vA PA pn pc SA sn sc v))
  have HTH := Lib.hid (Thin_c (pc := pc) (sc := sc) (h.below HS0.out.bel) hsn)
  have HV := Lib.hid h; have HL := Lib.hid hL
  unfold maxLen at hln
  by_cases hearly : thinB v = false ∨ 25 < ln
  · have hcases : thinB v = false ∨ (thinB v = true ∧ 25 < ln) := by
      cases hth : thinB v
      · exact .inl rfl
      · exact .inr ⟨rfl, hearly.resolve_left (by rw [hth]; simp)⟩
    clear h hL hearly
    rcases hcases with hth | ⟨hth, hgt⟩
    · rw [hth] at HTH
      clear hth
      go_enter Try.func14, Try.ntmps14
      go_wp2_with fail
      refine HTH.out.mono ?_
      rintro e w1 ⟨rfl, hb⟩
      have HB1 := Lib.hid (below_tr HS0.out.bel hb)
      clear hb
      go_wp2_with (go_at_call 18; refine (wakes_ok _).mono ?_; rintro e w2 ⟨rfl, hb2⟩)
      go_ret
      exact ⟨rfl, below_tr HB1.out hb2⟩
    · rw [hth] at HTH
      have hg : (25 : Int) < (ln : Int) := by omega
      clear hth
      go_enter Try.func14, Try.ntmps14
      go_wp2_with fail
      refine HTH.out.mono ?_
      rintro e w1 ⟨rfl, hb⟩
      have HB1 := Lib.hid (below_tr HS0.out.bel hb)
      clear hb
      go_wp2_with (go_at_call 18; refine (wakes_ok _).mono ?_; rintro e w2 ⟨rfl, hb2⟩)
      go_ret
      exact ⟨rfl, below_tr HB1.out hb2⟩
  · have hth : thinB v = true := by
      cases hth : thinB v
      · exact absurd (.inl hth) hearly
      · rfl
    have hle : ¬ (25 : Int) < (ln : Int) := fun hg => hearly (.inr (by omega))
    have hle2 : decide ((25 : Int) < (ln : Int)) = false := decide_eq_false hle
    have hln25 : ln ≤ 25 := by omega
    rw [hth] at HTH
    have ht := thinB_iff.1 hth
    have hpn15 : pn ≤ 15 := by omega
    have hsn12 : sn ≤ 12 := by omega
    have HWY := Lib.hid (fun (s : Sli) (hs : s ∈ v.sls) => show s.way.length ≤ 1000 from by have := ht.1 s hs; omega)
    have HLS := Lib.hid hls
    clear h hL hearly hth ht
    go_enter Try.func14, Try.ntmps14
    go_wp2_with fail
    refine HTH.out.mono ?_
    rintro e w1 ⟨rfl, hb⟩
    have HS1 := Lib.hid (HS0.out.below hb)
    obtain ⟨c0, c1, c2, c3, c4⟩ := HS1.out.cells
    have HVL := Lib.hid (Valley_c (pc := pc) (sc := sc) (HV.out.below HS1.out.bel) (by omega) (by omega) HWY.out)
    clear hb HTH HS0
    go_wp2_with fail
    refine HVL.out.mono ?_
    rintro e w2 ⟨A1, d1, A2, d2, v', rfl, hv', hal, hb⟩
    have HS2 := Lib.hid (HS1.out.below hb)
    have HV2 := Lib.hid hv'; have HAL := Lib.hid hal
    have HHD := Lib.hid (Heard_c (c := lc) (HL.out.below HS2.out.bel) (by omega))
    clear c0 c1 c2 c3 c4 hb hal hv' HVL HS1
    go_wp2_with fail
    refine HHD.out.mono ?_
    rintro e w3 ⟨A3, d3, rfl, hr3, hb⟩
    have HS3 := Lib.hid (HS2.out.below hb)
    have HV3 := Lib.hid (HV2.out.below hb)
    have HR3 := Lib.hid hr3
    clear hb hr3 HHD HS2 HV2
    by_cases herr : errV v = 0
    · have hok : VOk v := errV_zero.1 herr
      have HOK := Lib.hid hok
      have hsn10 : sn ≤ 10 := by have := hok.sn; omega
      obtain ⟨H, hH⟩ : ∃ H, H = hearE v l := ⟨_, rfl⟩
      have HH := Lib.hid hH
      have HFTW := Lib.hid (fun W (hW : Below w.heap.size w W) => fault_c (pc := pc) (sc := sc) (HV.out.below hW) (by unfold maxLen; omega) (by unfold maxLen; omega))
      rw [herr] at HFTW
      have HHFW := Lib.hid (fun W (hW : Below w.heap.size w W) => HearFault_c (pc := pc) (sc := sc) (lc := lc) (HV.out.below hW) (HL.out.below hW) hsn10 (by omega))
      rw [← hH] at HHFW
      by_cases hz : H = 0
      · subst hz
        have HHE := Lib.hid (Hear_o (pc := d1) (sc := d2) (lc := d3) hok HAL.out HV3.out HR3.out hH.symm)
        clear hok hH herr
        go_wp2_with fail
        refine HHE.out.mono ?_
        rintro e w4 ⟨A5, d5, rfl, hr5, hb⟩
        have HS4 := Lib.hid (HS3.out.below hb)
        have HR5 := Lib.hid hr5
        obtain ⟨c0, c1, c2, c3, c4⟩ := HS4.out.cells
        have HFT := Lib.hid (HFTW.out _ HS4.out.bel)
        clear hb hr5 HHE HS3
        go_wp2_with fail
        refine HFT.out.mono ?_
        rintro e w5 ⟨rfl, hb⟩
        have HS5 := Lib.hid (HS4.out.below hb)
        have HR6 := Lib.hid (HR5.out.below hb)
        have HHF := Lib.hid (HHFW.out _ HS5.out.bel)
        clear hb HFT HS4 HR5 c0 c1 c2 c3 c4
        obtain ⟨c0, c1, c2, c3, c4⟩ := HS5.out.cells
        go_wp2_with fail
        refine HHF.out.mono ?_
        rintro e w6 ⟨rfl, hb⟩
        have HS6 := Lib.hid (HS5.out.below hb)
        have HR7 := Lib.hid (HR6.out.below hb)
        clear hb HHF HS5 HR6 c0 c1 c2 c3 c4
        obtain ⟨c0, c1, c2, c3, c4⟩ := HS6.out.cells
        go_wp2_with fail
        go_loopw [8, 9] (fun i _ wr => ∃ k : Nat, k ≤ sn ∧ i = .int .i64 k ∧ Below w6.heap.size w6 wr) (fun i _ _ => sn - (intOf i).toNat)
        case atStart => exact ⟨0, Nat.zero_le _, rfl, Below.refl _ _⟩
        case round =>
          obtain ⟨k, hk, rfl, hb⟩ := hrel
          have HS7 := Lib.hid (HS6.out.below hb)
          clear c0 c1 c2 c3 c4
          obtain ⟨c0, c1, c2, c3, c4⟩ := HS7.out.cells
          by_cases hlt : k < sn
          · obtain ⟨s, hs⟩ : ∃ s, v.sls[k]? = some s := ⟨_, List.getElem?_eq_getElem (by have := HLS.out; omega)⟩
            have hget := leftsL_get (l := l) hs
            have HLF := Lib.hid (Left_c (pc := pc) (sc := sc) (lc := lc) (HV.out.below HS7.out.bel) (HL.out.below HS7.out.bel) (by omega) hs)
            obtain ⟨r, hr⟩ : ∃ r, r = leftL l (k : Int) (s.lo, s.hi) := ⟨_, rfl⟩
            rw [← hr] at hget HLF
            have HG := Lib.hid hget
            have HB7 := Lib.hid hb
            have hkn : (k : Int) < (sn : Int) := by omega
            have hk0 : (0 : Int) ≤ (k : Int) := by omega
            clear hb hs hget hr
            go_wp2_with fail
            refine HLF.out.mono ?_
            rintro e w8 ⟨rfl, hb8⟩
            have hb9 := hb8.alloc hb8.size (.cells #[.int .i64 r.1, .int .i64 r.2] 60)
            have hbb := below_tr HB7.out hb9
            obtain ⟨b, o, y, hA, hblt, hy, y0, y1⟩ := (HR7.out.below hbb).at2 hlt
            rw [HG.out] at hy; cases hy
            subst hA
            have HBB := Lib.hid hbb
            clear hb8 hb9 hbb HS7 c0 c1 c2 c3 c4
            go_wp2_with fail
            go_quiet (fail)
            go_wp2_with fail
            go_roundw
            case rel => exact ⟨k + 1, by omega, by go_num, below_drewN HBB.out _⟩
            case measure => simp [intOf] <;> omega
          · obtain rfl : k = sn := by omega
            have HBE := Lib.hid HS7.out.bel
            clear hb c0 c1 c2 c3 c4
            go_wp2_with (go_at_call 18; refine (wakes_ok _).mono ?_; rintro e w9 ⟨rfl, hb9⟩)
            go_ret
            exact ⟨rfl, below_tr HBE.out hb9⟩
      · have HHE := Lib.hid (Hear_e (pc := d1) (sc := d2) (lc := d3) hok HAL.out HV3.out HR3.out (by unfold maxLen; omega) (by rw [← hH]; exact hz))
        rw [← hH] at HHE
        have hE0 : (H == 0) = false := by rw [beq_eq_false_iff_ne]; exact hz
        have hE1 : (H == H) = true := by simp
        clear hok hH herr hz
        go_wp2_with fail
        refine HHE.out.mono ?_
        rintro e w4 ⟨rfl, hb⟩
        have HS4 := Lib.hid (HS3.out.below hb)
        obtain ⟨c0, c1, c2, c3, c4⟩ := HS4.out.cells
        have HFT := Lib.hid (HFTW.out _ HS4.out.bel)
        clear hb HHE HS3
        go_wp2_with fail
        refine HFT.out.mono ?_
        rintro e w5 ⟨rfl, hb⟩
        have HS5 := Lib.hid (HS4.out.below hb)
        have HHF := Lib.hid (HHFW.out _ HS5.out.bel)
        clear hb HFT HS4 c0 c1 c2 c3 c4
        obtain ⟨c0, c1, c2, c3, c4⟩ := HS5.out.cells
        go_wp2_with fail
        refine HHF.out.mono ?_
        rintro e w6 ⟨rfl, hb⟩
        have HB6 := Lib.hid (below_tr HS5.out.bel hb)
        clear hb HHF
        go_wp2_with (go_at_call 18; refine (wakes_ok _).mono ?_; rintro e w9 ⟨rfl, hb9⟩)
        go_ret
        exact ⟨rfl, below_tr HB6.out hb9⟩
    · have HBD := Lib.hid (Hear_bad (pc := d1) (sc := d2) (LA := A3) (ln := ln) (lc := d3) HV3.out (by unfold maxLen; omega) (by unfold maxLen; omega) (by rw [HAL.out.err]; exact herr))
      rw [HAL.out.err] at HBD
      obtain ⟨E, hE⟩ : ∃ E, E = errV v := ⟨_, rfl⟩
      rw [← hE] at HBD herr
      have HE := Lib.hid hE
      have hE0 : (E == 0) = false := by rw [beq_eq_false_iff_ne]; exact herr
      have hE1 : (E == E) = true := by simp
      clear herr hE
      go_wp2_with fail
      refine HBD.out.mono ?_
      rintro e w6 ⟨rfl, hb⟩
      have HS6 := Lib.hid (HS3.out.below hb)
      obtain ⟨c0, c1, c2, c3, c4⟩ := HS6.out.cells
      have HFT := Lib.hid (fault_c (pc := pc) (sc := sc) (HV.out.below HS6.out.bel) (by unfold maxLen; omega) (by unfold maxLen; omega))
      rw [← HE.out] at HFT
      clear hb HBD HS3
      go_wp2_with fail
      refine HFT.out.mono ?_
      rintro e w7 ⟨rfl, hb⟩
      have HB7 := Lib.hid (below_tr HS6.out.bel hb)
      clear hb HFT
      go_wp2_with (go_at_call 18; refine (wakes_ok _).mono ?_; rintro e w8 ⟨rfl, hb8⟩)
      go_ret
      exact ⟨rfl, below_tr HB7.out hb8⟩
end Go.Proofs.Ytphdndiikikecaa
