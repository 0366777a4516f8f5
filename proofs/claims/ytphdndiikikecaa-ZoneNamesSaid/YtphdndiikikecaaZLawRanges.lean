/- THE CONTRACTS of the reference's Fault and of the law's fault. -/
import Derived.Test.YtphdndiikikecaaZFault
import Derived.Test.YtphdndiikikecaaZValC
set_option linter.unusedVariables false
set_option linter.unusedSimpArgs false
namespace Go.Proofs.Ytphdndiikikecaa
open Go.RowKit Go.Proofs

theorem Fault_c {v : Vly} {PA SA : Option Addr} {pn pc sn sc : Nat} {w : World} (h : RdV w PA pn SA sn v) (hpn : pn ≤ maxLen) (hsn : sn ≤ maxLen) :
    Calls Try.prog 34 #[.agg #[.slice PA pn pc, .slice SA sn sc, .int .i64 v.s0, .int .i64 v.s1, .int .i64 v.s2]] w fun e w' => e = .returned (.int .i64 (errV v)) ∧ Below w.heap.size w w' := by
  by_cases hb : 10 < sn ∨ inB (pn : Int) 1 12 = false ∨ stepsOk v.s0 v.s1 v.s2 = false
  · exact Fault_early h hpn hsn hb
  · exact Fault_main h hpn hsn (fun h1 => hb (.inl h1)) (by cases e : inB (pn : Int) 1 12 with | true => rfl | false => exact absurd (.inr (.inl e)) hb) (by cases e : stepsOk v.s0 v.s1 v.s2 with | true => rfl | false => exact absurd (.inr (.inr e)) hb)
theorem fault_c {v : Vly} {PA SA : Option Addr} {pn pc sn sc : Nat} {w : World} (h : RdV w PA pn SA sn v) (hpn : pn ≤ maxLen) (hsn : sn ≤ maxLen) :
    Calls Try.prog 21 #[.agg #[.slice PA pn pc, .slice SA sn sc, .int .i64 v.s0, .int .i64 v.s1, .int .i64 v.s2]] w fun e w' => e = .returned (.int .i64 (errV v)) ∧ Below w.heap.size w w' := by
  have hb0 : Below w.heap.size w (w.alloc (.cells (vA PA pn pc SA sn sc v) 26)) := (Below.refl _ w).alloc (Nat.le_refl _) _
  have HF := Lib.hid (Fault_c (pc := pc) (sc := sc) (h.below hb0) hpn hsn)
  obtain ⟨R, hR⟩ : ∃ R, R = errV v := ⟨_, rfl⟩
  rw [← hR] at HF ⊢
  have HB := Lib.hid hb0
  clear h hb0 hR
  go_enter Try.func21, Try.ntmps21
  go_wp2_with fail
  refine HF.out.mono ?_
  rintro e w2 ⟨rfl, hb⟩
  have HB2 := Lib.hid (below_tr HB.out hb)
  clear hb
  go_wp2_with fail
  go_ret
  exact ⟨rfl, HB2.out⟩
end Go.Proofs.Ytphdndiikikecaa

namespace Go.Proofs.Ytphdndiikikecaa
open Go.RowKit Go.Proofs
attribute [local go_sem ↓] Go.wp_at_zero Go.wp_at_succ

theorem rng_zip {lo hi : List Int} (h : hi.length = lo.length) : rngB (lo.zip hi) lo hi = true := by
  unfold rngB
  rw [decide_eq_true_iff, List.length_zip]
  exact ⟨by omega, by omega, rfl⟩
/-- what a world keeps: all that lay in w2, the box of the law's valley -/
def SW (w2 : World) (g : Nat) (cs : Array Value) (W : World) : Prop := Below w2.heap.size w2 W ∧ Blk W g 26 cs
theorem SW.drew {w2 : World} {g : Nat} {cs : Array Value} {W : World} (h : SW w2 g cs W) : SW w2 g cs W.drew := ⟨h.1.drew, h.2⟩
theorem SW.below {w2 : World} {g : Nat} {cs : Array Value} {W W' : World} (h : SW w2 g cs W) (hb : Below W.heap.size W W') : SW w2 g cs W' := ⟨below_tr h.1 hb, h.2.below hb h.2.lt⟩
theorem SW.cells {w2 : World} {g : Nat} {PA SA : Option Addr} {pn pc sn sc : Nat} {v : Vly} {W : World} (h : SW w2 g (vA PA pn pc SA sn sc v) W) :
    W.cell? ⟨g, 0, none⟩ = some (.slice PA pn pc) ∧ W.cell? ⟨g, 1, none⟩ = some (.slice SA sn sc) ∧ W.cell? ⟨g, 2, none⟩ = some (.int .i64 v.s0) ∧ W.cell? ⟨g, 3, none⟩ = some (.int .i64 v.s1) ∧ W.cell? ⟨g, 4, none⟩ = some (.int .i64 v.s2) := by
  refine ⟨?_, ?_, ?_, ?_, ?_⟩
  · rw [h.2.cell 0]; rfl
  · rw [h.2.cell 1]; rfl
  · rw [h.2.cell 2]; rfl
  · rw [h.2.cell 3]; rfl
  · rw [h.2.cell 4]; rfl

set_option maxRecDepth 100000 in
set_option maxHeartbeats 4000000 in
theorem ZoneRanges_w {v : Vly} {PA SA : Option Addr} {pn pc sn sc : Nat} {w : World} (h : RdV w PA pn SA sn v) (hpn : pn ≤ maxLen) (hsn : sn ≤ maxLen) :
    Calls Try.prog 3 #[.agg #[.slice PA pn pc, .slice SA sn sc, .int .i64 v.s0, .int .i64 v.s1, .int .i64 v.s2]] w fun e w' => e = .returned (.bool true) ∧ Below w.heap.size w w' := by
  have hlp := h.pars.len; have hls := h.sls.len
  have hs0 : SW w w.heap.size (vA PA pn pc SA sn sc v) (w.alloc (.cells (vA PA pn pc SA sn sc v) 26)) := ⟨(Below.refl _ w).alloc (Nat.le_refl _) _, Blk.new w _ _⟩
  have HS0 := Lib.hid hs0
  have HTH := Lib.hid (Thin_c (pc := pc) (sc := sc) (h.below hs0.1) hsn)
  have HV := Lib.hid h
  cases hth : thinB v
  · rw [hth] at HTH
    clear h hs0 hth
    go_enter Try.func3, Try.ntmps3
    go_wp2_with fail
    refine HTH.out.mono ?_
    rintro e w1 ⟨rfl, hb⟩
    have HB1 := Lib.hid (HS0.out.below hb).1
    clear hb
    go_wp2_with (go_at_call 18; refine (wakes_ok _).mono ?_; rintro e w2 ⟨rfl, hb2⟩)
    go_ret
    exact ⟨rfl, below_tr HB1.out hb2⟩
  · rw [hth] at HTH
    have ht := thinB_iff.1 hth
    have hpn15 : pn ≤ 15 := by omega
    have hsn12 : sn ≤ 12 := by omega
    have HWY := Lib.hid (fun (s : Sli) (hs : s ∈ v.sls) => show s.way.length ≤ 1000 from by have := ht.1 s hs; omega)
    clear h hs0 hth ht
    go_enter Try.func3, Try.ntmps3
    go_wp2_with fail
    refine HTH.out.mono ?_
    rintro e w1 ⟨rfl, hb⟩
    have HS1 := Lib.hid (HS0.out.below hb)
    obtain ⟨c0, c1, c2, c3, c4⟩ := HS1.out.cells
    have HVL := Lib.hid (Valley_c (pc := pc) (sc := sc) (HV.out.below HS1.out.1) (by omega) (by omega) HWY.out)
    clear hb HTH HS0
    go_wp2_with fail
    refine HVL.out.mono ?_
    rintro e w2 ⟨A1, d1, A2, d2, v', rfl, hv', hal, hb⟩
    have HS2 := Lib.hid (HS1.out.below hb)
    have HAL := Lib.hid hal
    have HV2 := Lib.hid hv'
    clear c0 c1 c2 c3 c4 hb hal hv' HVL HS1
    by_cases herr : errV v = 0
    · have hok : VOk v := errV_zero.1 herr
      have HOK := Lib.hid hok
      have HZN := Lib.hid (Zones_c (pc := d1) (sc := d2) HV2.out (HAL.out.ok hok))
      rw [HAL.out.ends, HAL.out.ends, HAL.out.dangs, HAL.out.dangs, HAL.out.zone] at HZN
      clear hok
      go_wp2_with fail
      refine HZN.out.mono ?_
      rintro e w3 ⟨B1, e1, B2, e2, rfl, _, _, hr1, hr2, hb⟩
      have HS3 := Lib.hid (HS2.out.below hb)
      obtain ⟨c0, c1, c2, c3, c4⟩ := HS3.out.cells
      have HR1 := Lib.hid hr1; have HR2 := Lib.hid hr2
      have HFT := Lib.hid (fault_c (pc := pc) (sc := sc) (HV.out.below HS3.out.1) (by unfold maxLen; omega) (by unfold maxLen; omega))
      rw [herr] at HFT
      clear hb hr1 hr2 HZN HS2
      go_wp2_with fail
      refine HFT.out.mono ?_
      rintro e w4 ⟨rfl, hb⟩
      have HS4 := Lib.hid (HS3.out.below hb)
      have HR3 := Lib.hid (HR1.out.below hb); have HR4 := Lib.hid (HR2.out.below hb)
      clear hb HFT c0 c1 c2 c3 c4 HS3 HR1 HR2
      obtain ⟨dl, hdl⟩ : ∃ dl, dl = dangs v (endsT v false) := ⟨_, rfl⟩
      obtain ⟨dh, hdh⟩ : ∃ dh, dh = dangs v (endsT v true) := ⟨_, rfl⟩
      have HDE := Lib.hid (And.intro hdl hdh)
      rw [← hdl, ← hdh] at HR3 HR4
      have hlen : dh.length = dl.length := by rw [hdl, hdh, dangs_len, dangs_len]
      have HLN := Lib.hid hlen
      clear hdl hdh hlen
      have hs44 : SW w4 w.heap.size (vA PA pn pc SA sn sc v) w4 := ⟨Below.refl _ _, HS4.out.2⟩
      have HS44 := Lib.hid hs44
      have HVW := Lib.hid (fun W (hW : SW w4 w.heap.size (vA PA pn pc SA sn sc v) W) => HV.out.below (below_tr HS4.out.1 hW.1))
      have HEN := Lib.hid (fun hi W (hW : SW w4 w.heap.size (vA PA pn pc SA sn sc v) W) => Ends_c hi (pc := pc) (sc := sc) (HVW.out W hW) (by omega))
      have HDA := Lib.hid (fun hi W TA tc (hT : Rd enc1 1 W TA sn (endsT v hi)) (hW : SW w4 w.heap.size (vA PA pn pc SA sn sc v) W) => dangersL_c (pc := pc) (sc := sc) (tc := tc) HOK.out (endsT_fits HOK.out hi) (HVW.out W hW) hT)
      clear hs44
      have hc4 := HS44.out.cells
      go_upto_region 7 with fail
      go_cut [7, 8] (fun a b wx => ∃ A3 c3 A4 c4, a = .slice A3 pn c3 ∧ b = .slice A4 pn c4 ∧ Rd enc1 1 wx A3 pn dl ∧ Rd enc1 1 wx A4 pn (dl.map (zoneOf v)) ∧ SW w4 w.heap.size (vA PA pn pc SA sn sc v) wx)
      case first =>
        go_region_held3 (fun w' => w'.cell? ⟨w.heap.size, 0, none⟩ = some (.slice PA pn pc) ∧ w'.cell? ⟨w.heap.size, 1, none⟩ = some (.slice SA sn sc) ∧ w'.cell? ⟨w.heap.size, 2, none⟩ = some (.int .i64 v.s0) ∧ w'.cell? ⟨w.heap.size, 3, none⟩ = some (.int .i64 v.s1) ∧ w'.cell? ⟨w.heap.size, 4, none⟩ = some (.int .i64 v.s2))
          (first | exact HS44.out.drew.cells | exact HS44.out.cells | exact hs5.cells | assumption)
          (first
            | (go_at_call 23; with_reducible refine (HEN.out false _ (by first | exact HS44.out.drew | exact HS44.out)).mono ?_; rintro e w5 ⟨TA, tc, rfl, hT, hb5⟩; have hs5 := HS44.out.drew.below hb5)
            | (go_at_call 22; with_reducible refine (HDA.out false _ _ _ hT hs5).mono ?_; rintro e w6 ⟨A3, c3, A4, c4, rfl, hr3, hr4, hb6⟩; replace hs5 := hs5.below hb6))
        all_goals
          rw [← HDE.out.1] at hr3 hr4
          have HR5 := Lib.hid (And.intro hr3 (And.intro hr4 hs5))
          clear hr3 hr4 hs5 hb5 hb6
          go_wp2_with fail
          go_meet
          exact ⟨A3, c3, A4, c4, rfl, rfl, HR5.out⟩
      case rest =>
        obtain ⟨A3, c3, A4, c4, rfl, rfl, hr3, hr4, hs5⟩ := hcut
        have HR5 := Lib.hid hr3; have HR6 := Lib.hid hr4; have HS5 := Lib.hid hs5
        have HS55 := Lib.hid (show SW wc w.heap.size (vA PA pn pc SA sn sc v) wc from ⟨Below.refl _ _, hs5.2⟩)
        have HR3' := Lib.hid (HR3.out.below hs5.1)
        have HR4' := Lib.hid (HR4.out.below hs5.1)
        have HBW := Lib.hid (below_tr HS4.out.1 hs5.1)
        have HV5 := Lib.hid (HV.out.below HBW.out)
        clear hr3 hr4 hs5 hc4 HDA HEN HVW HR3 HR4 HS44 HS4
        have HEN := Lib.hid (fun hi W (hW : SW wc w.heap.size (vA PA pn pc SA sn sc v) W) => Ends_c hi (pc := pc) (sc := sc) (HV5.out.below hW.1) (by omega))
        have HDA := Lib.hid (fun hi W TA tc (hT : Rd enc1 1 W TA sn (endsT v hi)) (hW : SW wc w.heap.size (vA PA pn pc SA sn sc v) W) => dangersL_c (pc := pc) (sc := sc) (tc := tc) HOK.out (endsT_fits HOK.out hi) (HV5.out.below hW.1) hT)
        have hc5 := HS55.out.cells
        go_upto_region 8 with fail
        go_cut [9, 10] (fun a b wx => ∃ A5 c5 A6 c6, a = .slice A5 pn c5 ∧ b = .slice A6 pn c6 ∧ Rd enc1 1 wx A5 pn dh ∧ Rd enc1 1 wx A6 pn (dh.map (zoneOf v)) ∧ SW wc w.heap.size (vA PA pn pc SA sn sc v) wx)
        case first =>
          go_region_held3 (fun w' => w'.cell? ⟨w.heap.size, 0, none⟩ = some (.slice PA pn pc) ∧ w'.cell? ⟨w.heap.size, 1, none⟩ = some (.slice SA sn sc) ∧ w'.cell? ⟨w.heap.size, 2, none⟩ = some (.int .i64 v.s0) ∧ w'.cell? ⟨w.heap.size, 3, none⟩ = some (.int .i64 v.s1) ∧ w'.cell? ⟨w.heap.size, 4, none⟩ = some (.int .i64 v.s2))
            (first | exact HS55.out.drew.cells | exact HS55.out.cells | exact hs5.cells | assumption)
            (first
              | (go_at_call 23; with_reducible refine (HEN.out true _ (by first | exact HS55.out.drew | exact HS55.out)).mono ?_; rintro e w5 ⟨TA, tc, rfl, hT, hb5⟩; have hs5 := HS55.out.drew.below hb5)
              | (go_at_call 22; with_reducible refine (HDA.out true _ _ _ hT hs5).mono ?_; rintro e w6 ⟨A5, c5, A6, c6, rfl, hr3, hr4, hb6⟩; replace hs5 := hs5.below hb6))
          all_goals
            rw [← HDE.out.2] at hr3 hr4
            have HR8 := Lib.hid (And.intro hr3 (And.intro hr4 hs5))
            clear hr3 hr4 hs5 hb5 hb6
            go_wp2_with fail
            go_meet
            exact ⟨A5, c5, A6, c6, rfl, rfl, HR8.out⟩
        case rest =>
          obtain ⟨A5, c5, A6, c6, rfl, rfl, hr7, hr8, hs6⟩ := hcut
          have HBX := Lib.hid (below_tr HBW.out hs6.1)
          have HRA := Lib.hid (rangesL_c (c := e1) (c1 := c3) (c2 := c5) (HR3'.out.below hs6.1) (HR5.out.below hs6.1) hr7 (by omega))
          rw [rng_zip HLN.out] at HRA
          have HRB := Lib.hid (fun W (hW : Below wc.heap.size wc W) => rangesL_c (c := e2) (c1 := c4) (c2 := c6) ((HR4'.out.below hs6.1).below hW) ((HR6.out.below hs6.1).below hW) (hr8.below hW) (by omega))
          rw [rng_zip (by rw [List.length_map, List.length_map]; exact HLN.out)] at HRB
          clear hc5 hr7 hr8 hs6 HDA HEN
          go_wp2_with fail
          refine HRA.out.mono ?_
          rintro e wa ⟨rfl, hba⟩
          go_wp2_with fail
          refine (HRB.out _ hba).mono ?_
          rintro e wb ⟨rfl, hbb⟩
          have HBY := Lib.hid (below_tr HBX.out (below_tr hba hbb))
          clear hba hbb HRA HRB
          go_wp2_with (go_at_call 18; refine (wakes_ok _).mono ?_; rintro e wd ⟨rfl, hbd⟩)
          go_ret
          exact ⟨rfl, below_tr HBY.out hbd⟩
    · have HBD := Lib.hid (Zones_bad (pc := d1) (sc := d2) HV2.out (by unfold maxLen; omega) (by unfold maxLen; omega) (by rw [HAL.out.err]; exact herr))
      rw [HAL.out.err] at HBD
      obtain ⟨E, hE⟩ : ∃ E, E = errV v := ⟨_, rfl⟩
      rw [← hE] at HBD
      have HE := Lib.hid hE
      have hE0 : (E == 0) = false := by rw [beq_eq_false_iff_ne, hE]; exact herr
      have hE1 : (E == E) = true := by simp
      clear herr hE
      go_wp2_with fail
      refine HBD.out.mono ?_
      rintro e w3 ⟨rfl, hb⟩
      have HS3 := Lib.hid (HS2.out.below hb)
      obtain ⟨c0, c1, c2, c3, c4⟩ := HS3.out.cells
      have HFT := Lib.hid (fault_c (pc := pc) (sc := sc) (HV.out.below HS3.out.1) (by unfold maxLen; omega) (by unfold maxLen; omega))
      rw [← HE.out] at HFT
      clear hb HBD HS2
      go_wp2_with fail
      refine HFT.out.mono ?_
      rintro e w4 ⟨rfl, hb⟩
      have HB4 := Lib.hid (below_tr HS3.out.1 hb)
      clear hb HFT
      go_wp2_with (go_at_call 18; refine (wakes_ok _).mono ?_; rintro e w5 ⟨rfl, hb5⟩)
      go_ret
      exact ⟨rfl, below_tr HB4.out hb5⟩
end Go.Proofs.Ytphdndiikikecaa
