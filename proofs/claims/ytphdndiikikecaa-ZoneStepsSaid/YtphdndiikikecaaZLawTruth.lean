/- THE WALK of ZoneTruth. -/
import Derived.Test.YtphdndiikikecaaZLawDang
import Derived.Test.YtphdndiikikecaaZPicked
import Derived.Test.YtphdndiikikecaaZMono
namespace Go.Proofs.Ytphdndiikikecaa
open Go.RowKit Go.Proofs
attribute [local go_sem ↓] Go.wp_at_zero Go.wp_at_succ

theorem DangerA_c {v v' : Vly} {tr : List Int} {PA SA TA : Option Addr} {pn pc sn sc tn tc : Nat} {w : World} (hok : VOk v) (hal : VAlike v v') (h : RdV w PA pn SA sn v') (hT : Rd enc1 1 w TA tn tr) (hf : Fits v tr) :
    Calls Try.prog 41 #[.agg #[.slice PA pn pc, .slice SA sn sc, .int .i64 v'.s0, .int .i64 v'.s1, .int .i64 v'.s2], .slice TA tn tc] w
      fun e w' => ∃ A1 c1 A2 c2, e = .returned (.tuple #[.slice A1 pn c1, .slice A2 pn c2, .int .i64 0]) ∧ Rd enc1 1 w' A1 pn (dangs v tr) ∧ Rd enc1 1 w' A2 pn ((dangs v tr).map (zoneOf v)) ∧ Below w.heap.size w w' := by
  have := DangerZ_c (pc := pc) (sc := sc) (tc := tc) h (hal.ok hok) hT (hal.fits hf)
  rw [hal.dangs, hal.zone] at this
  exact this
theorem ZonesA_c {v v' : Vly} {PA SA : Option Addr} {pn pc sn sc : Nat} {w : World} (hok : VOk v) (hal : VAlike v v') (h : RdV w PA pn SA sn v') :
    Calls Try.prog 19 #[.agg #[.slice PA pn pc, .slice SA sn sc, .int .i64 v'.s0, .int .i64 v'.s1, .int .i64 v'.s2]] w
      fun e w' => ∃ A1 c1 A2 c2, e = .returned (.tuple #[.slice A1 pn c1, .slice A2 pn c2, .int .i64 0]) ∧ Rd enc2 2 w' A1 pn ((dangs v (endsT v false)).zip (dangs v (endsT v true))) ∧
        Rd enc2 2 w' A2 pn (((dangs v (endsT v false)).map (zoneOf v)).zip ((dangs v (endsT v true)).map (zoneOf v))) ∧ Below w.heap.size w w' := by
  have := Zones_c (pc := pc) (sc := sc) h (hal.ok hok)
  rw [hal.ends, hal.ends, hal.dangs, hal.dangs, hal.zone] at this
  refine this.mono ?_
  rintro e w' ⟨A1, c1, A2, c2, rfl, _, _, h1, h2, hb⟩
  exact ⟨A1, c1, A2, c2, rfl, h1, h2, hb⟩

/-- what a world keeps of a truth's dangers and zones -/
def DZ (v : Vly) (pn : Nat) (tr : List Int) (a b : Value) (W : World) : Prop := ∃ A c B d, a = .slice A pn c ∧ b = .slice B pn d ∧ Rd enc1 1 W A pn (dangs v tr) ∧ Rd enc1 1 W B pn ((dangs v tr).map (zoneOf v))
theorem DZ.below {v : Vly} {pn : Nat} {tr : List Int} {a b : Value} {W W' : World} (h : DZ v pn tr a b W) (hb : Below W.heap.size W W') : DZ v pn tr a b W' := by
  obtain ⟨A, c, B, d, rfl, rfl, h1, h2⟩ := h
  exact ⟨A, c, B, d, rfl, rfl, h1.below hb, h2.below hb⟩
/-- what holds of each parcel in a truth -/
theorem truth_at {v : Vly} (hok : VOk v) {tr : List Int} (hf : Fits v tr) {i : Nat} (hi : i < v.pars.length) : ∃ d lo hi : Int,
    (dangs v tr)[i]? = some d ∧ ((dangs v tr).map (zoneOf v))[i]? = some (zoneOf v d) ∧ ((dangs v (endsT v false)).zip (dangs v (endsT v true)))[i]? = some (lo, hi) ∧
    (((dangs v (endsT v false)).map (zoneOf v)).zip ((dangs v (endsT v true)).map (zoneOf v)))[i]? = some (zoneOf v lo, zoneOf v hi) ∧
    (lo ≤ d ∧ d ≤ hi) ∧ (zoneOf v lo ≤ zoneOf v d ∧ zoneOf v d ≤ zoneOf v hi) ∧ 0 ≤ zoneOf v lo ∧ zoneOf v hi ≤ 3 := by
  have h1 := dangs_get (v := v) (tr := tr) hi
  have h2 := dangs_get (v := v) (tr := endsT v false) hi
  have h3 := dangs_get (v := v) (tr := endsT v true) hi
  have hb := truth_dang hok hf (i : Int) v.sls.length
  refine ⟨_, _, _, h1, by rw [List.getElem?_map, h1]; rfl, List.getElem?_zip_eq_some.2 ⟨h2, h3⟩, List.getElem?_zip_eq_some.2 ⟨by rw [List.getElem?_map, h2]; rfl, by rw [List.getElem?_map, h3]; rfl⟩, hb, ⟨zoneOf_mono hb.1, zoneOf_mono hb.2⟩, (zoneOf_bd v _).1, (zoneOf_bd v _).2⟩

set_option maxRecDepth 100000 in
set_option maxHeartbeats 4000000 in
theorem ZoneTruth_w {v : Vly} {ws : List UInt8} {PA SA WA : Option Addr} {pn pc sn sc wn wc : Nat} {w : World} (h : RdV w PA pn SA sn v) (hpn : pn ≤ maxLen) (hsn : sn ≤ maxLen) (hW : Rd encB 1 w WA wn ws) (hwn : wn ≤ maxLen) :
    Calls Try.prog 11 #[.agg #[.slice PA pn pc, .slice SA sn sc, .int .i64 v.s0, .int .i64 v.s1, .int .i64 v.s2], .slice WA wn wc] w fun e w' => e = .returned (.bool true) ∧ Below w.heap.size w w' := by
  have hlp := h.pars.len; have hls := h.sls.len
  have HS0 := Lib.hid (SW.new w (vA PA pn pc SA sn sc v))
  have HRY := Lib.hid (ready_c (pc := pc) (sc := sc) (h.below HS0.out.bel) hpn hsn)
  have HV := Lib.hid h; have HW := Lib.hid hW
  cases hr : readyB v
  · rw [hr] at HRY
    clear h hr hW
    go_enter Try.func11, Try.ntmps11
    go_wp2_with fail
    refine HRY.out.mono ?_
    rintro e w1 ⟨rfl, hb⟩
    have HB1 := Lib.hid (below_tr HS0.out.bel hb)
    clear hb
    go_wp2_with (go_at_call 18; refine (wakes_ok _).mono ?_; rintro e w2 ⟨rfl, hb2⟩)
    go_ret
    exact ⟨rfl, below_tr HB1.out hb2⟩
  · rw [hr] at HRY
    obtain ⟨hth, hok⟩ := readyB_iff.1 hr
    have ht := thinB_iff.1 hth
    have hpn12 : pn ≤ 12 := by have := hok.pn; omega
    have hsn10 : sn ≤ 10 := by have := hok.sn; omega
    have HWY := Lib.hid (fun (s : Sli) (hs : s ∈ v.sls) => show s.way.length ≤ 1000 from by have := ht.1 s hs; omega)
    have HOK := Lib.hid hok
    have HLP := Lib.hid hlp
    have HVW := Lib.hid (fun W (hW : Below w.heap.size w W) => Valley_c (pc := pc) (sc := sc) (HV.out.below hW) (by omega) (by omega) HWY.out)
    have HPK := Lib.hid (fun W (hW : Below w.heap.size w W) => Picked_c (pc := pc) (sc := sc) (wc := wc) HOK.out (HV.out.below hW) (HW.out.below hW) hwn)
    have HEN := Lib.hid (fun hi W (hW : Below w.heap.size w W) => Ends_c hi (pc := pc) (sc := sc) (HV.out.below hW) (by omega))
    clear h hr hW hth hok ht
    go_enter Try.func11, Try.ntmps11
    go_wp2_with fail
    refine HRY.out.mono ?_
    rintro e w1 ⟨rfl, hb⟩
    have HS1 := Lib.hid (HS0.out.below hb)
    obtain ⟨c0, c1, c2, c3, c4⟩ := HS1.out.cells
    have HVL := Lib.hid (HVW.out _ HS1.out.bel)
    clear hb HRY HS0
    go_wp2_with fail
    refine HVL.out.mono ?_
    rintro e w2 ⟨A1, d1, A2, d2, v', rfl, hv', hal, hb⟩
    have HS2 := Lib.hid (HS1.out.below hb)
    have HZN := Lib.hid (ZonesA_c (pc := d1) (sc := d2) HOK.out hal hv')
    clear c0 c1 c2 c3 c4 hb hal hv' HVL HS1
    go_wp2_with fail
    refine HZN.out.mono ?_
    rintro e w3 ⟨B1, e1, B2, e2, rfl, hr1, hr2, hb⟩
    have HS3 := Lib.hid (HS2.out.below hb)
    have HR1 := Lib.hid hr1; have HR2 := Lib.hid hr2
    clear hb hr1 hr2 HZN HS2
    obtain ⟨c0, c1, c2, c3, c4⟩ := HS3.out.cells
    go_upto_region 4 with fail
    go_cut [8, 9, 10] (fun a b c wx => c = .int .i64 0 ∧ (∃ tr, Fits v tr ∧ DZ v pn tr a b wx) ∧ Below w3.heap.size w3 wx ∧ SW w w.heap.size (vA PA pn pc SA sn sc v) wx)
    case first =>
      go_region_held3 (fun w' => w'.cell? ⟨w.heap.size, 0, none⟩ = some (.slice PA pn pc) ∧ w'.cell? ⟨w.heap.size, 1, none⟩ = some (.slice SA sn sc) ∧ w'.cell? ⟨w.heap.size, 2, none⟩ = some (.int .i64 v.s0) ∧ w'.cell? ⟨w.heap.size, 3, none⟩ = some (.int .i64 v.s1) ∧ w'.cell? ⟨w.heap.size, 4, none⟩ = some (.int .i64 v.s2))
        (first | exact HS3.out.drew.cells | exact HS3.out.cells | exact hs5.1.cells | assumption)
        (first
          | (go_at_call 20; with_reducible refine (HVW.out _ (by first | exact hs5.1.bel | exact HS3.out.drew.bel | exact HS3.out.bel)).mono ?_; rintro e w5 ⟨A3, d3, A4, d4, v'', rfl, rv, hal, hb5⟩; (try replace rp := rp.below hb5); (first | replace hs5 := And.intro (hs5.1.below hb5) (below_tr hs5.2 hb5) | have hs5 := And.intro (HS3.out.drew.below hb5) (below_tr (Below.refl _ w3).drew hb5)))
          | (go_at_call 43; with_reducible refine (HPK.out _ (by first | exact hs5.1.bel | exact HS3.out.drew.bel | exact HS3.out.bel)).mono ?_; rintro e w5 ⟨tr, TA, tc, rfl, rp, hfp, hb5⟩; (try replace rv := rv.below hb5); (first | replace hs5 := And.intro (hs5.1.below hb5) (below_tr hs5.2 hb5) | have hs5 := And.intro (HS3.out.drew.below hb5) (below_tr (Below.refl _ w3).drew hb5)))
          | (go_at_call 41; with_reducible refine (DangerA_c HOK.out hal rv rp hfp).mono ?_; rintro e w6 ⟨A5, c5, A6, c6, rfl, hr3, hr4, hb6⟩; replace hs5 := And.intro (hs5.1.below hb6) (below_tr hs5.2 hb6)))
      all_goals
        go_wp2_with fail
        go_meet
        exact ⟨rfl, ⟨tr, hfp, A5, c5, A6, c6, rfl, rfl, hr3, hr4⟩, hs5.2, hs5.1⟩
    case rest =>
      obtain ⟨rfl, ⟨tr, hft, hdz⟩, hb, hsw⟩ := hcut
      obtain ⟨W4, hW4⟩ : ∃ W4, W4 = wc := ⟨_, rfl⟩
      rw [← hW4] at hdz hb hsw ⊢
      clear hW4
      have HFT := Lib.hid hft; have HD4 := Lib.hid hdz; have HS4 := Lib.hid hsw
      have HR3 := Lib.hid (HR1.out.below hb); have HR4 := Lib.hid (HR2.out.below hb)
      clear hft hdz hsw hb HS3 c0 c1 c2 c3 c4
      obtain ⟨c0, c1, c2, c3, c4⟩ := HS4.out.cells
      go_upto_region 5 with fail
      go_cut [11, 12, 13] (fun a b c wx => c = .int .i64 0 ∧ DZ v pn (endsT v false) a b wx ∧ Below W4.heap.size W4 wx ∧ SW w w.heap.size (vA PA pn pc SA sn sc v) wx)
      case first =>
        go_region_held3 (fun w' => w'.cell? ⟨w.heap.size, 0, none⟩ = some (.slice PA pn pc) ∧ w'.cell? ⟨w.heap.size, 1, none⟩ = some (.slice SA sn sc) ∧ w'.cell? ⟨w.heap.size, 2, none⟩ = some (.int .i64 v.s0) ∧ w'.cell? ⟨w.heap.size, 3, none⟩ = some (.int .i64 v.s1) ∧ w'.cell? ⟨w.heap.size, 4, none⟩ = some (.int .i64 v.s2))
          (first | exact HS4.out.drew.cells | exact HS4.out.cells | exact hs5.1.cells | assumption)
          (first
            | (go_at_call 20; with_reducible refine (HVW.out _ (by first | exact hs5.1.bel | exact HS4.out.drew.bel | exact HS4.out.bel)).mono ?_; rintro e w5 ⟨A3, d3, A4, d4, v'', rfl, rv, hal, hb5⟩; (try replace rp := rp.below hb5); (first | replace hs5 := And.intro (hs5.1.below hb5) (below_tr hs5.2 hb5) | have hs5 := And.intro (HS4.out.drew.below hb5) (below_tr (Below.refl _ W4).drew hb5)))
            | (go_at_call 23; with_reducible refine (HEN.out false _ (by first | exact hs5.1.bel | exact HS4.out.drew.bel | exact HS4.out.bel)).mono ?_; rintro e w5 ⟨TA, tc, rfl, rp, hb5⟩; (try replace rv := rv.below hb5); (first | replace hs5 := And.intro (hs5.1.below hb5) (below_tr hs5.2 hb5) | have hs5 := And.intro (HS4.out.drew.below hb5) (below_tr (Below.refl _ W4).drew hb5)))
            | (go_at_call 41; with_reducible refine (DangerA_c HOK.out hal rv rp (endsT_fits HOK.out false)).mono ?_; rintro e w6 ⟨A5, c5, A6, c6, rfl, hr3, hr4, hb6⟩; replace hs5 := And.intro (hs5.1.below hb6) (below_tr hs5.2 hb6)))
        all_goals
          go_wp2_with fail
          go_meet
          exact ⟨rfl, ⟨A5, c5, A6, c6, rfl, rfl, hr3, hr4⟩, hs5.2, hs5.1⟩
      case rest =>
        obtain ⟨rfl, hdz, hb, hsw⟩ := hcut
        obtain ⟨W5, hW5⟩ : ∃ W5, W5 = wc := ⟨_, rfl⟩
        rw [← hW5] at hdz hb hsw ⊢
        clear hW5
        have HD5 := Lib.hid (HD4.out.below hb); have HL5 := Lib.hid hdz; have HS5 := Lib.hid hsw
        have HR5 := Lib.hid (HR3.out.below hb); have HR6 := Lib.hid (HR4.out.below hb)
        clear hdz hsw hb HS4 HR3 HR4 HD4 c0 c1 c2 c3 c4
        obtain ⟨c0, c1, c2, c3, c4⟩ := HS5.out.cells
        go_upto_region 6 with fail
        go_cut [14, 15, 16] (fun a b c wx => c = .int .i64 0 ∧ DZ v pn (endsT v true) a b wx ∧ Below W5.heap.size W5 wx ∧ SW w w.heap.size (vA PA pn pc SA sn sc v) wx)
        case first =>
          go_region_held3 (fun w' => w'.cell? ⟨w.heap.size, 0, none⟩ = some (.slice PA pn pc) ∧ w'.cell? ⟨w.heap.size, 1, none⟩ = some (.slice SA sn sc) ∧ w'.cell? ⟨w.heap.size, 2, none⟩ = some (.int .i64 v.s0) ∧ w'.cell? ⟨w.heap.size, 3, none⟩ = some (.int .i64 v.s1) ∧ w'.cell? ⟨w.heap.size, 4, none⟩ = some (.int .i64 v.s2))
            (first | exact HS5.out.drew.cells | exact HS5.out.cells | exact hs5.1.cells | assumption)
            (first
              | (go_at_call 20; with_reducible refine (HVW.out _ (by first | exact hs5.1.bel | exact HS5.out.drew.bel | exact HS5.out.bel)).mono ?_; rintro e w5 ⟨A3, d3, A4, d4, v'', rfl, rv, hal, hb5⟩; (try replace rp := rp.below hb5); (first | replace hs5 := And.intro (hs5.1.below hb5) (below_tr hs5.2 hb5) | have hs5 := And.intro (HS5.out.drew.below hb5) (below_tr (Below.refl _ W5).drew hb5)))
              | (go_at_call 23; with_reducible refine (HEN.out true _ (by first | exact hs5.1.bel | exact HS5.out.drew.bel | exact HS5.out.bel)).mono ?_; rintro e w5 ⟨TA, tc, rfl, rp, hb5⟩; (try replace rv := rv.below hb5); (first | replace hs5 := And.intro (hs5.1.below hb5) (below_tr hs5.2 hb5) | have hs5 := And.intro (HS5.out.drew.below hb5) (below_tr (Below.refl _ W5).drew hb5)))
              | (go_at_call 41; with_reducible refine (DangerA_c HOK.out hal rv rp (endsT_fits HOK.out true)).mono ?_; rintro e w6 ⟨A5, c5, A6, c6, rfl, hr3, hr4, hb6⟩; replace hs5 := And.intro (hs5.1.below hb6) (below_tr hs5.2 hb6)))
          all_goals
            go_wp2_with fail
            go_meet
            exact ⟨rfl, ⟨A5, c5, A6, c6, rfl, rfl, hr3, hr4⟩, hs5.2, hs5.1⟩
        case rest =>
          obtain ⟨rfl, hdz, hb, hsw⟩ := hcut
          obtain ⟨W6, hW6⟩ : ∃ W6, W6 = wc := ⟨_, rfl⟩
          rw [← hW6] at hdz hb hsw ⊢
          clear hW6
          obtain ⟨X1, x1, X2, x2, rfl, rfl, hd1, hd2⟩ := HD5.out.below hb
          obtain ⟨X3, x3, X4, x4, rfl, rfl, hl1, hl2⟩ := HL5.out.below hb
          obtain ⟨X5, x5, X6, x6, rfl, rfl, hh1, hh2⟩ := hdz
          have HS6 := Lib.hid hsw
          have HR7 := Lib.hid (HR5.out.below hb); have HR8 := Lib.hid (HR6.out.below hb)
          have HD1 := Lib.hid hd1; have HD2 := Lib.hid hd2
          have HLN := Lib.hid (show (dangs v (endsT v true)).length = (dangs v (endsT v false)).length by rw [dangs_len, dangs_len])
          have HRA := Lib.hid (rangesL_c (c := e1) (c1 := x3) (c2 := x5) HR7.out hl1 hh1 (by omega))
          rw [rng_zip HLN.out] at HRA
          have HRB := Lib.hid (fun W (hW : Below W6.heap.size W6 W) => rangesL_c (c := e2) (c1 := x4) (c2 := x6) (HR8.out.below hW) (hl2.below hW) (hh2.below hW) (by omega))
          rw [rng_zip (by rw [List.length_map, List.length_map]; exact HLN.out)] at HRB
          clear hsw hb HS5 HR5 HR6 HD5 HL5 hd1 hd2 hl1 hl2 hh1 hh2 c0 c1 c2 c3 c4
          obtain ⟨c0, c1, c2, c3, c4⟩ := HS6.out.cells
          go_wp2_with fail
          refine HRA.out.mono ?_
          rintro e wa ⟨rfl, hba⟩
          go_wp2_with fail
          refine (HRB.out _ hba).mono ?_
          rintro e wb ⟨rfl, hbb⟩
          have HBY := Lib.hid (below_tr hba hbb)
          clear hba hbb HRA HRB
          go_wp2_with fail
          go_loopw [18] (fun i wr => ∃ k : Nat, k ≤ pn ∧ i = .int .i64 k ∧ Below W6.heap.size W6 wr) (fun i _ => pn - (intOf i).toNat)
          case atStart => exact ⟨0, Nat.zero_le _, rfl, HBY.out⟩
          case round =>
            obtain ⟨k, hk, rfl, hb⟩ := hrel
            have HB := Lib.hid hb
            by_cases hlt : k < pn
            · obtain ⟨d, lo, hi, t1, t2, t3, t4, t5, t6, t7, t8⟩ := truth_at HOK.out HFT.out (i := k) (by have := HLP.out; omega)
              obtain ⟨b1, o1, y1, hA1, hl1, hy1, a1⟩ := (HD1.out.below hb).at1 hlt
              obtain ⟨b2, o2, y2, hA2, hl2, hy2, a2⟩ := (HD2.out.below hb).at1 hlt
              obtain ⟨b3, o3, y3, hA3, hl3, hy3, a3, a3'⟩ := (HR7.out.below hb).at2 hlt
              obtain ⟨b4, o4, y4, hA4, hl4, hy4, a4, a4'⟩ := (HR8.out.below hb).at2 hlt
              subst hA1 hA2 hA3 hA4
              rw [t1] at hy1; cases hy1
              rw [t2] at hy2; cases hy2
              rw [t3] at hy3; cases hy3
              rw [t4] at hy4; cases hy4
              simp only at a3 a3' a4 a4'
              clear t1 t2 t3 t4 hb
              generalize zoneOf v d = zd at a2 t6
              generalize zoneOf v lo = zl at a4 t6 t7
              generalize zoneOf v hi = zh at a4' t6 t8
              have n1 : decide (d < lo) = false := decide_eq_false (by omega)
              have n2 : decide (hi < d) = false := decide_eq_false (by omega)
              have n3 : decide (zd < zl) = false := decide_eq_false (by omega)
              have n4 : decide (zh < zd) = false := decide_eq_false (by omega)
              have n5 : decide (zl < 0) = false := decide_eq_false (by omega)
              have n6 : decide (3 < zh) = false := decide_eq_false (by omega)
              have hkn : (k : Int) < (pn : Int) := by omega
              have hk0 : (0 : Int) ≤ (k : Int) := by omega
              go_wp2_with fail
              go_quiet (fail)
              go_wp2_with fail
              go_roundw
              case rel => exact ⟨k + 1, by omega, by go_num, below_drewN HB.out _⟩
              case measure => simp [intOf] <;> omega
            · obtain rfl : k = pn := by omega
              clear hb
              have HBE := Lib.hid (below_tr HS6.out.bel HB.out)
              go_wp2_with (go_at_call 18; refine (wakes_ok _).mono ?_; rintro e w9 ⟨rfl, hb9⟩)
              go_ret
              exact ⟨rfl, below_tr HBE.out hb9⟩
end Go.Proofs.Ytphdndiikikecaa
