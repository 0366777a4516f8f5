/- THE CONTRACT of the reference's Fault, and of the law's fault. -/
import Derived.Test.YtphdndiikikecaaZFaultE
import Derived.BigQuiet
set_option linter.unusedVariables false
set_option linter.unusedSimpArgs false
namespace Go.Proofs.Ytphdndiikikecaa
open Go.RowKit Go.Proofs
attribute [local go_sem ↓] Go.wp_at_zero Go.wp_at_succ

set_option maxRecDepth 100000 in
set_option maxHeartbeats 2000000 in
theorem Fault_main {v : Vly} {PA SA : Option Addr} {pn pc sn sc : Nat} {w : World} (h : RdV w PA pn SA sn v) (hpn : pn ≤ maxLen) (hsn : sn ≤ maxLen) (h10 : ¬ 10 < sn) (hin : inB (pn : Int) 1 12 = true) (hst : stepsOk v.s0 v.s1 v.s2 = true) :
    Calls Try.prog 34 #[.agg #[.slice PA pn pc, .slice SA sn sc, .int .i64 v.s0, .int .i64 v.s1, .int .i64 v.s2]] w fun e w' => e = .returned (.int .i64 (errV v)) ∧ Below w.heap.size w w' := by
  have hlp := h.pars.len; have hls := h.sls.len
  have HV := Lib.hid h
  unfold maxLen at hsn hpn
  obtain ⟨R, hR⟩ : ∃ R, R = errV v := ⟨_, rfl⟩
  rw [← hR]
  have HR := Lib.hid hR
  have hb0 : Below w.heap.size w (w.alloc (.cells (vA PA pn pc SA sn sc v) 26)) := (Below.refl _ w).alloc (Nat.le_refl _) _
  have HB := Lib.hid hb0
  have HX := Lib.hid (Blk.new w 26 (vA PA pn pc SA sn sc v))
  clear h hR hb0
  have h10' : ¬ (10 : Int) < (sn : Int) := by omega
  have hsl : v.sls.length ≤ 10 := by omega
  have HIN := Lib.hid (fun W => In_c (pn : Int) 1 12 W)
  rw [hin] at HIN
  have hpn12 := inB_iff.1 hin
  have hsteps := stepsOk_iff.1 hst
  have k1 : ¬ v.s0 < 1 := by omega
  have k2 : ¬ v.s1 ≤ v.s0 := by omega
  have k3 : ¬ v.s2 ≤ v.s1 := by omega
  have k4 : ¬ 10000 < v.s2 := by omega
  have HFP := Lib.hid (fun (i : Nat) (p : Par) (hp : v.pars[i]? = some p) (hb : parOk p = false) => errV_par hsl hp hb)
  have HFS := Lib.hid (fun (i : Nat) (p : Sli) (hp : v.sls[i]? = some p) (hb : sliOk v.pars.length p = false) => errV_sli hsl hp hb)
  have HF0 := Lib.hid (fun h2 h3 => errV_nil (v := v) hsl (by rw [hlp]; exact hin) h2 h3 hst)
  clear hin hst
  go_enter Try.func34, Try.ntmps34
  go_wp2_with (go_at_call 26; refine (HIN.out _).mono ?_; rintro e w' ⟨rfl, rfl⟩)
  go_loopw [4] (fun i wr => ∃ k : Nat, k ≤ pn ∧ i = .int .i64 k ∧ (∀ (j : Nat) (p : Par), j < k → v.pars[j]? = some p → parOk p = true) ∧ Blk wr w.heap.size 26 (vA PA pn pc SA sn sc v) ∧ Below w.heap.size w wr) (fun i _ => pn - (intOf i).toNat)
  case atStart => exact ⟨0, Nat.zero_le _, rfl, fun j p hj => absurd hj (by omega), HX.out, HB.out⟩
  case round =>
    obtain ⟨k, hk, rfl, hall, hbx, hb⟩ := hrel
    have HA := Lib.hid hall; have HBX := Lib.hid hbx; have HB2 := Lib.hid hb
    clear hall
    by_cases hlt : k < pn
    · obtain ⟨b, o, x, hA, hblt, hx, p0, p1, p2, p3⟩ := ((HV.out.below hb).pars).atP hlt
      subst hA
      have hkn : (k : Int) < (pn : Int) := by omega
      have hk0 : (0 : Int) ≤ (k : Int) := by omega
      have c0 := hbx.cell 0
      simp at c0
      have HXX := Lib.hid hx
      have hlx := hbx.lt
      have H1 := Lib.hid (fun W => In_c x.worth 0 100000 W); have H2 := Lib.hid (fun W => In_c x.price 0 100000 W); have H3 := Lib.hid (fun W => In_c x.people 0 1000 W)
      have HB4 := Lib.hid (hb.alloc hb.size (.cells #[.int .i64 x.worth, .int .i64 x.price, .int .i64 x.people, .bool x.ins] 57))
      have HX4 := Lib.hid (hbx.alloc (.cells #[.int .i64 x.worth, .int .i64 x.price, .int .i64 x.people, .bool x.ins] 57))
      have hpo : parOk x = (inB x.worth 0 100000 && inB x.price 0 100000 && inB x.people 0 1000) := rfl
      clear hx hbx hb
      cases e1 : inB x.worth 0 100000
      · have HF := Lib.hid (HFP.out k x HXX.out (by rw [hpo, e1]; rfl))
        rw [e1] at H1
        clear e1 hpo
        go_wp2_with (go_at_call 26; refine (H1.out _).mono ?_; rintro e w' ⟨rfl, rfl⟩)
        go_ret
        exact ⟨ret_int (by rw [HR.out, HF.out]), HB4.out⟩
      · rw [e1] at H1
        cases e2 : inB x.price 0 100000
        · have HF := Lib.hid (HFP.out k x HXX.out (by rw [hpo, e1, e2]; rfl))
          rw [e2] at H2
          clear e1 e2 hpo
          go_wp2_with (go_at_call 26; first | (with_reducible refine (H1.out _).mono ?_; rintro e w' ⟨rfl, rfl⟩) | (with_reducible refine (H2.out _).mono ?_; rintro e w' ⟨rfl, rfl⟩))
          go_ret
          exact ⟨ret_int (by rw [HR.out, HF.out]), HB4.out⟩
        · rw [e2] at H2
          cases e3 : inB x.people 0 1000
          · have HF := Lib.hid (HFP.out k x HXX.out (by rw [hpo, e1, e2, e3]; rfl))
            rw [e3] at H3
            clear e1 e2 e3 hpo
            go_wp2_with (go_at_call 26; first | (with_reducible refine (H1.out _).mono ?_; rintro e w' ⟨rfl, rfl⟩) | (with_reducible refine (H2.out _).mono ?_; rintro e w' ⟨rfl, rfl⟩) | (with_reducible refine (H3.out _).mono ?_; rintro e w' ⟨rfl, rfl⟩))
            go_ret
            exact ⟨ret_int (by rw [HR.out, HF.out]), HB4.out⟩
          · rw [e3] at H3
            have HA2 := Lib.hid (show ∀ (j : Nat) (p : Par), j < k + 1 → v.pars[j]? = some p → parOk p = true from fun j p hj hp => by
              rcases Nat.lt_or_ge j k with h' | h'
              · exact HA.out j p h' hp
              · obtain rfl : j = k := by omega
                rw [HXX.out] at hp; cases hp; rw [hpo, e1, e2, e3]; rfl)
            clear e1 e2 e3 hpo
            go_wp2_with (go_at_call 26; first | (with_reducible refine (H1.out _).mono ?_; rintro e w' ⟨rfl, rfl⟩) | (with_reducible refine (H2.out _).mono ?_; rintro e w' ⟨rfl, rfl⟩) | (with_reducible refine (H3.out _).mono ?_; rintro e w' ⟨rfl, rfl⟩))
            go_roundw
            case rel => exact ⟨k + 1, by omega, by go_num, HA2.out, HX4.out, HB4.out⟩
            case measure => simp [intOf] <;> omega
    · obtain rfl : k = pn := by omega
      have hpars : allB parOk v.pars = true := allB_iff.2 (fun j p hp => HA.out j p (by have := lt_of_get hp; omega) hp)
      have HPA := Lib.hid hpars
      clear hpars HA HFP hbx hb HX HB
      go_wp2_with fail
      go_loopw [6] (fun i w2 => ∃ q : Nat, q ≤ sn ∧ i = .int .i64 q ∧ (∀ (j : Nat) (s : Sli), j < q → v.sls[j]? = some s → sliOk v.pars.length s = true) ∧ Blk w2 w.heap.size 26 (vA PA k pc SA sn sc v) ∧ Below w.heap.size w w2) (fun i _ => sn - (intOf i).toNat)
      case atStart => exact ⟨0, Nat.zero_le _, rfl, fun j p hj => absurd hj (by omega), HBX.out, HB2.out⟩
      case round =>
        obtain ⟨q, hq, rfl, hall, hbx, hb⟩ := hrel
        have HA := Lib.hid hall; have HBX2 := Lib.hid hbx; have HB3 := Lib.hid hb
        have c1 := hbx.cell 1
        simp at c1
        clear hall HBX HB2
        by_cases hlt : q < sn
        · obtain ⟨b, o, x, hA, hblt, hx, h0, h1, h2, h3⟩ := ((HV.out.below hb).sls).atS hlt
          subst hA
          have hqn : (q : Int) < (sn : Int) := by omega
          have hq0 : (0 : Int) ≤ (q : Int) := by omega
          have hway := (HV.out.below hb).way q x hx
          have hwl := hway.1.len
          have hso : sliOk v.pars.length x = (wayOk v.pars.length x.way && (decide (1 ≤ x.way.length) && inB x.rate 1 1000 && upB x.lo x.hi x.way.length)) := rfl
          have HSO := Lib.hid hso
          have HXX := Lib.hid hx
          have hFS := HFS.out q x hx
          rw [hso, hwl] at hFS
          have HFX := Lib.hid hFS
          have HB4 := Lib.hid (hb.alloc hb.size (.cells #[.slice x.A x.n x.c, .int .i64 x.rate, .int .i64 x.lo, .int .i64 x.hi] 62))
          have HX4 := Lib.hid (hbx.alloc (.cells #[.slice x.A x.n x.c, .int .i64 x.rate, .int .i64 x.lo, .int .i64 x.hi] 62))
          have HS4 := Lib.hid (Blk.new wr 62 #[.slice x.A x.n x.c, .int .i64 x.rate, .int .i64 x.lo, .int .i64 x.hi])
          have HWY := Lib.hid (hway.1.below ((Below.refl _ wr).alloc (Nat.le_refl _) (.cells #[.slice x.A x.n x.c, .int .i64 x.rate, .int .i64 x.lo, .int .i64 x.hi] 62)))
          have H1 := Lib.hid (fun W => In_c x.rate 1 1000 W)
          have H2 := Lib.hid (fun W => upTo_c x.lo x.hi x.n W)
          have hxm := hway.2.1
          unfold maxLen at hxm
          clear hx hbx hb hway hso hFS
          by_cases hn1 : x.n < 1
          · have hn1' : (x.n : Int) < 1 := by omega
            have HF := Lib.hid (HFX.out (by rw [decide_eq_false (by omega)]; simp))
            go_wp2_with fail
            go_ret
            exact ⟨ret_int (by rw [HR.out, HF.out]), HB4.out⟩
          · have hn1' : ¬ (x.n : Int) < 1 := by omega
            cases e1 : inB x.rate 1 1000
            · have HF := Lib.hid (HFX.out (by rw [e1]; simp))
              rw [e1] at H1
              clear e1
              go_wp2_with (go_at_call 26; refine (H1.out _).mono ?_; rintro e w' ⟨rfl, rfl⟩)
              go_ret
              exact ⟨ret_int (by rw [HR.out, HF.out]), HB4.out⟩
            · rw [e1] at H1
              cases e2 : upB x.lo x.hi x.n
              · have HF := Lib.hid (HFX.out (by rw [e2]; simp))
                rw [e2] at H2
                clear e1 e2
                go_wp2_with (first | (go_at_call 26; refine (H1.out _).mono ?_; rintro e w' ⟨rfl, rfl⟩) | (go_at_call 68; refine (H2.out _).mono ?_; rintro e w7 ⟨rfl, hb7⟩; have HB7 := Lib.hid (below_tr HB4.out hb7); clear hb7))
                go_ret
                exact ⟨ret_int (by rw [HR.out, HF.out]), HB7.out⟩
              · rw [e2] at H2
                have HBAD := Lib.hid (fun (hh : wayOk v.pars.length x.way = false) => HFX.out (by rw [hh]; rfl))
                have HGOOD := Lib.hid (fun (hh : wayOk v.pars.length x.way = true) => show sliOk v.pars.length x = true by rw [HSO.out, hwl, hh, e1, e2, decide_eq_true (show 1 ≤ x.n by omega)]; rfl)
                clear e1 e2
                go_wp2_with (first | (go_at_call 26; refine (H1.out _).mono ?_; rintro e w' ⟨rfl, rfl⟩) | (go_at_call 68; refine (H2.out _).mono ?_; rintro e w7 ⟨rfl, hb7⟩; have HB7 := Lib.hid (below_tr HB4.out hb7); have HX7 := Lib.hid (HX4.out.below hb7 HX4.out.lt); have HS7 := Lib.hid (HS4.out.below hb7 HS4.out.lt); have HW7 := Lib.hid (HWY.out.below hb7); clear hb7))
                have s0 := HS7.out.cell 0
                simp at s0
                go_loopw [8] (fun i w3 => ∃ (y m : Nat), y ≤ x.n ∧ i = .int .i64 y ∧ wayTo v.pars.length x.way y ∧ w3 = w7.drewN m) (fun i _ => x.n - (intOf i).toNat)
                case atStart => exact ⟨0, 0, Nat.zero_le _, rfl, ⟨by simp, by simp⟩, rfl⟩
                case round =>
                  obtain ⟨y, m, hy, rfl, hwt, rfl⟩ := hrel
                  have HWT := Lib.hid hwt
                  clear hwt
                  by_cases hyl : y < x.n
                  · obtain ⟨b5, o5, z, hA5, hb5, hz, z0⟩ := HW7.out.at1 hyl
                    have hz' : w7.cell? ⟨b5, o5 + y, none⟩ = some (.int .i64 z) := z0
                    have hyn : (y : Int) < (x.n : Int) := by omega
                    have hy0 : (0 : Int) ≤ (y : Int) := by omega
                    have HZ := Lib.hid hz
                    have hws := wayTo_succ (np := v.pars.length) hz
                    have HWS := Lib.hid hws
                    have hno : ¬ wayTo v.pars.length x.way (y + 1) → errV v = 1 := fun hh => HBAD.out (by
                      rw [← Bool.not_eq_true, wayOk_iff]
                      exact fun h9 => hh (wayTo_mono (by omega) h9))
                    have HNO := Lib.hid hno
                    have H3 := Lib.hid (fun W => In_c z 0 ((k : Int) - 1) W)
                    rw [hA5] at s0
                    have HA5 := Lib.hid hA5
                    clear hz z0 hws hno hA5
                    cases e3 : inB z 0 ((k : Int) - 1)
                    · have hf : errV v = 1 := HNO.out (fun h9 => by
                        have h8 := (HWS.out.1 h9).2.1
                        rw [hlp] at h8
                        have := inB_not.1 e3; omega)
                      have HF := Lib.hid hf
                      rw [e3] at H3
                      clear e3 hf
                      go_wp2_with (go_at_call 26; refine (H3.out _).mono ?_; rintro e w' ⟨rfl, rfl⟩)
                      go_ret
                      exact ⟨ret_int (by rw [HR.out, HF.out]), below_drewN HB7.out _⟩
                    · have hzr := inB_iff.1 e3
                      rw [e3] at H3
                      clear e3
                      go_wp2_with (go_at_call 26; refine (H3.out _).mono ?_; rintro e w' ⟨rfl, rfl⟩)
                      go_loopw [9] (fun i w4 => ∃ (u m4 : Nat), u ≤ y ∧ i = .int .i64 u ∧ (∀ j, j < u → x.way[j]? ≠ some z) ∧ w4 = w7.drewN m4) (fun i _ => y - (intOf i).toNat)
                      case atStart => exact ⟨0, m, Nat.zero_le _, rfl, fun j hj => absurd hj (by omega), rfl⟩
                      case round =>
                        obtain ⟨u, m4, hu, rfl, hun, rfl⟩ := hrel
                        have HUN := Lib.hid hun
                        clear hun
                        by_cases huy : u < y
                        · obtain ⟨b6, o6, t, hA6, hb6, ht, t0⟩ := HW7.out.at1 (i := u) (by omega)
                          rw [HA5.out] at hA6
                          cases hA6
                          have huy' : (u : Int) < (y : Int) := by omega
                          have hu0 : (0 : Int) ≤ (u : Int) := by omega
                          have hux : (u : Int) < (x.n : Int) := by omega
                          have HTT := Lib.hid ht
                          clear ht
                          by_cases htz : t = z
                          · subst htz
                            have hf : errV v = 1 := HNO.out (fun h9 => by
                              have h8 := (HWS.out.1 h9).2.2
                              exact h8 (List.mem_of_getElem? (i := u) (by rw [List.getElem?_take, if_pos huy]; exact HTT.out)))
                            have HF := Lib.hid hf
                            clear hf
                            go_wp2_with fail
                            go_quiet (fail)
                            go_wp2
                            go_ret
                            exact ⟨ret_int (by rw [HR.out, HF.out]), below_drewN (below_drewN HB7.out _) _⟩
                          · have hne : (t == z) = false := by rw [beq_eq_false_iff_ne]; exact htz
                            have HU2 := Lib.hid (show ∀ j, j < u + 1 → x.way[j]? ≠ some z from fun j hj hh => by
                              rcases Nat.lt_or_ge j u with h' | h'
                              · exact HUN.out j h' hh
                              · obtain rfl : j = u := by omega
                                rw [HTT.out] at hh; cases hh; exact htz rfl)
                            go_wp2_with fail
                            go_quiet (fail)
                            go_wp2
                            go_roundw
                            case rel => exact ⟨u + 1, m4 + nq, by omega, by go_num, HU2.out, rfl⟩
                            case measure => simp [intOf] <;> omega
                        · obtain rfl : u = y := by omega
                          have hwt2 : wayTo v.pars.length x.way (u + 1) := HWS.out.2 ⟨HWT.out, ⟨hzr.1, by rw [hlp]; omega⟩, fun hh => by
                            obtain ⟨j, hj⟩ := List.getElem?_of_mem hh
                            rw [List.getElem?_take] at hj
                            split at hj
                            · rename_i h9; exact HUN.out j h9 hj
                            · cases hj⟩
                          have HW2 := Lib.hid hwt2
                          clear hwt2
                          go_wp2_with fail
                          go_roundw
                          case rel => exact ⟨u + 1, m4, by omega, by go_num, HW2.out, rfl⟩
                          case measure => simp [intOf] <;> omega
                  · obtain rfl : y = x.n := by omega
                    have hgd := HGOOD.out (wayOk_iff.2 (by rw [hwl]; exact HWT.out))
                    have HA2 := Lib.hid (show ∀ (j : Nat) (p : Sli), j < q + 1 → v.sls[j]? = some p → sliOk v.pars.length p = true from fun j p hj hp => by
                      rcases Nat.lt_or_ge j q with h' | h'
                      · exact HA.out j p h' hp
                      · obtain rfl : j = q := by omega
                        rw [HXX.out] at hp; cases hp; exact hgd)
                    clear hgd
                    go_wp2_with fail
                    go_roundw
                    case rel => exact ⟨q + 1, by omega, by go_num, HA2.out, Blk.drewN HX7.out _, below_drewN HB7.out _⟩
                    case measure => simp [intOf] <;> omega
        · obtain rfl : q = sn := by omega
          have HF := Lib.hid (HF0.out HPA.out (allB_iff.2 (fun j p hp => HA.out j p (by have := lt_of_get hp; omega) hp)))
          clear hbx hb
          go_wp2_with fail
          go_ret
          exact ⟨ret_int (by rw [HR.out, HF.out]), HB3.out⟩
end Go.Proofs.Ytphdndiikikecaa
