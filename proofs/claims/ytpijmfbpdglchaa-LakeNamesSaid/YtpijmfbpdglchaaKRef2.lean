/- CONTRACT of the reference's Fault. -/
import Derived.Test.YtpijmfbpdglchaaKCheck
import Derived.Test.YtpijmfbpdglchaaKBase
set_option linter.unusedVariables false
set_option linter.unusedSimpArgs false
namespace Go.Proofs.Ytpijmfbpdglchaa
open Go.RowKit Go.Proofs
section
variable {VA IA : Option Addr} {nV nI cV cI : Nat} {l : Lak} {w : World}
theorem lA_cells (w : World) {U : World} (hU : Below (w.alloc (.cells (lA VA nV cV IA nI cI l) 27)).heap.size (w.alloc (.cells (lA VA nV cV IA nI cI l) 27)) U) : U.cell? ⟨w.heap.size, 0, none⟩ = some (.slice VA nV cV) ∧ U.cell? ⟨w.heap.size, 1, none⟩ = some (.int .i64 l.crest) ∧ U.cell? ⟨w.heap.size, 2, none⟩ = some (.int .i64 l.weak) ∧ U.cell? ⟨w.heap.size, 3, none⟩ = some (.int .i64 l.soft.1) ∧ U.cell? ⟨w.heap.size, 4, none⟩ = some (.int .i64 l.soft.2) ∧ U.cell? ⟨w.heap.size, 5, none⟩ = some (.int .i64 l.start.1) ∧ U.cell? ⟨w.heap.size, 6, none⟩ = some (.int .i64 l.start.2) ∧ U.cell? ⟨w.heap.size, 7, none⟩ = some (.int .i64 l.seep.1) ∧ U.cell? ⟨w.heap.size, 8, none⟩ = some (.int .i64 l.seep.2) ∧ U.cell? ⟨w.heap.size, 9, none⟩ = some (.slice IA nI cI) := by
  have hX := (Blk.new w 27 (lA VA nV cV IA nI cI l)).below hU (by simp)
  have pc := hX.cell
  have p0 := pc 0; have p1 := pc 1; have p2 := pc 2; have p3 := pc 3; have p4 := pc 4; have p5 := pc 5; have p6 := pc 6; have p7 := pc 7; have p8 := pc 8; have p9 := pc 9
  simp at p0 p1 p2 p3 p4 p5 p6 p7 p8 p9
  exact ⟨p0, p1, p2, p3, p4, p5, p6, p7, p8, p9⟩
set_option maxRecDepth 100000 in
set_option maxHeartbeats 4000000 in
theorem rFault_c (h : RdL w VA nV IA nI l) (hnV : nV ≤ maxLen) (hnI : nI ≤ maxLen) :
    Calls Try.prog 34 #[.agg (lA VA nV cV IA nI cI l)] w fun e w' => e = .returned (.int .i64 (errL l)) ∧ Below w.heap.size w w' := by
  unfold maxLen at hnV hnI
  have hvl := h.vols.len; have hil := h.infl.len
  have HL := Lib.hid h
  have HB0 := Lib.hid ((Below.refl w.heap.size w).alloc (Nat.le_refl _) (.cells (lA VA nV cV IA nI cI l) 27))
  have HXX := Lib.hid (fun U hU => lA_cells (VA := VA) (IA := IA) (nV := nV) (nI := nI) (cV := cV) (cI := cI) (l := l) w (U := U) hU)
  have HBIG := Lib.hid (errL_big (l := l)); have HONE := Lib.hid (errL_one (l := l)); have HOF := Lib.hid (errL_of (l := l))
  obtain ⟨R, hR⟩ : ∃ R, R = errL l := ⟨_, rfl⟩
  rw [← hR] at HBIG HONE HOF ⊢
  rw [hvl, hil] at HBIG HONE HOF
  clear hR h
  by_cases h30 : 30 < nV
  · have h30' : (30 : Int) < (nV : Int) := by omega
    obtain rfl := HBIG.out (.inl h30)
    go_enter Try.func34, Try.ntmps34
    go_wp2_with fail
    go_ret
    exact ⟨rfl, HB0.out⟩
  · have h30' : (nV : Int) ≤ 30 := by omega
    by_cases h60 : 60 < nI
    · have h60' : (60 : Int) < (nI : Int) := by omega
      obtain rfl := HBIG.out (.inr h60)
      go_enter Try.func34, Try.ntmps34
      go_wp2_with fail
      go_ret
      exact ⟨rfl, HB0.out⟩
    · have h60' : (nI : Int) ≤ 60 := by omega
      have HONE := Lib.hid (HONE.out (by omega) (by omega))
      have HOF := Lib.hid (HOF.out (by omega) (by omega))
      by_cases h2 : nV < 2
      · have h2' : (nV : Int) < 2 := by omega
        obtain rfl := HONE.out (by simp only [okL, hvl]; rw [decide_eq_false (by omega)]; rfl)
        go_enter Try.func34, Try.ntmps34
        go_wp2_with fail
        go_ret
        exact ⟨rfl, HB0.out⟩
      · have h2' : (2 : Int) ≤ (nV : Int) := by omega
        obtain ⟨b, o, v0, rfl, hbl, hv0, e0⟩ := HL.out.vols.at1 (i := 0) (by omega)
        obtain ⟨b', o', vm, hA', hbl', hvm, em⟩ := HL.out.vols.at1 (i := nV - 1) (by omega)
        cases hA'
        have hd2 : decide (2 ≤ nV) = true := decide_eq_true (by omega)
        have ha0 : atI l.vols 0 = v0 := atI_get (i := 0) hv0
        have ham : atI l.vols ((nV : Int) - 1) = vm := by rw [show (nV : Int) - 1 = ((nV - 1 : Nat) : Int) by omega]; exact atI_get hvm
        rw [Nat.add_zero] at e0
        have hlen0 : (0 : Int) < (nV : Int) := by omega
        have hm0 : (0 : Int) ≤ (nV : Int) - 1 := by omega
        have hm1 : (nV : Int) - 1 < (nV : Int) := by omega
        have hmt : ((nV : Int) - 1).toNat = nV - 1 := by omega
        have hok0 : okL l = (decide (v0 = 0) && (decide (vm ≤ 1000000) && (inB l.crest 1 ((nV : Int) - 1) && (inB l.weak 1 l.crest && (riseB l.vols && (upB l.soft 60 && (upB l.start (atI l.vols l.weak - 1) && (upB l.seep 1000000 && allB (fun r => upB r 1000000) l.inflow)))))))) := by
          unfold okL; rw [ha0, hvl, ham, hd2]; rfl
        have HOK := Lib.hid hok0
        have HV0 := Lib.hid hv0; have HVM := Lib.hid hvm; have HVL := Lib.hid hvl; have HIL := Lib.hid hil
        clear hok0 hd2 ha0 ham hv0 hvm hbl' hvl hil
        by_cases g0 : v0 = 0
        · subst g0
          by_cases gm : vm ≤ 1000000
          · have HGM := Lib.hid gm
            go_enter Try.func34, Try.ntmps34
            go_wp2_with fail
            go_loopw [4] (fun i wr => ∃ k : Nat, 1 ≤ k ∧ k ≤ nV ∧ i = .int .i64 k ∧ (∀ (j : Nat) (x y : Int), j + 1 < k → l.vols[j]? = some x → l.vols[j + 1]? = some y → x < y) ∧ Below (w.alloc (.cells (lA (some ⟨b, o, none⟩) nV cV IA nI cI l) 27)).heap.size (w.alloc (.cells (lA (some ⟨b, o, none⟩) nV cV IA nI cI l) 27)) wr) (fun i _ => nV - (intOf i).toNat)
            case atStart => exact ⟨1, Nat.le_refl _, by omega, rfl, fun j _ _ hj => absurd hj (by omega), Below.refl _ _⟩
            case round =>
              obtain ⟨k, hk1, hk, rfl, hall, hb1⟩ := hrel
              have HALL := Lib.hid hall; have HB1 := Lib.hid hb1
              clear hall hb1
              obtain ⟨x0, x1, x2, x3, x4, x5, x6, x7, x8, x9⟩ := HXX.out _ HB1.out
              have hxl : w.heap.size < wr.heap.size := Nat.lt_of_lt_of_le (by simp) HB1.out.size
              by_cases hlt : k < nV
              · obtain ⟨b3, o3, x, hA3, hbl3, hx, e3⟩ := (HL.out.vols.below (HB0.out.trans (HB1.out.mono HB0.out.size))).at1 (i := k) (by omega)
                cases hA3
                obtain ⟨b4, o4, y, hA4, hbl4, hy, e4⟩ := (HL.out.vols.below (HB0.out.trans (HB1.out.mono HB0.out.size))).at1 (i := k - 1) (by omega)
                cases hA4
                have HX := Lib.hid hx; have HY := Lib.hid hy
                have hkn : (k : Int) < (nV : Int) := by omega
                have hk0 : (0 : Int) ≤ (k : Int) := by omega
                have hkt : ((k : Int) - 1).toNat = k - 1 := by omega
                have hi1' : (k : Int) - 1 < (nV : Int) := by omega
                have hi0' : (0 : Int) ≤ (k : Int) - 1 := by omega
                clear hx hy
                have HQ := Lib.hid (And.intro HB0.out HB1.out)
                cases hle : decide (x ≤ y)
                · have HLE := Lib.hid (of_decide_eq_false hle)
                  go_wp2_with fail
                  refine wp_region_ext (by kernel_rfl) (by kernel_rfl) ?_
                  repeat (go_big_quiet_step (fail))
                  refine wpQuiet_nil ?_
                  rintro _ ⟨q, rfl⟩
                  have HB2 := Lib.hid (HB1.out.trans (q.below.mono HB1.out.size))
                  go_wp2
                  go_roundw
                  case rel =>
                    refine ⟨k + 1, by omega, by omega, by go_num, fun j u v hj hu hv => ?_, HB2.out⟩
                    rcases Nat.lt_or_ge (j + 1) k with h5 | h5
                    · exact HALL.out j u v h5 hu hv
                    · obtain rfl : j = k - 1 := by omega
                      rw [HY.out] at hu; cases hu
                      rw [show k - 1 + 1 = k by omega, HX.out] at hv; cases hv
                      have := HLE.out; omega
                  case measure => simp [intOf] <;> omega
                · obtain rfl := HONE.out (by
                    rw [HOK.out]
                    have : riseB l.vols = false := by
                      rw [← Bool.not_eq_true, riseB_iff]
                      intro hr
                      have := hr (k - 1) y x HY.out (by rw [show k - 1 + 1 = k by omega]; exact HX.out)
                      have := of_decide_eq_true hle; omega
                    rw [this]; simp)
                  clear HBIG HONE HOF
                  go_wp2_with fail
                  refine wp_region_ext (by kernel_rfl) (by kernel_rfl) ?_
                  repeat (go_big_quiet_step (fail))
                  refine wpQuiet_nil ?_
                  rintro _ ⟨q, rfl⟩
                  have HB2 := Lib.hid (HB1.out.trans (q.below.mono HB1.out.size))
                  go_wp2
                  go_ret
                  exact ⟨rfl, HB0.out.trans (HB2.out.mono HB0.out.size)⟩
              · obtain rfl : nV = k := by omega
                have hrise : riseB l.vols = true := riseB_iff.2 fun j u v hu hv => by
                  have := lt_of_get hv
                  exact HALL.out j u v (by have := HVL.out; omega) hu hv
                have HRI := Lib.hid hrise
                clear HALL
                have HC := Lib.hid (fun U => In_b l.crest 1 ((nV : Int) - 1) U); have HW := Lib.hid (fun U => In_b l.weak 1 l.crest U)
                have HS := Lib.hid (fun U => span_c l.soft 60 U); have HF := Lib.hid (fun U => span_c l.seep 1000000 U)
                have HT := Lib.hid (fun U => span_c l.start 0 U)
                cases gc : inB l.crest 1 ((nV : Int) - 1)
                all_goals rw [gc] at HC
                · clear hrise
                  obtain rfl := HONE.out (by rw [HOK.out, gc]; simp)
                  clear HBIG HONE HOF
                  go_wp2_with fail
                  refine wp_region_ext (by kernel_rfl) (by kernel_rfl) ?_
                  repeat (go_big_quiet_step ((first | (go_at_call 62; first | with_reducible exact ext_call (HC.out _) | with_reducible exact ext_call (HW.out _)) | (go_at_call 71; first | with_reducible exact ext_call (HS.out _) | with_reducible exact ext_call (HT.out _) | with_reducible exact ext_call (HF.out _)))))
                  refine wpQuiet_nil ?_
                  rintro _ ⟨q, rfl⟩
                  have HB2 := Lib.hid (HB1.out.trans (q.below.mono HB1.out.size))
                  go_wp2
                  go_ret
                  exact ⟨rfl, HB0.out.trans (HB2.out.mono HB0.out.size)⟩
                · cases gw : inB l.weak 1 l.crest
                  all_goals rw [gw] at HW
                  · clear hrise
                    obtain rfl := HONE.out (by rw [HOK.out, gc, gw]; simp)
                    clear HBIG HONE HOF
                    go_wp2_with fail
                    refine wp_region_ext (by kernel_rfl) (by kernel_rfl) ?_
                    repeat (go_big_quiet_step ((first | (go_at_call 62; first | with_reducible exact ext_call (HC.out _) | with_reducible exact ext_call (HW.out _)) | (go_at_call 71; first | with_reducible exact ext_call (HS.out _) | with_reducible exact ext_call (HT.out _) | with_reducible exact ext_call (HF.out _)))))
                    refine wpQuiet_nil ?_
                    rintro _ ⟨q, rfl⟩
                    have HB2 := Lib.hid (HB1.out.trans (q.below.mono HB1.out.size))
                    go_wp2
                    go_ret
                    exact ⟨rfl, HB0.out.trans (HB2.out.mono HB0.out.size)⟩
                  · have gc2 := inB_iff.1 gc
                    have gw2 := inB_iff.1 gw
                    obtain ⟨ik, hik⟩ : ∃ ik : Nat, l.weak = (ik : Int) := ⟨l.weak.toNat, by omega⟩
                    obtain ⟨b2, o2, vw, hA2, hbl2, hvw, ew⟩ := (HL.out.vols.below (HB0.out.trans (HB1.out.mono HB0.out.size))).at1 (i := ik) (by omega)
                    cases hA2
                    have haw : atI l.vols l.weak = vw := by rw [hik]; exact atI_get hvw
                    have hvb : 0 ≤ vw ∧ vw ≤ 1000000 := by
                      have r1 := riseB_lt hrise ik 0 _ _ (by omega) HV0.out hvw
                      have hgm := HGM.out
                      rcases Nat.lt_or_ge ik (nV - 1) with h5 | h5
                      · have r2 := riseB_lt hrise (nV - 1) ik _ _ h5 hvw HVM.out
                        omega
                      · obtain rfl : ik = nV - 1 := by omega
                        have := hvw.symm.trans HVM.out
                        have := Option.some.inj this
                        omega
                    have hww : IntKind.i64.wrap (vw - 1) = vw - 1 := wi (by omega)
                    have hok2 : okL l = (upB l.soft 60 && (upB l.start (vw - 1) && (upB l.seep 1000000 && allB (fun r => upB r 1000000) l.inflow))) := by rw [HOK.out, gc, gw, haw, decide_eq_true HGM.out, hrise]; rfl
                    have HOK2 := Lib.hid hok2
                    have hikn : (ik : Int) < (nV : Int) := by omega
                    have hik0 : (0 : Int) ≤ (ik : Int) := by omega
                    clear HT
                    have HT := Lib.hid (fun U => span_c l.start (vw - 1) U)
                    rw [hik] at x2 HW
                    have hbx : b < wr.heap.size := hbl2
                    clear gw2 gc2 hvw hik haw hok2 hrise hvb HOK
                    have HOK := HOK2; clear HOK2
                    cases q1 : upB l.soft 60
                    all_goals rw [q1] at HS
                    · skip
                      obtain rfl := HONE.out (by rw [HOK.out, q1]; simp)
                      clear HBIG HONE HOF
                      go_wp2_with fail
                      refine wp_region_ext (by kernel_rfl) (by kernel_rfl) ?_
                      repeat (go_big_quiet_step ((first | (go_at_call 62; first | with_reducible exact ext_call (HC.out _) | with_reducible exact ext_call (HW.out _)) | (go_at_call 71; first | with_reducible exact ext_call (HS.out _) | with_reducible exact ext_call (HT.out _) | with_reducible exact ext_call (HF.out _)))))
                      refine wpQuiet_nil ?_
                      rintro _ ⟨q, rfl⟩
                      have HB2 := Lib.hid (HB1.out.trans (q.below.mono HB1.out.size))
                      go_wp2
                      go_ret
                      exact ⟨rfl, HB0.out.trans (HB2.out.mono HB0.out.size)⟩
                    · cases q2 : upB l.start (vw - 1)
                      all_goals rw [q2] at HT
                      · skip
                        obtain rfl := HONE.out (by rw [HOK.out, q1, q2]; simp)
                        clear HBIG HONE HOF
                        go_wp2_with fail
                        refine wp_region_ext (by kernel_rfl) (by kernel_rfl) ?_
                        repeat (go_big_quiet_step ((first | (go_at_call 62; first | with_reducible exact ext_call (HC.out _) | with_reducible exact ext_call (HW.out _)) | (go_at_call 71; first | with_reducible exact ext_call (HS.out _) | with_reducible exact ext_call (HT.out _) | with_reducible exact ext_call (HF.out _)))))
                        refine wpQuiet_nil ?_
                        rintro _ ⟨q, rfl⟩
                        have HB2 := Lib.hid (HB1.out.trans (q.below.mono HB1.out.size))
                        go_wp2
                        go_ret
                        exact ⟨rfl, HB0.out.trans (HB2.out.mono HB0.out.size)⟩
                      · cases q3 : upB l.seep 1000000
                        all_goals rw [q3] at HF
                        · skip
                          obtain rfl := HONE.out (by rw [HOK.out, q1, q2, q3]; simp)
                          clear HBIG HONE HOF
                          go_wp2_with fail
                          refine wp_region_ext (by kernel_rfl) (by kernel_rfl) ?_
                          repeat (go_big_quiet_step ((first | (go_at_call 62; first | with_reducible exact ext_call (HC.out _) | with_reducible exact ext_call (HW.out _)) | (go_at_call 71; first | with_reducible exact ext_call (HS.out _) | with_reducible exact ext_call (HT.out _) | with_reducible exact ext_call (HF.out _)))))
                          refine wpQuiet_nil ?_
                          rintro _ ⟨q, rfl⟩
                          have HB2 := Lib.hid (HB1.out.trans (q.below.mono HB1.out.size))
                          go_wp2
                          go_ret
                          exact ⟨rfl, HB0.out.trans (HB2.out.mono HB0.out.size)⟩
                        · go_wp2_with fail
                          refine wp_region_ext (by kernel_rfl) (by kernel_rfl) ?_
                          repeat (go_big_quiet_step ((first | (go_at_call 62; first | with_reducible exact ext_call (HC.out _) | with_reducible exact ext_call (HW.out _)) | (go_at_call 71; first | with_reducible exact ext_call (HS.out _) | with_reducible exact ext_call (HT.out _) | with_reducible exact ext_call (HF.out _)))))
                          refine wpQuiet_nil ?_
                          rintro _ ⟨q, rfl⟩
                          have HB2 := Lib.hid (HB1.out.trans (q.below.mono HB1.out.size))
                          have HOK3 := Lib.hid (show okL l = allB (fun r => upB r 1000000) l.inflow by rw [HOK.out, q1, q2, q3]; rfl)
                          clear HOK HS HT HF HC HW q1 q2 q3
                          go_wp2_with fail
                          go_loopw [5] (fun i wr => ∃ k : Nat, k ≤ nI ∧ i = .int .i64 k ∧ (∀ (j : Nat) (x : Rng), j < k → l.inflow[j]? = some x → upB x 1000000 = true) ∧ Below (w.alloc (.cells (lA (some ⟨b, o, none⟩) nV cV IA nI cI l) 27)).heap.size (w.alloc (.cells (lA (some ⟨b, o, none⟩) nV cV IA nI cI l) 27)) wr) (fun i _ => nI - (intOf i).toNat)
                          case atStart => exact ⟨0, Nat.zero_le _, rfl, fun j _ hj => absurd hj (by omega), HB2.out⟩
                          case round =>
                            obtain ⟨k, hk, rfl, hall, hb3⟩ := hrel
                            clear x0 x1 x2 x3 x4 x5 x6 x7 x8 x9
                            have HALL := Lib.hid hall; have HB3 := Lib.hid hb3
                            clear hall hb3
                            obtain ⟨x0, x1, x2, x3, x4, x5, x6, x7, x8, x9⟩ := HXX.out _ HB3.out
                            clear x0 x1 x2 x3 x4 x5 x6 x7 x8
                            by_cases hlt : k < nI
                            · obtain ⟨b5, o5, x, rfl, hbl5, hx, r0, r1⟩ := (HL.out.infl.below (HB0.out.trans (HB3.out.mono HB0.out.size))).at2 (i := k) (by omega)
                              have HX := Lib.hid hx
                              have hkn : (k : Int) < (nI : Int) := by omega
                              have hk0 : (0 : Int) ≤ (k : Int) := by omega
                              clear hx
                              have HP := Lib.hid (fun U => span_c x 1000000 U)
                              cases q4 : upB x 1000000
                              all_goals rw [q4] at HP
                              · obtain rfl := HONE.out (by rw [HOK3.out, (allB_not (p := fun r => upB r 1000000) (l := l.inflow)).2 ⟨k, x, HX.out, q4⟩])
                                clear HBIG HONE HOF
                                go_wp2_with (go_at_call 71; refine (HP.out _).mono ?_; rintro e wn ⟨rfl, hbn⟩)
                                go_ret
                                exact ⟨rfl, below_tr (below_tr HB0.out HB3.out) hbn⟩
                              · go_wp2_with (go_at_call 71; refine (HP.out _).mono ?_; rintro e wn ⟨rfl, hbn⟩)
                                go_roundw
                                case rel => exact ⟨k + 1, by omega, by go_num, fun j y hj hy => by
                                  rcases Nat.lt_or_ge j k with hjk | hjk
                                  · exact HALL.out j y hjk hy
                                  · obtain rfl : j = k := by omega
                                    rw [HX.out] at hy; cases hy; exact q4, below_tr HB3.out hbn⟩
                                case measure => simp [intOf] <;> omega
                            · obtain rfl : nI = k := by omega
                              obtain rfl : R = 0 := by
                                rw [HOF.out, HOK3.out, (allB_iff (p := fun r => upB r 1000000) (l := l.inflow)).2 fun i x hx => HALL.out i x (by have := lt_of_get hx; have := HIL.out; omega) hx]; rfl
                              clear HBIG HONE HOF
                              go_wp2
                              go_ret
                              exact ⟨rfl, below_tr HB0.out HB3.out⟩
          · obtain rfl := HONE.out (by rw [HOK.out, decide_eq_false gm]; simp)
            have gm' : 1000000 < vm := by omega
            clear HBIG HONE HOF
            go_enter Try.func34, Try.ntmps34
            go_wp2_with fail
            go_ret
            exact ⟨rfl, HB0.out⟩
        · obtain rfl := HONE.out (by rw [HOK.out, decide_eq_false g0]; simp)
          have g0' : (v0 == 0) = false := by simpa using g0
          clear HBIG HONE HOF
          go_enter Try.func34, Try.ntmps34
          go_wp2_with fail
          go_ret
          exact ⟨rfl, HB0.out⟩
end
end Go.Proofs.Ytpijmfbpdglchaa
