/- CONTRACTS: the error of a lake, and of a lake with works and a choice. -/
import Derived.Test.YtpijmfbpdglchaaKBase
set_option linter.unusedVariables false
set_option linter.unusedSimpArgs false
namespace Go.Proofs.Ytpijmfbpdglchaa
open Go.RowKit Go.Proofs
attribute [local go_sem ↓] Go.wp_at_zero Go.wp_at_succ

theorem errL_big {l : Lak} (h : 30 < l.vols.length ∨ 60 < l.inflow.length) : errL l = 3 := by
  unfold errL bigL
  rw [if_pos (by simp; omega)]
theorem errL_of {l : Lak} (h1 : l.vols.length ≤ 30) (h2 : l.inflow.length ≤ 60) : errL l = if okL l then 0 else 1 := by
  unfold errL bigL
  rw [if_neg (by simp; omega)]
theorem errL_one {l : Lak} (h1 : l.vols.length ≤ 30) (h2 : l.inflow.length ≤ 60) (h : okL l = false) : errL l = 1 := by rw [errL_of h1 h2, h]; rfl
section
variable {VA IA WA CA : Option Addr} {nV nI nW nC cV cI cW cC : Nat} {l : Lak} {ws : List Wrk} {c : List Int} {w : World}

set_option maxRecDepth 100000 in
set_option maxHeartbeats 4000000 in
theorem check_c (h : RdL w VA nV IA nI l) (hcV : nV ≤ cV) (hcI : nI ≤ cI) (hnV : nV ≤ maxLen) (hnI : nI ≤ maxLen) :
    Calls Try.prog 63 #[.agg (lA VA nV cV IA nI cI l)] w fun e w' => e = .returned (.int .i64 (errL l)) ∧ Below w.heap.size w w' := by
  have hvl := h.vols.len; have hil := h.infl.len
  have HL := Lib.hid h; have HNI := Lib.hid hnI
  have HB0 := Lib.hid ((Below.refl w.heap.size w).alloc (Nat.le_refl _) (.cells (lA VA nV cV IA nI cI l) 38))
  have HX0 := Lib.hid (Blk.new w 38 (lA VA nV cV IA nI cI l))
  have HBIG := Lib.hid (errL_big (l := l)); have HONE := Lib.hid (errL_one (l := l)); have HOF := Lib.hid (errL_of (l := l))
  obtain ⟨R, hR⟩ : ∃ R, R = errL l := ⟨_, rfl⟩
  rw [← hR] at HBIG HONE HOF ⊢
  rw [hvl, hil] at HBIG HONE HOF
  clear hR h hnV hnI
  by_cases h30 : 30 < nV
  · have h30' : (30 : Int) < (nV : Int) := by omega
    obtain rfl := HBIG.out (.inl h30)
    go_enter Try.func63, Try.ntmps63
    go_wp2_with fail
    go_ret
    exact ⟨rfl, HB0.out⟩
  · have h30' : (nV : Int) ≤ 30 := by omega
    by_cases h60 : 60 < nI
    · have h60' : (60 : Int) < (nI : Int) := by omega
      obtain rfl := HBIG.out (.inr h60)
      go_enter Try.func63, Try.ntmps63
      go_wp2_with fail
      go_ret
      exact ⟨rfl, HB0.out⟩
    · have h60' : (nI : Int) ≤ 60 := by omega
      have HONE := Lib.hid (HONE.out (by omega) (by omega))
      have HOF := Lib.hid (HOF.out (by omega) (by omega))
      by_cases h2 : nV < 2
      · have h2' : (nV : Int) < 2 := by omega
        obtain rfl := HONE.out (by simp only [okL, hvl]; rw [decide_eq_false (by omega)]; rfl)
        go_enter Try.func63, Try.ntmps63
        go_wp2_with fail
        go_ret
        exact ⟨rfl, HB0.out⟩
      · have h2' : (2 : Int) ≤ (nV : Int) := by omega
        obtain ⟨b, o, v0, rfl, hbl, hv0, e0⟩ := HL.out.vols.at1 (i := 0) (by omega)
        obtain ⟨b', o', vm, hA', hbl', hvm, em⟩ := HL.out.vols.at1 (i := nV - 1) (by omega)
        cases hA'
        have hd2 : decide (2 ≤ nV) = true := decide_eq_true (by omega)
        have ha0 : atI l.vols 0 = v0 := atI_get (i := 0) hv0
        have ham : atI l.vols ((nV : Int) - 1) = vm := by rw [show (nV : Int) - 1 = ((nV - 1 : Nat) : Int) by omega]; exact atI_get hvm
        rw [Nat.add_zero] at e0
        have hlen0 : (0 : Int) < (nV : Int) := by omega
        have hm0 : (0 : Int) ≤ (nV : Int) - 1 := by omega
        have hm1 : (nV : Int) - 1 < (nV : Int) := by omega
        have hmt : ((nV : Int) - 1).toNat = nV - 1 := by omega
        have hok0 : okL l = (decide (v0 = 0) && (decide (vm ≤ 1000000) && (inB l.crest 1 ((nV : Int) - 1) && (inB l.weak 1 l.crest && (riseB l.vols && (upB l.soft 60 && (upB l.start (atI l.vols l.weak - 1) && (upB l.seep 1000000 && allB (fun r => upB r 1000000) l.inflow)))))))) := by
          unfold okL; rw [ha0, hvl, ham, hd2]; rfl
        have HOK := Lib.hid hok0
        have HV0 := Lib.hid hv0; have HVM := Lib.hid hvm
        clear hok0 hd2 ha0 ham hv0 hvm hbl'
        by_cases g0 : v0 = 0
        · subst g0
          by_cases gm : vm ≤ 1000000
          · cases gc : inB l.crest 1 ((nV : Int) - 1)
            · obtain rfl := HONE.out (by rw [HOK.out, gc]; simp)
              clear HBIG HONE HOF
              go_enter Try.func63, Try.ntmps63
              go_wp2_with (go_at_call 78; refine (within_c _ _ _ _).mono ?_; rintro e w' ⟨rfl, rfl⟩; simp only [gc])
              go_ret
              exact ⟨rfl, HB0.out⟩
            · cases gw : inB l.weak 1 l.crest
              · obtain rfl := HONE.out (by rw [HOK.out, gc, gw]; simp)
                clear HBIG HONE HOF
                go_enter Try.func63, Try.ntmps63
                go_wp2_with (go_at_call 78; refine (within_c _ _ _ _).mono ?_; rintro e w' ⟨rfl, rfl⟩; simp only [gc, gw])
                go_ret
                exact ⟨rfl, HB0.out⟩
              · have gc2 := inB_iff.1 gc
                have gw2 := inB_iff.1 gw
                have hok2 : okL l = (riseB l.vols && (upB l.soft 60 && (upB l.start (atI l.vols l.weak - 1) && (upB l.seep 1000000 && allB (fun r => upB r 1000000) l.inflow)))) := by rw [HOK.out, gc, gw, decide_eq_true gm]; rfl
                have HOK2 := Lib.hid hok2
                have HVL := Lib.hid hvl
                obtain ⟨ik, hik⟩ : ∃ ik : Nat, l.weak = (ik : Int) := ⟨l.weak.toNat, by omega⟩
                obtain ⟨b2, o2, vw, hA2, hbl2, hvw, ew⟩ := HL.out.vols.at1 (i := ik) (by omega)
                cases hA2
                have haw : atI l.vols l.weak = vw := by rw [hik]; exact atI_get hvw
                rw [haw] at HOK2
                have HVW := Lib.hid hvw
                have hikn : (ik : Int) < (nV : Int) := by omega
                have hik0 : (0 : Int) ≤ (ik : Int) := by omega
                have HW2 := Lib.hid gw2; have HC2 := Lib.hid gc2; have HIK := Lib.hid hik
                have HS := Lib.hid (fun U => upto_c l.soft 60 U); have HT := Lib.hid (fun U => upto_c l.start (vw - 1) U); have HF := Lib.hid (fun U => flow_c l.seep U)
                have HA := Lib.hid (fun (U : World) (hU : Below (w.alloc (.cells (lA (some ⟨b, o, none⟩) nV cV IA nI cI l) 38)).heap.size (w.alloc (.cells (lA (some ⟨b, o, none⟩) nV cV IA nI cI l) 38)) U) => allRng_c (p := fun r => upB r 1000000) (c := cI) U ((HL.out.infl.below HB0.out).below hU) HNI.out (fun i x W _ _ => flow_c x W))
                obtain ⟨A1, hcut, hcr⟩ := cut_from (t := 22) (e := 3) (size := 1) Try.underlying22 Try.sizeOf3 (some ⟨b, o, none⟩) (len := nV) (cap := cV) (lo := 1) w (by omega) hcV
                have hcut1 : ∀ W, (Instr.slice 22 (.slice (some ⟨b, o, none⟩) nV cV) (some (.int .i64 (1 : Int))) none none).run Try.prog W = .ok (.slice A1 (nV - 1) (cV - 1)) W := hcut
                have HR1 := Lib.hid (hcr enc1 l.vols HL.out.vols)
                have hn1c : ((nV - 1 : Nat) : Int) = (nV : Int) - 1 := by omega
                have HN1C := Lib.hid hn1c
                obtain ⟨m, hm⟩ : ∃ m, m = nV - 1 := ⟨_, rfl⟩
                rw [← hm] at hcut1 HR1 HN1C
                have HMM := Lib.hid hm
                rw [hik] at gw
                have dm : decide (1000000 < vm) = false := decide_eq_false (by omega)
                have d2 : decide ((nV : Int) < 2) = false := decide_eq_false (by omega)
                have d30 : decide ((30 : Int) < (nV : Int)) = false := decide_eq_false (by omega)
                have d60 : decide ((60 : Int) < (nI : Int)) = false := decide_eq_false (by omega)
                simp only [lA, hik] at HB0 HX0 HA ⊢
                clear gw2 gc2 hok2 hcut hcr hvw hik haw hn1c hm HOK
                go_enter Try.func63, Try.ntmps63
                go_wp2_with (go_at_call 78; refine (within_c _ _ _ _).mono ?_; rintro e w' ⟨rfl, rfl⟩; simp only [gc, gw])
                go_loopw [57] (fun i wr => ∃ k : Nat, k ≤ m ∧ i = .int .i64 k ∧ (∀ (j : Nat) (x y : Int), j < k → l.vols[j]? = some x → l.vols[j + 1]? = some y → x < y) ∧ wr = (w.alloc (.cells #[.slice (some ⟨b, o, none⟩) nV cV, .int .i64 l.crest, .int .i64 ik, .int .i64 l.soft.1, .int .i64 l.soft.2, .int .i64 l.start.1, .int .i64 l.start.2, .int .i64 l.seep.1, .int .i64 l.seep.2, .slice IA nI cI] 38))) (fun i _ => m - (intOf i).toNat)
                case atStart => exact ⟨0, Nat.zero_le _, rfl, fun j _ _ hj => absurd hj (by omega), by first | rfl | trivial⟩
                case round =>
                  obtain ⟨k, hk, rfl, hall, rfl⟩ := hrel
                  have HALL := Lib.hid hall
                  clear hall
                  by_cases hlt : k < m
                  · obtain ⟨b3, o3, x, rfl, hbl3, hx, e3⟩ := (HR1.out.below HB0.out).at1 (i := k) (by omega)
                    obtain ⟨b4, o4, y, hA4, hbl4, hy, e4⟩ := (HL.out.vols.below HB0.out).at1 (i := k) (by have := HMM.out; omega)
                    cases hA4
                    have hx' : l.vols[k + 1]? = some x := by
                      rw [List.getElem?_drop] at hx
                      rw [← hx]; congr 1; omega
                    have HX := Lib.hid hx'; have HY := Lib.hid hy
                    have hkm : (k : Int) < (m : Int) := by omega
                    have hk0 : (0 : Int) ≤ (k : Int) := by omega
                    have hkn : (k : Int) < (nV : Int) := by have := HMM.out; omega
                    clear hx hx' hy
                    by_cases hle : x ≤ y
                    · obtain rfl := HONE.out (by
                        rw [HOK2.out]
                        have : riseB l.vols = false := by
                          rw [← Bool.not_eq_true, riseB_iff]
                          intro hr
                          have := hr k y x HY.out HX.out; omega
                        rw [this]; rfl)
                      clear HBIG HONE HOF
                      go_wp2_with fail
                      go_ret
                      exact ⟨rfl, HB0.out⟩
                    · have hle' : y < x := by omega
                      go_wp2_with fail
                      go_roundw
                      case rel =>
                        refine ⟨k + 1, by omega, by go_num, fun j u v hj hu hv => ?_, by first | rfl | trivial⟩
                        rcases Nat.lt_or_ge j k with h5 | h5
                        · exact HALL.out j u v h5 hu hv
                        · obtain rfl : j = k := by omega
                          rw [HY.out] at hu; cases hu
                          rw [HX.out] at hv; cases hv
                          exact hle'
                      case measure => simp [intOf] <;> omega
                  · obtain rfl : k = m := by omega
                    have hrise : riseB l.vols = true := riseB_iff.2 fun j u v hu hv => by
                      have := lt_of_get hv
                      exact HALL.out j u v (by have := HMM.out; have := HVL.out; omega) hu hv
                    have hvb : 0 ≤ vw ∧ vw ≤ 1000000 := by
                      have h6 := HMM.out; have h7 := HW2.out; have h8 := HC2.out; have h9 := HIK.out
                      have r1 := riseB_lt hrise ik 0 _ _ (by omega) HV0.out HVW.out
                      rcases Nat.lt_or_ge ik (nV - 1) with h5 | h5
                      · have r2 := riseB_lt hrise (nV - 1) ik _ _ h5 HVW.out HVM.out
                        omega
                      · obtain rfl : ik = nV - 1 := by omega
                        have := HVW.out.symm.trans HVM.out
                        have := Option.some.inj this
                        omega
                    have hww : IntKind.i64.wrap (vw - 1) = vw - 1 := wi (by omega)
                    have HRI := Lib.hid hrise
                    have hbx : w.heap.size < (w.alloc (.cells #[.slice (some ⟨b, o, none⟩) nV cV, .int .i64 l.crest, .int .i64 ik, .int .i64 l.soft.1, .int .i64 l.soft.2, .int .i64 l.start.1, .int .i64 l.start.2, .int .i64 l.seep.1, .int .i64 l.seep.2, .slice IA nI cI] 38)).heap.size := by simp
                    have hbb : b < (w.alloc (.cells #[.slice (some ⟨b, o, none⟩) nV cV, .int .i64 l.crest, .int .i64 ik, .int .i64 l.soft.1, .int .i64 l.soft.2, .int .i64 l.start.1, .int .i64 l.start.2, .int .i64 l.seep.1, .int .i64 l.seep.2, .slice IA nI cI] 38)).heap.size := by simp; omega
                    clear hrise
                    cases q1 : upB l.soft 60
                    · obtain rfl := HONE.out (by rw [HOK2.out, HRI.out, q1]; rfl)
                      rw [q1] at HS
                      clear HBIG HONE HOF
                      go_wp2_with fail
                      refine wp_region_ext (by kernel_rfl) (by kernel_rfl) ?_
                      repeat (go_big_quiet_step ((first | (go_at_call 79; first | with_reducible exact ext_call (HS.out _) | with_reducible exact ext_call (HT.out _)) | (go_at_call 91; exact ext_call (HF.out _)) | (go_at_call 92; exact ext_call (HA.out _ (Ext.below _))))))
                      refine wpQuiet_nil ?_
                      rintro _ ⟨q, rfl⟩
                      go_wp2
                      go_ret
                      exact ⟨rfl, below_tr HB0.out q.below⟩
                    · cases q2 : upB l.start (vw - 1)
                      · obtain rfl := HONE.out (by rw [HOK2.out, HRI.out, q1, q2]; rfl)
                        rw [q1] at HS
                        rw [q2] at HT
                        clear HBIG HONE HOF
                        go_wp2_with fail
                        refine wp_region_ext (by kernel_rfl) (by kernel_rfl) ?_
                        repeat (go_big_quiet_step ((first | (go_at_call 79; first | with_reducible exact ext_call (HS.out _) | with_reducible exact ext_call (HT.out _)) | (go_at_call 91; exact ext_call (HF.out _)) | (go_at_call 92; exact ext_call (HA.out _ (Ext.below _))))))
                        refine wpQuiet_nil ?_
                        rintro _ ⟨q, rfl⟩
                        go_wp2
                        go_ret
                        exact ⟨rfl, below_tr HB0.out q.below⟩
                      · cases q3 : upB l.seep 1000000
                        · obtain rfl := HONE.out (by rw [HOK2.out, HRI.out, q1, q2, q3]; rfl)
                          rw [q1] at HS
                          rw [q2] at HT
                          rw [q3] at HF
                          clear HBIG HONE HOF
                          go_wp2_with fail
                          refine wp_region_ext (by kernel_rfl) (by kernel_rfl) ?_
                          repeat (go_big_quiet_step ((first | (go_at_call 79; first | with_reducible exact ext_call (HS.out _) | with_reducible exact ext_call (HT.out _)) | (go_at_call 91; exact ext_call (HF.out _)) | (go_at_call 92; exact ext_call (HA.out _ (Ext.below _))))))
                          refine wpQuiet_nil ?_
                          rintro _ ⟨q, rfl⟩
                          go_wp2
                          go_ret
                          exact ⟨rfl, below_tr HB0.out q.below⟩
                        · cases q4 : allB (fun r => upB r 1000000) l.inflow
                          · obtain rfl := HONE.out (by rw [HOK2.out, HRI.out, q1, q2, q3, q4]; rfl)
                            rw [q1] at HS
                            rw [q2] at HT
                            rw [q3] at HF
                            rw [q4] at HA
                            clear HBIG HONE HOF
                            go_wp2_with fail
                            refine wp_region_ext (by kernel_rfl) (by kernel_rfl) ?_
                            repeat (go_big_quiet_step ((first | (go_at_call 79; first | with_reducible exact ext_call (HS.out _) | with_reducible exact ext_call (HT.out _)) | (go_at_call 91; exact ext_call (HF.out _)) | (go_at_call 92; exact ext_call (HA.out _ (Ext.below _))))))
                            refine wpQuiet_nil ?_
                            rintro _ ⟨q, rfl⟩
                            go_wp2
                            go_ret
                            exact ⟨rfl, below_tr HB0.out q.below⟩
                          · obtain rfl : R = 0 := by rw [HOF.out, HOK2.out, HRI.out, q1, q2, q3, q4]; rfl
                            rw [q1] at HS
                            rw [q2] at HT
                            rw [q3] at HF
                            rw [q4] at HA
                            clear HBIG HONE HOF
                            go_wp2_with fail
                            refine wp_region_ext (by kernel_rfl) (by kernel_rfl) ?_
                            repeat (go_big_quiet_step ((first | (go_at_call 79; first | with_reducible exact ext_call (HS.out _) | with_reducible exact ext_call (HT.out _)) | (go_at_call 91; exact ext_call (HF.out _)) | (go_at_call 92; exact ext_call (HA.out _ (Ext.below _))))))
                            refine wpQuiet_nil ?_
                            rintro _ ⟨q, rfl⟩
                            go_wp2
                            go_ret
                            exact ⟨rfl, below_tr HB0.out q.below⟩
          · obtain rfl := HONE.out (by rw [HOK.out, decide_eq_false gm]; simp)
            have gm' : 1000000 < vm := by omega
            clear HBIG HONE HOF
            go_enter Try.func63, Try.ntmps63
            go_wp2_with fail
            go_ret
            exact ⟨rfl, HB0.out⟩
        · obtain rfl := HONE.out (by rw [HOK.out, decide_eq_false g0]; simp)
          have g0' : (v0 == 0) = false := by simpa using g0
          clear HBIG HONE HOF
          go_enter Try.func63, Try.ntmps63
          go_wp2_with fail
          go_ret
          exact ⟨rfl, HB0.out⟩
theorem CheckLake_c (h : RdL w VA nV IA nI l) (hcV : nV ≤ cV) (hcI : nI ≤ cI) (hnV : nV ≤ maxLen) (hnI : nI ≤ maxLen) :
    Calls Try.prog 31 #[.agg (lA VA nV cV IA nI cI l)] w fun e w' => e = .returned (.int .i64 (errL l)) ∧ Below w.heap.size w w' := by
  have hb := (Below.refl w.heap.size w).alloc (Nat.le_refl _) (.cells (lA VA nV cV IA nI cI l) 38)
  have HC := Lib.hid (check_c (cV := cV) (cI := cI) (h.below hb) hcV hcI hnV hnI)
  have HB := Lib.hid hb
  clear hb h
  go_enter Try.func31, Try.ntmps31
  go_wp2_with (go_at_call 63; refine HC.out.mono ?_; rintro e w' ⟨rfl, hb'⟩)
  go_ret
  exact ⟨rfl, below_tr HB.out hb'⟩
end
end Go.Proofs.Ytpijmfbpdglchaa
