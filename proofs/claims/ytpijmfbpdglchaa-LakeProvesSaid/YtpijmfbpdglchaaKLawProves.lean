/- THE WALK of LakeProves. -/
import Derived.Test.YtpijmfbpdglchaaKFew
import Derived.Test.YtpijmfbpdglchaaKFault2
import Derived.Test.YtpijmfbpdglchaaKConv
import Derived.Test.YtpijmfbpdglchaaKAwake
import Derived.Test.YtpijmfbpdglchaaKREnough
set_option linter.unusedVariables false
set_option linter.unusedSimpArgs false
namespace Go.Proofs.Ytpijmfbpdglchaa
open Go.RowKit Go.Proofs
attribute [local go_sem ↓] Go.wp_at_zero Go.wp_at_succ
section
variable {VA IA WA CA : Option Addr} {nV nI cV cI nW cW nC cC : Nat} {l : Lak} {ws : List Wrk} {c : List Int} {w : World}
set_option linter.unusedSimpArgs false in
set_option maxRecDepth 100000 in
set_option maxHeartbeats 8000000 in
theorem LakeProves_w (h : RdL w VA nV IA nI l) (hw : Rd encW 3 w WA nW ws) (hc : Rd enc1 1 w CA nC c) (hnV : nV ≤ maxLen) (hnI : nI ≤ maxLen) (hnW : nW ≤ maxLen) (hnC : nC ≤ maxLen) :
    Calls Try.prog 4 #[.agg (lA VA nV cV IA nI cI l), .slice WA nW cW, .slice CA nC cC] w fun e w' => e = .returned (.bool true) ∧ Below w.heap.size w w' := by
  have hb0 := (Below.refl w.heap.size w).alloc (Nat.le_refl _) (.cells (lA VA nV cV IA nI cI l) 27)
  have HB := Lib.hid hb0
  have HFW := Lib.hid (fun (U : World) (hU : Below w.heap.size w U) => Few_c (cV := cV) (cI := cI) (cW := cW) (cC := cC) (h.below hU) (hw.below hU) (hc.below hU) hnV hnI hnW hnC)
  have HFA := Lib.hid (fun (U : World) (hU : Below w.heap.size w U) => fault_c (cV := cV) (cI := cI) (cW := cW) (cC := cC) (h.below hU) (hw.below hU) (hc.below hU) hnV hnI hnW hnC)
  have HXX := Lib.hid (fun U hU => lA_cells (VA := VA) (IA := IA) (nV := nV) (nI := nI) (cV := cV) (cI := cI) (l := l) w (U := U) hU)
  have HL := Lib.hid h; have HW := Lib.hid hw; have HC := Lib.hid hc
  have HAW := Lib.hid (fun (U : World) => awake_c U)
  have HQ := Lib.hid (Below.refl (w.alloc (.cells (lA VA nV cV IA nI cI l) 27)).heap.size (w.alloc (.cells (lA VA nV cV IA nI cI l) 27)))
  rw [faultA_eq] at HFA
  clear h hw hc hb0
  go_enter Try.func4, Try.ntmps4
  go_wp2_with fail
  go_at_call 16
  refine (HFW.out _ HB.out).mono ?_
  rintro e w1 ⟨b, rfl, hbt, hb9⟩
  have t0 := below_tr HB.out hb9; have t1 := below_tr HQ.out hb9
  clear HB HQ
  have HB := Lib.hid t0; have HQ := Lib.hid t1
  clear t0 t1
  clear hb9 
  cases b
  · skip
    go_wp2_with fail
    go_at_call 18
    refine (HAW.out _).mono ?_
    rintro e w1 ⟨rfl, hb9⟩
    have t0 := below_tr HB.out hb9; have t1 := below_tr HQ.out hb9
    clear HB HQ
    have HB := Lib.hid t0; have HQ := Lib.hid t1
    clear t0 t1
    clear hb9 
    go_wp2_with fail
    go_ret
    exact ⟨rfl, HB.out⟩
  · obtain ⟨g1, g2, g3, g4⟩ := thin_len (hbt rfl)
    have hvl := HL.out.vols.len; have hil := HL.out.infl.len; have hwl := HW.out.len; have hcl := HC.out.len
    have HLK := Lib.hid (fun (U : World) (hU : Below w.heap.size w U) => LakeR_c (cV := cV) (cI := cI) (HL.out.below hU) (by omega) (by omega))
    have HWK := Lib.hid (fun (U : World) (hU : Below w.heap.size w U) => WorksR_c (c := cW) (HW.out.below hU) (by omega))
    have HLI := Lib.hid (fun (U : World) (hU : Below w.heap.size w U) => listR_c (c := cC) (HC.out.below hU) (by omega))
    clear g1 g2 g3 g4 hbt hvl hil hwl hcl
    by_cases hE : errA l ws c = 0
    · obtain ⟨hok, hwk, hcho⟩ := errA_zero.1 hE
      have HEN := Lib.hid (fun (U : World) (hU : Below w.heap.size w U) => rEnough_c (cV := cV) (cI := cI) (cW := cW) (cC := cC) (HL.out.below hU) (HW.out.below hU) (HC.out.below hU) hok hwk hcho)
      have HPB := Lib.hid (proveB_ok hE)
      rw [hE] at HFA
      clear hE hok hwk hcho
      obtain ⟨EN, hEN⟩ : ∃ EN, EN = enB l ws c := ⟨_, rfl⟩
      rw [← hEN] at HEN HPB
      clear hEN
      obtain ⟨x0, x1, x2, x3, x4, x5, x6, x7, x8, x9⟩ := HXX.out _ HQ.out
      cases EN
      · skip
        go_wp2_with fail
        go_at_call 17
        refine (HFA.out _ HB.out).mono ?_
        rintro e w1 ⟨rfl, hb9⟩
        have t0 := below_tr HB.out hb9; have t1 := below_tr HQ.out hb9
        clear HB HQ
        have HB := Lib.hid t0; have HQ := Lib.hid t1
        clear t0 t1
        clear hb9 
        clear x0 x1 x2 x3 x4 x5 x6 x7 x8 x9
        obtain ⟨x0, x1, x2, x3, x4, x5, x6, x7, x8, x9⟩ := HXX.out _ HQ.out
        go_wp2_with fail
        go_at_call 25
        refine (HEN.out _ HB.out).mono ?_
        rintro e w1 ⟨rfl, hb9⟩
        have t0 := below_tr HB.out hb9; have t1 := below_tr HQ.out hb9
        clear HB HQ
        have HB := Lib.hid t0; have HQ := Lib.hid t1
        clear t0 t1
        clear hb9 
        clear x0 x1 x2 x3 x4 x5 x6 x7 x8 x9
        obtain ⟨x0, x1, x2, x3, x4, x5, x6, x7, x8, x9⟩ := HXX.out _ HQ.out
        go_wp2_with fail
        go_at_call 20
        refine (HLK.out _ HB.out).mono ?_
        rintro e w1 ⟨VA', cV', IA', cI', rfl, hcv, hci, hrl, hb9⟩
        have t0 := below_tr HB.out hb9; have t1 := below_tr HQ.out hb9
        clear HB HQ
        have HB := Lib.hid t0; have HQ := Lib.hid t1
        clear t0 t1
        have HRL := Lib.hid hrl
        have HCV := Lib.hid hcv
        have HCI := Lib.hid hci
        clear hb9 hrl hcv hci
        clear x0 x1 x2 x3 x4 x5 x6 x7 x8 x9
        go_wp2_with fail
        go_at_call 21
        refine (HWK.out _ HB.out).mono ?_
        rintro e w1 ⟨WA', cW', rfl, hcw, hrw, hb9⟩
        have t0 := below_tr HB.out hb9; have t1 := below_tr HQ.out hb9; have t2 := HRL.out.below hb9
        clear HB HQ HRL
        have HB := Lib.hid t0; have HQ := Lib.hid t1; have HRL := Lib.hid t2
        clear t0 t1 t2
        have HRW := Lib.hid hrw
        have HCW := Lib.hid hcw
        clear hb9 hrw hcw
        go_wp2_with fail
        go_at_call 27
        refine (HLI.out _ HB.out).mono ?_
        rintro e w1 ⟨CA', cC', rfl, hcc, hrc, hb9⟩
        have t0 := below_tr HB.out hb9; have t1 := below_tr HQ.out hb9; have t2 := HRL.out.below hb9; have t3 := HRW.out.below hb9
        clear HB HQ HRL HRW
        have HB := Lib.hid t0; have HQ := Lib.hid t1; have HRL := Lib.hid t2; have HRW := Lib.hid t3
        clear t0 t1 t2 t3
        have HRC := Lib.hid hrc
        have HCC := Lib.hid hcc
        clear hb9 hrc hcc
        go_wp2_with fail
        go_at_call 26
        refine (HPB.out ▸ prove_c ⟨HRL.out, HRW.out, HRC.out⟩ HCV.out HCI.out hnV hnI hnW hnC).mono ?_
        rintro e w1 ⟨rfl, hb9⟩
        have t0 := below_tr HB.out hb9; have t1 := below_tr HQ.out hb9; have t2 := HRL.out.below hb9; have t3 := HRW.out.below hb9; have t4 := HRC.out.below hb9
        clear HB HQ HRL HRW HRC
        have HB := Lib.hid t0; have HQ := Lib.hid t1; have HRL := Lib.hid t2; have HRW := Lib.hid t3; have HRC := Lib.hid t4
        clear t0 t1 t2 t3 t4
        clear hb9 
        go_wp2_with fail
        go_at_call 18
        refine (HAW.out _).mono ?_
        rintro e w1 ⟨rfl, hb9⟩
        have t0 := below_tr HB.out hb9; have t1 := below_tr HQ.out hb9; have t2 := HRL.out.below hb9; have t3 := HRW.out.below hb9; have t4 := HRC.out.below hb9
        clear HB HQ HRL HRW HRC
        have HB := Lib.hid t0; have HQ := Lib.hid t1; have HRL := Lib.hid t2; have HRW := Lib.hid t3; have HRC := Lib.hid t4
        clear t0 t1 t2 t3 t4
        clear hb9 
        go_wp2_with fail
        go_ret
        exact ⟨rfl, HB.out⟩
      · skip
        go_wp2_with fail
        go_at_call 17
        refine (HFA.out _ HB.out).mono ?_
        rintro e w1 ⟨rfl, hb9⟩
        have t0 := below_tr HB.out hb9; have t1 := below_tr HQ.out hb9
        clear HB HQ
        have HB := Lib.hid t0; have HQ := Lib.hid t1
        clear t0 t1
        clear hb9 
        clear x0 x1 x2 x3 x4 x5 x6 x7 x8 x9
        obtain ⟨x0, x1, x2, x3, x4, x5, x6, x7, x8, x9⟩ := HXX.out _ HQ.out
        go_wp2_with fail
        go_at_call 25
        refine (HEN.out _ HB.out).mono ?_
        rintro e w1 ⟨rfl, hb9⟩
        have t0 := below_tr HB.out hb9; have t1 := below_tr HQ.out hb9
        clear HB HQ
        have HB := Lib.hid t0; have HQ := Lib.hid t1
        clear t0 t1
        clear hb9 
        clear x0 x1 x2 x3 x4 x5 x6 x7 x8 x9
        obtain ⟨x0, x1, x2, x3, x4, x5, x6, x7, x8, x9⟩ := HXX.out _ HQ.out
        go_wp2_with fail
        go_at_call 20
        refine (HLK.out _ HB.out).mono ?_
        rintro e w1 ⟨VA', cV', IA', cI', rfl, hcv, hci, hrl, hb9⟩
        have t0 := below_tr HB.out hb9; have t1 := below_tr HQ.out hb9
        clear HB HQ
        have HB := Lib.hid t0; have HQ := Lib.hid t1
        clear t0 t1
        have HRL := Lib.hid hrl
        have HCV := Lib.hid hcv
        have HCI := Lib.hid hci
        clear hb9 hrl hcv hci
        clear x0 x1 x2 x3 x4 x5 x6 x7 x8 x9
        go_wp2_with fail
        go_at_call 21
        refine (HWK.out _ HB.out).mono ?_
        rintro e w1 ⟨WA', cW', rfl, hcw, hrw, hb9⟩
        have t0 := below_tr HB.out hb9; have t1 := below_tr HQ.out hb9; have t2 := HRL.out.below hb9
        clear HB HQ HRL
        have HB := Lib.hid t0; have HQ := Lib.hid t1; have HRL := Lib.hid t2
        clear t0 t1 t2
        have HRW := Lib.hid hrw
        have HCW := Lib.hid hcw
        clear hb9 hrw hcw
        go_wp2_with fail
        go_at_call 27
        refine (HLI.out _ HB.out).mono ?_
        rintro e w1 ⟨CA', cC', rfl, hcc, hrc, hb9⟩
        have t0 := below_tr HB.out hb9; have t1 := below_tr HQ.out hb9; have t2 := HRL.out.below hb9; have t3 := HRW.out.below hb9
        clear HB HQ HRL HRW
        have HB := Lib.hid t0; have HQ := Lib.hid t1; have HRL := Lib.hid t2; have HRW := Lib.hid t3
        clear t0 t1 t2 t3
        have HRC := Lib.hid hrc
        have HCC := Lib.hid hcc
        clear hb9 hrc hcc
        go_wp2_with fail
        go_at_call 26
        refine (HPB.out ▸ prove_c ⟨HRL.out, HRW.out, HRC.out⟩ HCV.out HCI.out hnV hnI hnW hnC).mono ?_
        rintro e w1 ⟨rfl, hb9⟩
        have t0 := below_tr HB.out hb9; have t1 := below_tr HQ.out hb9; have t2 := HRL.out.below hb9; have t3 := HRW.out.below hb9; have t4 := HRC.out.below hb9
        clear HB HQ HRL HRW HRC
        have HB := Lib.hid t0; have HQ := Lib.hid t1; have HRL := Lib.hid t2; have HRW := Lib.hid t3; have HRC := Lib.hid t4
        clear t0 t1 t2 t3 t4
        clear hb9 
        go_wp2_with fail
        go_at_call 18
        refine (HAW.out _).mono ?_
        rintro e w1 ⟨rfl, hb9⟩
        have t0 := below_tr HB.out hb9; have t1 := below_tr HQ.out hb9; have t2 := HRL.out.below hb9; have t3 := HRW.out.below hb9; have t4 := HRC.out.below hb9
        clear HB HQ HRL HRW HRC
        have HB := Lib.hid t0; have HQ := Lib.hid t1; have HRL := Lib.hid t2; have HRW := Lib.hid t3; have HRC := Lib.hid t4
        clear t0 t1 t2 t3 t4
        clear hb9 
        go_wp2_with fail
        go_ret
        exact ⟨rfl, HB.out⟩
    · have h1' : (errA l ws c == 0) = false := by simpa using hE
      have HPB := Lib.hid (proveB_bad hE)
      clear hE
      obtain ⟨x0, x1, x2, x3, x4, x5, x6, x7, x8, x9⟩ := HXX.out _ HQ.out
      go_wp2_with fail
      go_at_call 17
      refine (HFA.out _ HB.out).mono ?_
      rintro e w1 ⟨rfl, hb9⟩
      have t0 := below_tr HB.out hb9; have t1 := below_tr HQ.out hb9
      clear HB HQ
      have HB := Lib.hid t0; have HQ := Lib.hid t1
      clear t0 t1
      clear hb9 
      clear x0 x1 x2 x3 x4 x5 x6 x7 x8 x9
      obtain ⟨x0, x1, x2, x3, x4, x5, x6, x7, x8, x9⟩ := HXX.out _ HQ.out
      go_wp2_with fail
      go_at_call 20
      refine (HLK.out _ HB.out).mono ?_
      rintro e w1 ⟨VA', cV', IA', cI', rfl, hcv, hci, hrl, hb9⟩
      have t0 := below_tr HB.out hb9; have t1 := below_tr HQ.out hb9
      clear HB HQ
      have HB := Lib.hid t0; have HQ := Lib.hid t1
      clear t0 t1
      have HRL := Lib.hid hrl
      have HCV := Lib.hid hcv
      have HCI := Lib.hid hci
      clear hb9 hrl hcv hci
      clear x0 x1 x2 x3 x4 x5 x6 x7 x8 x9
      go_wp2_with fail
      go_at_call 21
      refine (HWK.out _ HB.out).mono ?_
      rintro e w1 ⟨WA', cW', rfl, hcw, hrw, hb9⟩
      have t0 := below_tr HB.out hb9; have t1 := below_tr HQ.out hb9; have t2 := HRL.out.below hb9
      clear HB HQ HRL
      have HB := Lib.hid t0; have HQ := Lib.hid t1; have HRL := Lib.hid t2
      clear t0 t1 t2
      have HRW := Lib.hid hrw
      have HCW := Lib.hid hcw
      clear hb9 hrw hcw
      go_wp2_with fail
      go_at_call 27
      refine (HLI.out _ HB.out).mono ?_
      rintro e w1 ⟨CA', cC', rfl, hcc, hrc, hb9⟩
      have t0 := below_tr HB.out hb9; have t1 := below_tr HQ.out hb9; have t2 := HRL.out.below hb9; have t3 := HRW.out.below hb9
      clear HB HQ HRL HRW
      have HB := Lib.hid t0; have HQ := Lib.hid t1; have HRL := Lib.hid t2; have HRW := Lib.hid t3
      clear t0 t1 t2 t3
      have HRC := Lib.hid hrc
      have HCC := Lib.hid hcc
      clear hb9 hrc hcc
      go_wp2_with fail
      go_at_call 26
      refine (HPB.out ▸ prove_c ⟨HRL.out, HRW.out, HRC.out⟩ HCV.out HCI.out hnV hnI hnW hnC).mono ?_
      rintro e w1 ⟨rfl, hb9⟩
      have t0 := below_tr HB.out hb9; have t1 := below_tr HQ.out hb9; have t2 := HRL.out.below hb9; have t3 := HRW.out.below hb9; have t4 := HRC.out.below hb9
      clear HB HQ HRL HRW HRC
      have HB := Lib.hid t0; have HQ := Lib.hid t1; have HRL := Lib.hid t2; have HRW := Lib.hid t3; have HRC := Lib.hid t4
      clear t0 t1 t2 t3 t4
      clear hb9 
      go_wp2_with fail
      go_at_call 18
      refine (HAW.out _).mono ?_
      rintro e w1 ⟨rfl, hb9⟩
      have t0 := below_tr HB.out hb9; have t1 := below_tr HQ.out hb9; have t2 := HRL.out.below hb9; have t3 := HRW.out.below hb9; have t4 := HRC.out.below hb9
      clear HB HQ HRL HRW HRC
      have HB := Lib.hid t0; have HQ := Lib.hid t1; have HRL := Lib.hid t2; have HRW := Lib.hid t3; have HRC := Lib.hid t4
      clear t0 t1 t2 t3 t4
      clear hb9 
      go_wp2_with fail
      go_ret
      exact ⟨rfl, HB.out⟩
end
end Go.Proofs.Ytpijmfbpdglchaa
