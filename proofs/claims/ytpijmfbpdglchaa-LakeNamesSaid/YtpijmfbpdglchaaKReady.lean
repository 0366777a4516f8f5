/- CONTRACTS of the law's Thin, fault and ready. -/
import Derived.Test.YtpijmfbpdglchaaKRef2
set_option linter.unusedVariables false
set_option linter.unusedSimpArgs false
namespace Go.Proofs.Ytpijmfbpdglchaa
open Go.RowKit Go.Proofs
/-- the law's error of a lake, works and a choice -/
def faultA (l : Lak) (ws : List Wrk) (c : List Int) : Int := if errL l = 0 then (if errW ws = 0 then (if choB ws.length c = true then 0 else 2) else errW ws) else errL l
def thinA (l : Lak) (ws : List Wrk) (c : List Int) : Bool := decide (l.vols.length ≤ 35) && (decide (l.inflow.length ≤ 65) && (decide (ws.length ≤ 15) && decide (c.length ≤ 15)))
def readyB (l : Lak) (ws : List Wrk) (c : List Int) : Bool := thinA l ws c && decide (faultA l ws c = 0)
theorem readyB_iff {l : Lak} {ws : List Wrk} {c : List Int} : readyB l ws c = true ↔ thinA l ws c = true ∧ LOk l ∧ WOk ws ∧ choB ws.length c = true := by
  unfold readyB faultA
  rw [Bool.and_eq_true, decide_eq_true_eq, ← errL_zero, ← errW_zero]
  by_cases h1 : errL l = 0
  · by_cases h2 : errW ws = 0
    · by_cases h3 : choB ws.length c = true
      · simp [h1, h2, h3]
      · simp [h1, h2, h3]
    · simp [h1, h2]
  · simp [h1]
section
variable {VA IA WA CA : Option Addr} {nV nI cV cI nW cW nC cC : Nat} {l : Lak} {ws : List Wrk} {c : List Int} {w : World}
set_option maxRecDepth 100000 in
set_option maxHeartbeats 1000000 in
theorem Thin_c (hv : l.vols.length = nV) (hi : l.inflow.length = nI) (hw : ws.length = nW) (hc : c.length = nC) :
    Calls Try.prog 38 #[.agg (lA VA nV cV IA nI cI l), .slice WA nW cW, .slice CA nC cC] w fun e w' => e = .returned (.bool (thinA l ws c)) ∧ Below w.heap.size w w' := by
  have HB0 := Lib.hid ((Below.refl w.heap.size w).alloc (Nat.le_refl _) (.cells (lA VA nV cV IA nI cI l) 27))
  have hT : thinA l ws c = (decide (nV ≤ 35) && (decide (nI ≤ 65) && (decide (nW ≤ 15) && decide (nC ≤ 15)))) := by unfold thinA; rw [hv, hi, hw, hc]
  rw [hT]
  clear hT hv hi hw hc
  cases q1 : decide (nV ≤ 35)
  · have k1 : ¬ ((nV : Int) ≤ 35) := by have := of_decide_eq_false q1; omega
    go_enter Try.func38, Try.ntmps38
    go_wp2_with fail
    go_ret
    exact ⟨rfl, HB0.out⟩
  · have k1 : (nV : Int) ≤ 35 := by have := of_decide_eq_true q1; omega
    cases q2 : decide (nI ≤ 65)
    · have k2 : ¬ ((nI : Int) ≤ 65) := by have := of_decide_eq_false q2; omega
      go_enter Try.func38, Try.ntmps38
      go_wp2_with fail
      go_ret
      exact ⟨rfl, HB0.out⟩
    · have k2 : (nI : Int) ≤ 65 := by have := of_decide_eq_true q2; omega
      cases q3 : decide (nW ≤ 15)
      · have k3 : ¬ ((nW : Int) ≤ 15) := by have := of_decide_eq_false q3; omega
        go_enter Try.func38, Try.ntmps38
        go_wp2_with fail
        go_ret
        exact ⟨rfl, HB0.out⟩
      · have k3 : (nW : Int) ≤ 15 := by have := of_decide_eq_true q3; omega
        have k4 : decide ((nC : Int) ≤ 15) = decide (nC ≤ 15) := by simp only [decide_eq_decide]; omega
        go_enter Try.func38, Try.ntmps38
        go_wp2_with fail
        go_ret
        exact ⟨ret_bool (by simp), HB0.out⟩
set_option maxRecDepth 100000 in
set_option maxHeartbeats 1000000 in
theorem fault_c (h : RdL w VA nV IA nI l) (hw : Rd encW 3 w WA nW ws) (hc : Rd enc1 1 w CA nC c) (hnV : nV ≤ maxLen) (hnI : nI ≤ maxLen) (hnW : nW ≤ maxLen) (hnC : nC ≤ maxLen) :
    Calls Try.prog 17 #[.agg (lA VA nV cV IA nI cI l), .slice WA nW cW, .slice CA nC cC] w fun e w' => e = .returned (.int .i64 (faultA l ws c)) ∧ Below w.heap.size w w' := by
  have hb0 := (Below.refl w.heap.size w).alloc (Nat.le_refl _) (.cells (lA VA nV cV IA nI cI l) 27)
  have HB0 := Lib.hid hb0
  have HL := Lib.hid (rFault_c (cV := cV) (cI := cI) (h.below hb0) hnV hnI)
  have HW := Lib.hid (fun (U : World) (hU : Below w.heap.size w U) => rWorksFault_c (c := cW) (hw.below hU) hnW)
  have HC := Lib.hid (fun (U : World) (hU : Below w.heap.size w U) => rChoice_c (c := cW) (d := cC) (hw.below hU) (hc.below hU) hnW hnC)
  have HF := Lib.hid (show faultA l ws c = (if errL l = 0 then (if errW ws = 0 then (if choB ws.length c = true then 0 else 2) else errW ws) else errL l) from rfl)
  have HX := Lib.hid (Blk.new w 27 (lA VA nV cV IA nI cI l))
  clear h hw hc hb0
  obtain ⟨R, hR⟩ : ∃ R, R = faultA l ws c := ⟨_, rfl⟩
  rw [← hR] at HF ⊢
  clear hR
  obtain ⟨eL, heL⟩ : ∃ x, x = errL l := ⟨_, rfl⟩
  obtain ⟨eW, heW⟩ : ∃ x, x = errW ws := ⟨_, rfl⟩
  rw [← heL] at HL HF
  rw [← heW] at HW HF
  clear heL heW
  by_cases h1 : eL = 0
  · subst h1
    by_cases h2 : eW = 0
    · subst h2
      cases h3 : choB ws.length c
      all_goals
        rw [h3] at HC
        have HF2 := Lib.hid (HF.out); clear HF
        go_enter Try.func17, Try.ntmps17
        go_wp2_with (first | (go_at_call 34; refine HL.out.mono ?_; rintro e w1 ⟨rfl, hb1⟩; have HB1 := Lib.hid (below_tr HB0.out hb1); clear hb1) | (go_at_call 56; refine (HW.out _ HB1.out).mono ?_; rintro e w2 ⟨rfl, hb2⟩; have HB2 := Lib.hid (below_tr HB1.out hb2); clear hb2) | (go_at_call 29; refine (HC.out _ HB2.out).mono ?_; rintro e w3 ⟨rfl, hb3⟩; have HB3 := Lib.hid (below_tr HB2.out hb3); clear hb3))
        go_ret
        exact ⟨by rw [HF2.out]; simp [h3], HB3.out⟩
    · have h2' : (eW == 0) = false := by simpa using h2
      have HF2 := Lib.hid (show R = eW by rw [HF.out, if_pos rfl, if_neg h2]); clear HF
      go_enter Try.func17, Try.ntmps17
      go_wp2_with (first | (go_at_call 34; refine HL.out.mono ?_; rintro e w1 ⟨rfl, hb1⟩; have HB1 := Lib.hid (below_tr HB0.out hb1); clear hb1) | (go_at_call 56; refine (HW.out _ HB1.out).mono ?_; rintro e w2 ⟨rfl, hb2⟩; have HB2 := Lib.hid (below_tr HB1.out hb2); clear hb2))
      go_ret
      exact ⟨by rw [HF2.out]; rfl, HB2.out⟩
  · have h1' : (eL == 0) = false := by simpa using h1
    have HF2 := Lib.hid (show R = eL by rw [HF.out, if_neg h1]); clear HF
    go_enter Try.func17, Try.ntmps17
    go_wp2_with (first | (go_at_call 34; refine HL.out.mono ?_; rintro e w1 ⟨rfl, hb1⟩; have HB1 := Lib.hid (below_tr HB0.out hb1); clear hb1))
    go_ret
    exact ⟨by rw [HF2.out]; rfl, HB1.out⟩
set_option maxRecDepth 100000 in
set_option maxHeartbeats 1000000 in
theorem ready_c (h : RdL w VA nV IA nI l) (hw : Rd encW 3 w WA nW ws) (hc : Rd enc1 1 w CA nC c) (hnV : nV ≤ maxLen) (hnI : nI ≤ maxLen) (hnW : nW ≤ maxLen) (hnC : nC ≤ maxLen) :
    Calls Try.prog 28 #[.agg (lA VA nV cV IA nI cI l), .slice WA nW cW, .slice CA nC cC] w fun e w' => e = .returned (.bool (readyB l ws c)) ∧ Below w.heap.size w w' := by
  have hb0 := (Below.refl w.heap.size w).alloc (Nat.le_refl _) (.cells (lA VA nV cV IA nI cI l) 27)
  have HB0 := Lib.hid hb0
  have HT := Lib.hid (fun (U : World) => Thin_c (w := U) (VA := VA) (IA := IA) (WA := WA) (CA := CA) (cV := cV) (cI := cI) (cW := cW) (cC := cC) h.vols.len h.infl.len hw.len hc.len)
  have HF := Lib.hid (fun (U : World) (hU : Below w.heap.size w U) => fault_c (cV := cV) (cI := cI) (cW := cW) (cC := cC) (h.below hU) (hw.below hU) (hc.below hU) hnV hnI hnW hnC)
  have HXX := Lib.hid (fun U hU => lA_cells (VA := VA) (IA := IA) (nV := nV) (nI := nI) (cV := cV) (cI := cI) (l := l) w (U := U) hU)
  have HR := Lib.hid (show readyB l ws c = (thinA l ws c && decide (faultA l ws c = 0)) from rfl)
  obtain ⟨R, hR⟩ : ∃ R, R = readyB l ws c := ⟨_, rfl⟩
  rw [← hR] at HR ⊢
  clear hR h hw hc hb0
  obtain ⟨eF, heF⟩ : ∃ x, x = faultA l ws c := ⟨_, rfl⟩
  rw [← heF] at HF HR
  clear heF
  cases q1 : thinA l ws c
  all_goals
    rw [q1] at HT HR
    have HR2 := Lib.hid HR.out; clear HR
    go_enter Try.func28, Try.ntmps28
    go_wp2_with (first | (go_at_call 38; refine (HT.out _).mono ?_; rintro e w1 ⟨rfl, hb1⟩; have HB1 := Lib.hid hb1; clear hb1; obtain ⟨x0, x1, x2, x3, x4, x5, x6, x7, x8, x9⟩ := HXX.out _ HB1.out) | (go_at_call 17; refine (HF.out _ (below_tr HB0.out HB1.out)).mono ?_; rintro e w2 ⟨rfl, hb2⟩; have HB2 := Lib.hid (below_tr (below_tr HB0.out HB1.out) hb2); clear hb2))
    go_ret
  · exact ⟨ret_bool (by rw [HR2.out]; rfl), below_tr HB0.out HB1.out⟩
  · exact ⟨ret_bool (by rw [HR2.out, Bool.true_and]; by_cases hz : eF = 0 <;> simp [hz]), HB2.out⟩
end
end Go.Proofs.Ytpijmfbpdglchaa
