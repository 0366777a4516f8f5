/- THE WALK of LakeCheapest. -/
import Derived.Test.YtpijmfbpdglchaaKFew
import Derived.Test.YtpijmfbpdglchaaKFault2
import Derived.Test.YtpijmfbpdglchaaKConv
import Derived.Test.YtpijmfbpdglchaaKAwake
import Derived.Test.YtpijmfbpdglchaaKCheap
import Derived.Test.YtpijmfbpdglchaaKRCheap
set_option linter.unusedVariables false
set_option linter.unusedSimpArgs false
namespace Go.Proofs.Ytpijmfbpdglchaa
open Go.RowKit Go.Proofs
attribute [local go_sem ↓] Go.wp_at_zero Go.wp_at_succ
section
variable {VA IA WA : Option Addr} {nV nI nW cV cI cW : Nat} {l : Lak} {ws : List Wrk} {w : World}
set_option linter.unusedSimpArgs false in
set_option maxRecDepth 100000 in
set_option maxHeartbeats 2000000 in
theorem Cheapest_e (hL : RdL w VA nV IA nI l) (hW : Rd encW 3 w WA nW ws) (hcV : nV ≤ cV) (hcI : nI ≤ cI) (hnV : nV ≤ maxLen) (hnI : nI ≤ maxLen) (hnW : nW ≤ maxLen) {E : Int} (hE : E = errA l ws []) (hE0 : E ≠ 0) :
    Calls Try.prog 19 #[.agg (lA VA nV cV IA nI cI l), .slice WA nW cW] w fun e w' => e = .returned (.tuple #[.slice none 0 0, .int .i64 0, .int .i64 E]) ∧ Below w.heap.size w w' := by
  have hP : RdP w VA nV IA nI l WA nW ws none 0 [] := ⟨hL, hW, Rd.nil _ _ _ _⟩
  have hb := (Below.refl w.heap.size w).alloc (Nat.le_refl _) (.cells (lA VA nV cV IA nI cI l) 38)
  have HC := Lib.hid (worked_c (cV := cV) (cI := cI) (cW := cW) (cC := 0) (hP.below hb) hcV hcI hnV hnI hnW (by unfold maxLen; omega))
  rw [← hE] at HC
  have hX := Blk.new w 38 (lA VA nV cV IA nI cI l)
  have HXL := Lib.hid (blk_lA hX)
  have HB := Lib.hid hb
  have hn1 : (E != 0) = true := by simpa using hE0
  have hn2 : (E == 0) = false := by simpa using hE0
  clear hL hW hP hb hX hE hE0
  obtain ⟨x0, x1, x2, x3, x4, x5, x6, x7, x8, x9⟩ := HXL.out
  go_enter Try.func19, Try.ntmps19
  go_wp2_with fail
  go_at_call 57
  refine (HC.out).mono ?_
  rintro e w1 ⟨rfl, hb9⟩
  have t0 := below_tr HB.out hb9
  clear HB
  have HB := Lib.hid t0
  clear t0
  clear hb9 
  clear x0 x1 x2 x3 x4 x5 x6 x7 x8 x9
  go_wp2_with fail
  go_ret3
  exact ⟨rfl, HB.out⟩
set_option linter.unusedSimpArgs false in
set_option maxRecDepth 100000 in
set_option maxHeartbeats 8000000 in
theorem LakeCheapest_w (h : RdL w VA nV IA nI l) (hw : Rd encW 3 w WA nW ws) (hnV : nV ≤ maxLen) (hnI : nI ≤ maxLen) (hnW : nW ≤ maxLen) :
    Calls Try.prog 3 #[.agg (lA VA nV cV IA nI cI l), .slice WA nW cW] w fun e w' => e = .returned (.bool true) ∧ Below w.heap.size w w' := by
  have hb0 := (Below.refl w.heap.size w).alloc (Nat.le_refl _) (.cells (lA VA nV cV IA nI cI l) 27)
  have HB := Lib.hid hb0
  have HFW := Lib.hid (fun (U : World) (hU : Below w.heap.size w U) => Few_c (c := []) (CA := none) (cV := cV) (cI := cI) (cW := cW) (cC := 0) (h.below hU) (hw.below hU) (Rd.nil _ _ _ _) hnV hnI hnW (by unfold maxLen; omega))
  have HFA := Lib.hid (fun (U : World) (hU : Below w.heap.size w U) => fault_c (c := []) (CA := none) (cV := cV) (cI := cI) (cW := cW) (cC := 0) (h.below hU) (hw.below hU) (Rd.nil _ _ _ _) hnV hnI hnW (by unfold maxLen; omega))
  have HXX := Lib.hid (fun U hU => lA_cells (VA := VA) (IA := IA) (nV := nV) (nI := nI) (cV := cV) (cI := cI) (l := l) w (U := U) hU)
  have HL := Lib.hid h; have HW := Lib.hid hw
  have HAW := Lib.hid (fun (U : World) => awake_c U)
  have HQ := Lib.hid (Below.refl (w.alloc (.cells (lA VA nV cV IA nI cI l) 27)).heap.size (w.alloc (.cells (lA VA nV cV IA nI cI l) 27)))
  rw [faultA_eq] at HFA
  clear h hw hb0
  go_enter Try.func3, Try.ntmps3
  obtain ⟨x0, x1, x2, x3, x4, x5, x6, x7, x8, x9⟩ := HXX.out _ HQ.out
  go_wp2_with fail
  go_at_call 16
  refine (HFW.out _ HB.out).mono ?_
  rintro e w1 ⟨b, rfl, hbt, hb9⟩
  have t0 := below_tr HB.out hb9; have t1 := below_tr HQ.out hb9
  clear HB HQ
  have HB := Lib.hid t0; have HQ := Lib.hid t1
  clear t0 t1
  clear hb9 
  clear x0 x1 x2 x3 x4 x5 x6 x7 x8 x9
  cases b
  · as_aux_lemma =>
    go_wp2_with fail
    go_at_call 18
    refine (HAW.out _).mono ?_
    rintro e w1 ⟨rfl, hb9⟩
    have t0 := below_tr HB.out hb9; have t1 := below_tr HQ.out hb9
    clear HB HQ
    have HB := Lib.hid t0; have HQ := Lib.hid t1
    clear t0 t1
    clear hb9 
    go_wp2_with fail
    go_ret
    exact ⟨rfl, HB.out⟩
  · as_aux_lemma =>
    obtain ⟨g1, g2, g3, g4⟩ := thin_len (hbt rfl)
    have hvl := HL.out.vols.len; have hil := HL.out.infl.len; have hwl := HW.out.len
    have HLK := Lib.hid (fun (U : World) (hU : Below w.heap.size w U) => LakeR_c (cV := cV) (cI := cI) (HL.out.below hU) (by omega) (by omega))
    have HWK := Lib.hid (fun (U : World) (hU : Below w.heap.size w U) => WorksR_c (c := cW) (HW.out.below hU) (by omega))
    have hnW2 : nW ≤ 15 := by omega
    clear g1 g2 g3 g4 hbt hvl hwl hil
    obtain ⟨E, hE⟩ : ∃ E, E = errA l ws [] := ⟨_, rfl⟩
    rw [← hE] at HFA
    have HE := Lib.hid hE
    clear hE
    by_cases hE0 : E = 0
    · subst hE0
      obtain ⟨hok, hwk, hcho⟩ := errA_zero.1 HE.out.symm
      obtain ⟨x0, x1, x2, x3, x4, x5, x6, x7, x8, x9⟩ := HXX.out _ HQ.out
      go_wp2_with fail
      go_at_call 17
      refine (HFA.out _ HB.out).mono ?_
      rintro e w1 ⟨rfl, hb9⟩
      have t0 := below_tr HB.out hb9; have t1 := below_tr HQ.out hb9
      clear HB HQ
      have HB := Lib.hid t0; have HQ := Lib.hid t1
      clear t0 t1
      clear hb9 
      clear x0 x1 x2 x3 x4 x5 x6 x7 x8 x9
      by_cases h4 : nW ≤ 4
      · as_aux_lemma =>
        have h4' : ¬ (4 : Int) < (nW : Int) := by omega
        have HOK := Lib.hid hok; have HWO := Lib.hid hwk
        clear hok hwk hcho
        obtain ⟨x0, x1, x2, x3, x4, x5, x6, x7, x8, x9⟩ := HXX.out _ HQ.out
        go_wp2_with fail
        go_at_call 20
        refine (HLK.out _ HB.out).mono ?_
        rintro e w1 ⟨VA', cV', IA', cI', rfl, hcv, hci, hrl, hb9⟩
        have t0 := below_tr HB.out hb9; have t1 := below_tr HQ.out hb9
        clear HB HQ
        have HB := Lib.hid t0; have HQ := Lib.hid t1
        clear t0 t1
        have HRL := Lib.hid hrl
        have HCV := Lib.hid hcv
        have HCI := Lib.hid hci
        clear hb9 hrl hcv hci
        clear x0 x1 x2 x3 x4 x5 x6 x7 x8 x9
        go_wp2_with fail
        go_at_call 21
        refine (HWK.out _ HB.out).mono ?_
        rintro e w1 ⟨WA', cW', rfl, hcw, hrw, hb9⟩
        have t0 := below_tr HB.out hb9; have t1 := below_tr HQ.out hb9; have t2 := HRL.out.below hb9
        clear HB HQ HRL
        have HB := Lib.hid t0; have HQ := Lib.hid t1; have HRL := Lib.hid t2
        clear t0 t1 t2
        have HRW := Lib.hid hrw
        have HCW := Lib.hid hcw
        clear hb9 hrw hcw
        go_wp2_with fail
        go_at_call 19
        refine (Cheapest_c HRL.out HRW.out HCV.out HCI.out HOK.out HWO.out).mono ?_
        rintro e w1 ⟨hche, hb9⟩
        have t0 := below_tr HB.out hb9; have t1 := below_tr HQ.out hb9; have t2 := HRL.out.below hb9; have t3 := HRW.out.below hb9
        clear HB HQ HRL HRW
        have HB := Lib.hid t0; have HQ := Lib.hid t1; have HRL := Lib.hid t2; have HRW := Lib.hid t3
        clear t0 t1 t2 t3
        clear hb9 
        clear HRL HRW
        clear HCV HCI HCW
        rcases hche with ⟨A, n, cc, b, rfl, hn10, hrb, hbest⟩ | ⟨hno, rfl⟩
        · as_aux_lemma =>
          have HRB := Lib.hid hrb; have HBE := Lib.hid hbest
          clear hrb hbest
          obtain ⟨x0, x1, x2, x3, x4, x5, x6, x7, x8, x9⟩ := HXX.out _ HQ.out
          go_wp2_with fail
          go_at_call 17
          refine (HFA.out _ HB.out).mono ?_
          rintro e w1 ⟨rfl, hb9⟩
          have t0 := below_tr HB.out hb9; have t1 := below_tr HQ.out hb9; have t2 := HRB.out.below hb9
          clear HB HQ HRB
          have HB := Lib.hid t0; have HQ := Lib.hid t1; have HRB := Lib.hid t2
          clear t0 t1 t2
          clear hb9 
          clear x0 x1 x2 x3 x4 x5 x6 x7 x8 x9
          obtain ⟨x0, x1, x2, x3, x4, x5, x6, x7, x8, x9⟩ := HXX.out _ HQ.out
          go_wp2_with fail
          go_at_call 22
          refine (rCheapest_c (cV := cV) (cI := cI) (cW := cW) (HL.out.below HB.out) (HW.out.below HB.out) HOK.out HWO.out).mono ?_
          rintro e w1 ⟨hche, hb9⟩
          have t0 := below_tr HB.out hb9; have t1 := below_tr HQ.out hb9; have t2 := HRB.out.below hb9
          clear HB HQ HRB
          have HB := Lib.hid t0; have HQ := Lib.hid t1; have HRB := Lib.hid t2
          clear t0 t1 t2
          clear hb9 
          clear x0 x1 x2 x3 x4 x5 x6 x7 x8 x9
          rcases hche with ⟨A', n', c', b', rfl, hn', hrb', hbest'⟩ | ⟨hno, A', n', c', rfl⟩
          · obtain rfl := HBE.out.uniq hbest'
            have HRB2 := Lib.hid hrb'
            clear hrb' hbest'
            have HPR := Lib.hid (fun (U : World) (hU : Below w.heap.size w U) (hr : Rd enc1 1 U A' n' b) => rPrice_c (cp := cW) (d := c') (HW.out.below hU) hr HWO.out HBE.out.cho hn')
            obtain ⟨P, hP⟩ : ∃ P, P = priceC ws b := ⟨_, rfl⟩
            rw [← hP] at HPR ⊢
            clear hP
            go_wp2_with fail
            go_at_call 23
            refine (ints_c HRB.out HRB2.out (by omega)).mono ?_
            rintro e w1 ⟨rfl, hb9⟩
            have t0 := below_tr HB.out hb9; have t1 := below_tr HQ.out hb9; have t2 := HRB.out.below hb9; have t3 := HRB2.out.below hb9
            clear HB HQ HRB HRB2
            have HB := Lib.hid t0; have HQ := Lib.hid t1; have HRB := Lib.hid t2; have HRB2 := Lib.hid t3
            clear t0 t1 t2 t3
            clear hb9 
            rw [show decide (b = b) = true from by simp]
            go_wp2_with fail
            go_at_call 24
            refine (HPR.out _ HB.out HRB2.out).mono ?_
            rintro e w1 ⟨rfl, hb9⟩
            have t0 := below_tr HB.out hb9; have t1 := below_tr HQ.out hb9; have t2 := HRB.out.below hb9; have t3 := HRB2.out.below hb9
            clear HB HQ HRB HRB2
            have HB := Lib.hid t0; have HQ := Lib.hid t1; have HRB := Lib.hid t2; have HRB2 := Lib.hid t3
            clear t0 t1 t2 t3
            clear hb9 
            go_wp2_with fail
            go_at_call 18
            refine (HAW.out _).mono ?_
            rintro e w1 ⟨rfl, hb9⟩
            have t0 := below_tr HB.out hb9; have t1 := below_tr HQ.out hb9; have t2 := HRB.out.below hb9; have t3 := HRB2.out.below hb9
            clear HB HQ HRB HRB2
            have HB := Lib.hid t0; have HQ := Lib.hid t1; have HRB := Lib.hid t2; have HRB2 := Lib.hid t3
            clear t0 t1 t2 t3
            clear hb9 
            go_wp2_with fail
            go_ret
            exact ⟨rfl, HB.out⟩
          · have := hno b HBE.out.cho
            rw [HBE.out.en] at this; cases this
        · as_aux_lemma =>
          have HNO := Lib.hid hno
          clear hno
          obtain ⟨x0, x1, x2, x3, x4, x5, x6, x7, x8, x9⟩ := HXX.out _ HQ.out
          go_wp2_with fail
          go_at_call 17
          refine (HFA.out _ HB.out).mono ?_
          rintro e w1 ⟨rfl, hb9⟩
          have t0 := below_tr HB.out hb9; have t1 := below_tr HQ.out hb9
          clear HB HQ
          have HB := Lib.hid t0; have HQ := Lib.hid t1
          clear t0 t1
          clear hb9 
          clear x0 x1 x2 x3 x4 x5 x6 x7 x8 x9
          obtain ⟨x0, x1, x2, x3, x4, x5, x6, x7, x8, x9⟩ := HXX.out _ HQ.out
          go_wp2_with fail
          go_at_call 22
          refine (rCheapest_c (cV := cV) (cI := cI) (cW := cW) (HL.out.below HB.out) (HW.out.below HB.out) HOK.out HWO.out).mono ?_
          rintro e w1 ⟨hche, hb9⟩
          have t0 := below_tr HB.out hb9; have t1 := below_tr HQ.out hb9
          clear HB HQ
          have HB := Lib.hid t0; have HQ := Lib.hid t1
          clear t0 t1
          clear hb9 
          clear x0 x1 x2 x3 x4 x5 x6 x7 x8 x9
          rcases hche with ⟨A', n', c', b', rfl, hn', hrb', hbest'⟩ | ⟨_, A', n', c', rfl⟩
          · have := HNO.out b' hbest'.cho
            rw [hbest'.en] at this; cases this
          · skip
            go_wp2_with fail
            go_at_call 18
            refine (HAW.out _).mono ?_
            rintro e w1 ⟨rfl, hb9⟩
            have t0 := below_tr HB.out hb9; have t1 := below_tr HQ.out hb9
            clear HB HQ
            have HB := Lib.hid t0; have HQ := Lib.hid t1
            clear t0 t1
            clear hb9 
            go_wp2_with fail
            go_ret
            exact ⟨rfl, HB.out⟩
      · as_aux_lemma =>
        have h4' : (4 : Int) < (nW : Int) := by omega
        go_wp2_with fail
        go_at_call 18
        refine (HAW.out _).mono ?_
        rintro e w1 ⟨rfl, hb9⟩
        have t0 := below_tr HB.out hb9
        clear HB
        have HB := Lib.hid t0
        clear t0
        clear hb9 
        go_wp2_with fail
        go_ret
        exact ⟨rfl, HB.out⟩
    · as_aux_lemma =>
      have hn1 : (E != 0) = true := by simpa using hE0
      have hn2 : (E == E) = true := by simp
      have hn3 : (E == 0) = false := by simpa using hE0
      obtain ⟨x0, x1, x2, x3, x4, x5, x6, x7, x8, x9⟩ := HXX.out _ HQ.out
      go_wp2_with fail
      go_at_call 17
      refine (HFA.out _ HB.out).mono ?_
      rintro e w1 ⟨rfl, hb9⟩
      have t0 := below_tr HB.out hb9; have t1 := below_tr HQ.out hb9
      clear HB HQ
      have HB := Lib.hid t0; have HQ := Lib.hid t1
      clear t0 t1
      clear hb9 
      clear x0 x1 x2 x3 x4 x5 x6 x7 x8 x9
      obtain ⟨x0, x1, x2, x3, x4, x5, x6, x7, x8, x9⟩ := HXX.out _ HQ.out
      go_wp2_with fail
      go_at_call 20
      refine (HLK.out _ HB.out).mono ?_
      rintro e w1 ⟨VA', cV', IA', cI', rfl, hcv, hci, hrl, hb9⟩
      have t0 := below_tr HB.out hb9; have t1 := below_tr HQ.out hb9
      clear HB HQ
      have HB := Lib.hid t0; have HQ := Lib.hid t1
      clear t0 t1
      have HRL := Lib.hid hrl
      have HCV := Lib.hid hcv
      have HCI := Lib.hid hci
      clear hb9 hrl hcv hci
      clear x0 x1 x2 x3 x4 x5 x6 x7 x8 x9
      go_wp2_with fail
      go_at_call 21
      refine (HWK.out _ HB.out).mono ?_
      rintro e w1 ⟨WA', cW', rfl, hcw, hrw, hb9⟩
      have t0 := below_tr HB.out hb9; have t1 := below_tr HQ.out hb9; have t2 := HRL.out.below hb9
      clear HB HQ HRL
      have HB := Lib.hid t0; have HQ := Lib.hid t1; have HRL := Lib.hid t2
      clear t0 t1 t2
      have HRW := Lib.hid hrw
      have HCW := Lib.hid hcw
      clear hb9 hrw hcw
      go_wp2_with fail
      go_at_call 19
      refine (Cheapest_e HRL.out HRW.out HCV.out HCI.out hnV hnI hnW HE.out hE0).mono ?_
      rintro e w1 ⟨rfl, hb9⟩
      have t0 := below_tr HB.out hb9; have t1 := below_tr HQ.out hb9; have t2 := HRL.out.below hb9; have t3 := HRW.out.below hb9
      clear HB HQ HRL HRW
      have HB := Lib.hid t0; have HQ := Lib.hid t1; have HRL := Lib.hid t2; have HRW := Lib.hid t3
      clear t0 t1 t2 t3
      clear hb9 
      clear HRL HRW
      clear HCV HCI HCW
      obtain ⟨x0, x1, x2, x3, x4, x5, x6, x7, x8, x9⟩ := HXX.out _ HQ.out
      go_wp2_with fail
      go_at_call 17
      refine (HFA.out _ HB.out).mono ?_
      rintro e w1 ⟨rfl, hb9⟩
      have t0 := below_tr HB.out hb9; have t1 := below_tr HQ.out hb9
      clear HB HQ
      have HB := Lib.hid t0; have HQ := Lib.hid t1
      clear t0 t1
      clear hb9 
      clear x0 x1 x2 x3 x4 x5 x6 x7 x8 x9
      go_wp2_with fail
      go_at_call 18
      refine (HAW.out _).mono ?_
      rintro e w1 ⟨rfl, hb9⟩
      have t0 := below_tr HB.out hb9; have t1 := below_tr HQ.out hb9
      clear HB HQ
      have HB := Lib.hid t0; have HQ := Lib.hid t1
      clear t0 t1
      clear hb9 
      go_wp2_with fail
      go_ret
      exact ⟨rfl, HB.out⟩
end
end Go.Proofs.Ytpijmfbpdglchaa
