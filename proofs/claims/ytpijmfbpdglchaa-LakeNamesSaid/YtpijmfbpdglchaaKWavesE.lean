/- CONTRACT of Waves at what is not valid. -/
import Derived.Test.YtpijmfbpdglchaaKWaves
import Derived.Test.YtpijmfbpdglchaaKHoused
import Derived.Test.YtpijmfbpdglchaaKReal
set_option linter.unusedVariables false
set_option linter.unusedSimpArgs false
namespace Go.Proofs.Ytpijmfbpdglchaa
open Go.RowKit Go.Proofs
attribute [local go_sem ↓] Go.wp_at_zero Go.wp_at_succ
section
variable {VA IA WA CA HA : Option Addr} {nV nI nW nC nH cV cI cW cC cH : Nat} {l : Lak} {ws : List Wrk} {c : List Int} {r : Riv} {hs : List Hou} {w : World}
set_option linter.unusedSimpArgs false in
set_option maxRecDepth 100000 in
set_option maxHeartbeats 8000000 in
theorem Waves_e (hL : RdL w VA nV IA nI l) (hW : Rd encW 3 w WA nW ws) (hC : Rd enc1 1 w CA nC c) (hH : Rd encH 3 w HA nH hs) (hcV : nV ≤ cV) (hcI : nI ≤ cI) (hnV : nV ≤ maxLen) (hnI : nI ≤ maxLen) (hnW : nW ≤ maxLen) (hnC : nC ≤ maxLen) (hnH : nH ≤ maxLen)
    {E : Int} (hE : E = if errA l ws c ≠ 0 then errA l ws c else errH r hs) (hE0 : E ≠ 0) :
    Calls Try.prog 43 #[.agg (lA VA nV cV IA nI cI l), .slice WA nW cW, .slice CA nC cC, .agg (rA r), .slice HA nH cH] w fun e w' => e = .returned (.tuple #[.slice none 0 0, .int .i64 E]) ∧ Below w.heap.size w w' := by
  have hhl := hH.len
  obtain ⟨W, hWW⟩ : ∃ W, W = ((w.alloc (.cells (lA VA nV cV IA nI cI l) 38)).alloc (.cells (rA r) 90)) := ⟨_, rfl⟩
  have hb : Below w.heap.size w W := by rw [hWW]; exact ((Below.refl _ _).alloc (Nat.le_refl _) _).alloc (by simp) _
  have hB1 := (Blk.new w 38 (lA VA nV cV IA nI cI l)).alloc (.cells (rA r) 90)
  have hB2 := Blk.new (w.alloc (.cells (lA VA nV cV IA nI cI l) 38)) 90 (rA r)
  simp only [World.size_alloc] at hB2
  rw [← hWW] at hB1 hB2
  have HWK := Lib.hid (fun (U : World) (hU : Below w.heap.size w U) => worked_c (cV := cV) (cI := cI) (cW := cW) (cC := cC) ((RdP.mk hL hW hC).below hU) hcV hcI hnV hnI hnW hnC)
  have HAL := Lib.hid (fun (U : World) (hU : Below w.heap.size w U) => allHou_c (c := cH) (p := okH) U (hH.below hU) hnH (fun i x W' _ _ => house_c x W'))
  have HWI := Lib.hid (within_c r.loss 0 1000000); have HUP := Lib.hid (upto_c r.pace 60)
  have HXL := Lib.hid (fun (U : World) (hU : Below W.heap.size W U) => blk_lA (hB1.below hU hB1.lt))
  have HXR := Lib.hid (fun (U : World) (hU : Below W.heap.size W U) => hB2.below hU hB2.lt)
  have HWW := Lib.hid hWW; have HB := Lib.hid hb; have HQ := Lib.hid (Below.refl W.heap.size W)
  obtain ⟨A, hA⟩ : ∃ A, A = errA l ws c := ⟨_, rfl⟩
  rw [← hA] at HWK hE
  have HH1 := Lib.hid (errH_a (r := r) (hs := hs)); have HH2 := Lib.hid (errH_b (r := r) (hs := hs)); have HH3 := Lib.hid (errH_c (r := r) (hs := hs))
  have HOK := Lib.hid (show okRi r = (inB r.loss 0 1000000 && upB r.pace 60) from rfl)
  unfold maxLen at hnH
  clear hL hW hC hH hb hB1 hB2 hWW hA
  by_cases hA0 : A = 0
  · subst hA0
    simp only [ne_eq, not_true_eq_false, if_false] at hE
    by_cases h20 : 20 < hs.length
    · rw [HH1.out h20] at hE
      subst hE
      have h20' : (20 : Int) < (nH : Int) := by omega
      clear hE0 h20
      go_enter Try.func43, Try.ntmps43
      go_upto_region 1 with fail
      rw [← HWW.out]
      obtain ⟨x0, x1, x2, x3, x4, x5, x6, x7, x8, x9⟩ := HXL.out _ HQ.out
      go_wp2_with fail
      go_at_call 57
      refine (HWK.out _ HB.out).mono ?_
      rintro e w1 ⟨rfl, hb9⟩
      have t0 := below_tr HB.out hb9; have t1 := below_tr HQ.out hb9
      clear HB HQ
      have HB := Lib.hid t0; have HQ := Lib.hid t1
      clear t0 t1
      clear hb9 
      clear x0 x1 x2 x3 x4 x5 x6 x7 x8 x9
      go_wp2_with fail
      go_ret2
      exact ⟨rfl, HB.out⟩
    · have h20' : ¬ (20 : Int) < (nH : Int) := by omega
      obtain rfl : E = 1 := by
        cases ha : allB okH hs
        · rw [HH2.out h20 ha] at hE; exact hE
        · rw [HH3.out h20 ha] at hE
          cases ho : okRi r
          · rw [ho] at hE; simpa using hE
          · rw [ho] at hE; simp at hE; exact absurd hE hE0
      have HNO := Lib.hid (show inB r.loss 0 1000000 = true → upB r.pace 60 = true → allB okH hs = true → False from fun h1 h2 h3 => by
        rw [HH3.out h20 h3, HOK.out, h1, h2] at hE; simp at hE)
      clear hE hE0 h20
      cases q1 : inB r.loss 0 1000000
      · rw [q1] at HWI
        clear q1
        go_enter Try.func43, Try.ntmps43
        go_upto_region 1 with fail
        rw [← HWW.out]
        obtain ⟨x0, x1, x2, x3, x4, x5, x6, x7, x8, x9⟩ := HXL.out _ HQ.out
        go_wp2_with fail
        go_at_call 57
        refine (HWK.out _ HB.out).mono ?_
        rintro e w1 ⟨rfl, hb9⟩
        have t0 := below_tr HB.out hb9; have t1 := below_tr HQ.out hb9
        clear HB HQ
        have HB := Lib.hid t0; have HQ := Lib.hid t1
        clear t0 t1
        clear hb9 
        clear x0 x1 x2 x3 x4 x5 x6 x7 x8 x9
        have y0 := (HXR.out _ HQ.out).cell 0; have y1 := (HXR.out _ HQ.out).cell 1; have y2 := (HXR.out _ HQ.out).cell 2
        simp at y0 y1 y2
        go_wp2_with fail
        go_at_call 78
        refine (HWI.out _).mono ?_
        rintro e w2 ⟨rfl, rfl⟩
        go_wp2_with fail
        go_ret2
        exact ⟨rfl, HB.out⟩
      · cases q2 : upB r.pace 60
        · rw [q1] at HWI
          rw [q2] at HUP
          clear q1 q2
          go_enter Try.func43, Try.ntmps43
          go_upto_region 1 with fail
          rw [← HWW.out]
          obtain ⟨x0, x1, x2, x3, x4, x5, x6, x7, x8, x9⟩ := HXL.out _ HQ.out
          go_wp2_with fail
          go_at_call 57
          refine (HWK.out _ HB.out).mono ?_
          rintro e w1 ⟨rfl, hb9⟩
          have t0 := below_tr HB.out hb9; have t1 := below_tr HQ.out hb9
          clear HB HQ
          have HB := Lib.hid t0; have HQ := Lib.hid t1
          clear t0 t1
          clear hb9 
          clear x0 x1 x2 x3 x4 x5 x6 x7 x8 x9
          have y0 := (HXR.out _ HQ.out).cell 0; have y1 := (HXR.out _ HQ.out).cell 1; have y2 := (HXR.out _ HQ.out).cell 2
          simp at y0 y1 y2
          go_wp2_with fail
          go_at_call 78
          refine (HWI.out _).mono ?_
          rintro e w2 ⟨rfl, rfl⟩
          go_wp2_with fail
          go_at_call 79
          refine (HUP.out _).mono ?_
          rintro e w1 ⟨rfl, hb9⟩
          have t0 := below_tr HB.out hb9; have t1 := below_tr HQ.out hb9
          clear HB HQ
          have HB := Lib.hid t0; have HQ := Lib.hid t1
          clear t0 t1
          clear hb9 
          go_wp2_with fail
          go_ret2
          exact ⟨rfl, HB.out⟩
        · obtain q3 : allB okH hs = false := by
            cases h : allB okH hs
            · rfl
            · exact (HNO.out q1 q2 h).elim
          rw [q1] at HWI
          rw [q2] at HUP
          rw [q3] at HAL
          clear q1 q2 q3
          go_enter Try.func43, Try.ntmps43
          go_upto_region 1 with fail
          rw [← HWW.out]
          obtain ⟨x0, x1, x2, x3, x4, x5, x6, x7, x8, x9⟩ := HXL.out _ HQ.out
          go_wp2_with fail
          go_at_call 57
          refine (HWK.out _ HB.out).mono ?_
          rintro e w1 ⟨rfl, hb9⟩
          have t0 := below_tr HB.out hb9; have t1 := below_tr HQ.out hb9
          clear HB HQ
          have HB := Lib.hid t0; have HQ := Lib.hid t1
          clear t0 t1
          clear hb9 
          clear x0 x1 x2 x3 x4 x5 x6 x7 x8 x9
          have y0 := (HXR.out _ HQ.out).cell 0; have y1 := (HXR.out _ HQ.out).cell 1; have y2 := (HXR.out _ HQ.out).cell 2
          simp at y0 y1 y2
          go_wp2_with fail
          go_at_call 78
          refine (HWI.out _).mono ?_
          rintro e w2 ⟨rfl, rfl⟩
          go_wp2_with fail
          go_at_call 79
          refine (HUP.out _).mono ?_
          rintro e w1 ⟨rfl, hb9⟩
          have t0 := below_tr HB.out hb9; have t1 := below_tr HQ.out hb9
          clear HB HQ
          have HB := Lib.hid t0; have HQ := Lib.hid t1
          clear t0 t1
          clear hb9 
          go_wp2_with fail
          go_at_call 80
          refine (HAL.out _ HB.out).mono ?_
          rintro e w1 ⟨rfl, hb9⟩
          have t0 := below_tr HB.out hb9; have t1 := below_tr HQ.out hb9
          clear HB HQ
          have HB := Lib.hid t0; have HQ := Lib.hid t1
          clear t0 t1
          clear hb9 
          go_wp2_with fail
          go_ret2
          exact ⟨rfl, HB.out⟩
  · rw [if_pos hA0] at hE
    subst hE
    have hA1 : (E != 0) = true := by simpa using hA0
    have hA2 : (E == 0) = false := by simpa using hA0
    clear hA0 hE0
    go_enter Try.func43, Try.ntmps43
    go_upto_region 1 with fail
    rw [← HWW.out]
    obtain ⟨x0, x1, x2, x3, x4, x5, x6, x7, x8, x9⟩ := HXL.out _ HQ.out
    go_wp2_with fail
    go_at_call 57
    refine (HWK.out _ HB.out).mono ?_
    rintro e w1 ⟨rfl, hb9⟩
    have t0 := below_tr HB.out hb9; have t1 := below_tr HQ.out hb9
    clear HB HQ
    have HB := Lib.hid t0; have HQ := Lib.hid t1
    clear t0 t1
    clear hb9 
    clear x0 x1 x2 x3 x4 x5 x6 x7 x8 x9
    go_wp2_with fail
    go_ret2
    exact ⟨rfl, HB.out⟩
end
end Go.Proofs.Ytpijmfbpdglchaa
