/- CONTRACT of the reference's Enough. -/
import Derived.Test.YtpijmfbpdglchaaKRHours
import Derived.Test.YtpijmfbpdglchaaKPlain
set_option linter.unusedVariables false
set_option linter.unusedSimpArgs false
namespace Go.Proofs.Ytpijmfbpdglchaa
open Go.RowKit Go.Proofs
attribute [local go_sem ↓] Go.wp_at_zero Go.wp_at_succ
section
variable {VA IA WA CA : Option Addr} {nV cV nI cI nW cW nC cC : Nat} {l : Lak} {ws : List Wrk} {c : List Int} {w : World}
set_option linter.unusedSimpArgs false in
set_option maxRecDepth 100000 in
set_option maxHeartbeats 4000000 in
theorem rEnough_c (h : RdL w VA nV IA nI l) (hw : Rd encW 3 w WA nW ws) (hc : Rd enc1 1 w CA nC c) (hok : LOk l) (hwk : WOk ws) (hcho : choB ws.length c = true) :
    Calls Try.prog 25 #[.agg (lA VA nV cV IA nI cI l), .slice WA nW cW, .slice CA nC cC] w fun e w' => e = .returned (.bool (enB l ws c)) ∧ Below w.heap.size w w' := by
  obtain ⟨W, hW⟩ : ∃ W, W = w.alloc (.cells (lA VA nV cV IA nI cI l) 27) := ⟨_, rfl⟩
  have hb : Below w.heap.size w W := by rw [hW]; exact (Below.refl _ _).alloc (Nat.le_refl _) _
  have hX := Blk.new w 27 (lA VA nV cV IA nI cI l)
  rw [← hW] at hX
  have hil := h.infl.len; have h60 := hok.h
  obtain ⟨L, hL⟩ : ∃ L, L = aftL l (netL l ws c) := ⟨_, rfl⟩
  have hLl : L.length = nI := by rw [hL, aftL_len, netL_len]; exact hil
  have HHO := Lib.hid (fun (U : World) (hU : Below w.heap.size w U) => rHours_c (cV := cV) (cI := cI) (cW := cW) (cC := cC) (h.below hU) (hw.below hU) (hc.below hU) hok hwk hcho)
  have HBK := Lib.hid (fun (U : World) (hU : Below w.heap.size w U) (O : Option Addr) (cp m : Nat) (Hd Bk : Nat → Nat → Bool) (hr : RdHr U O nI m Hd Bk) (H : HrOk l L m Hd Bk) => rBreak_c (cV := cV) (cI := cI) (c := cp) (h.below hU) hok hr H hLl.symm (by omega))
  have HE := Lib.hid (show enB l ws c = decide (brkF L < 0) from by
    cases he : enB l ws c
    · rw [hL]; have := enB_not.1 he; simp; omega
    · rw [hL]; have := enB_iff.1 he; simp; omega)
  rw [← hL] at HHO
  have HXL := Lib.hid (fun (U : World) (hU : Below W.heap.size W U) => blk_lA (hX.below hU hX.lt))
  have HW := Lib.hid hW; have HB := Lib.hid hb; have HQ := Lib.hid (Below.refl W.heap.size W)
  clear h hw hc hok hwk hcho hW hb hX hil h60 hL hLl
  go_enter Try.func25, Try.ntmps25
  go_upto_region 1 with fail
  rw [← HW.out]
  refine wp_region_till [] (fun U => U.cell? ⟨w.heap.size, 0, none⟩ = some (.slice VA nV cV) ∧ U.cell? ⟨w.heap.size, 1, none⟩ = some (.int .i64 l.crest) ∧ U.cell? ⟨w.heap.size, 2, none⟩ = some (.int .i64 l.weak) ∧ U.cell? ⟨w.heap.size, 3, none⟩ = some (.int .i64 l.soft.1) ∧ U.cell? ⟨w.heap.size, 4, none⟩ = some (.int .i64 l.soft.2) ∧ U.cell? ⟨w.heap.size, 5, none⟩ = some (.int .i64 l.start.1) ∧ U.cell? ⟨w.heap.size, 6, none⟩ = some (.int .i64 l.start.2) ∧ U.cell? ⟨w.heap.size, 7, none⟩ = some (.int .i64 l.seep.1) ∧ U.cell? ⟨w.heap.size, 8, none⟩ = some (.int .i64 l.seep.2) ∧ U.cell? ⟨w.heap.size, 9, none⟩ = some (.slice IA nI cI)) (by kernel_rfl) (by exact HXL.out _ HQ.out.drew) (fun hHeld => ?_)
  have hb9 := (Below.refl W.heap.size W).drew
  have t0 := below_tr HB.out hb9; have t1 := below_tr HQ.out hb9
  clear HB HQ
  have HB := Lib.hid t0; have HQ := Lib.hid t1
  clear t0 t1
  clear hb9
  revert hHeld HB HQ
  generalize W.drew = w0
  intro hHeld HB HQ
  (refine wpAnyL_take (n := 0) (i := 0) (oi := ?ox62) (v := ?vx62) ?hix62 ?k1x62 ?k2x62 ?k3x62 ?k4x62 ?k5x62 ?k6x62 ?hQx62 ?hYx62 ?hSx62 ?restx62; (case hix62 => (simp only [List.getElem?_toArray, List.getElem?_cons_succ, List.getElem?_cons_zero]; exact rfl)); (case k1x62 => kernel_rfl); (case k2x62 => kernel_rfl); (case k3x62 => kernel_rfl); (case k4x62 => kernel_rfl); (case k5x62 => kernel_rfl); (case k6x62 => kernel_rfl); (case hSx62 => assumption); (case hYx62 => (refine Or.inl ⟨rfl, ?hyx62⟩; intro w hSw; (try dsimp only at hSw); go_simp; (try with_reducible rfl))); (case hQx62 => exact (fun _ _ _ h => h)); (try simp only [Act.put, List.setIfInBounds_toArray, List.set_cons_zero, List.set_cons_succ]))
  (refine wpAnyL_take (n := 0) (i := 1) (oi := ?ox63) (v := ?vx63) ?hix63 ?k1x63 ?k2x63 ?k3x63 ?k4x63 ?k5x63 ?k6x63 ?hQx63 ?hYx63 ?hSx63 ?restx63; (case hix63 => (simp only [List.getElem?_toArray, List.getElem?_cons_succ, List.getElem?_cons_zero]; exact rfl)); (case k1x63 => kernel_rfl); (case k2x63 => kernel_rfl); (case k3x63 => kernel_rfl); (case k4x63 => kernel_rfl); (case k5x63 => kernel_rfl); (case k6x63 => kernel_rfl); (case hSx63 => assumption); (case hYx63 => (refine Or.inl ⟨rfl, ?hyx63⟩; intro w hSw; (try dsimp only at hSw); go_simp; (try with_reducible rfl))); (case hQx63 => exact (fun _ _ _ h => h)); (try simp only [Act.put, List.setIfInBounds_toArray, List.set_cons_zero, List.set_cons_succ]))
  (refine wpAnyL_take (n := 0) (i := 2) (oi := ?ox64) (v := ?vx64) ?hix64 ?k1x64 ?k2x64 ?k3x64 ?k4x64 ?k5x64 ?k6x64 ?hQx64 ?hYx64 ?hSx64 ?restx64; (case hix64 => (simp only [List.getElem?_toArray, List.getElem?_cons_succ, List.getElem?_cons_zero]; exact rfl)); (case k1x64 => kernel_rfl); (case k2x64 => kernel_rfl); (case k3x64 => kernel_rfl); (case k4x64 => kernel_rfl); (case k5x64 => kernel_rfl); (case k6x64 => kernel_rfl); (case hSx64 => assumption); (case hYx64 => (refine Or.inl ⟨rfl, ?hyx64⟩; intro w hSw; (try dsimp only at hSw); go_simp; (try with_reducible rfl))); (case hQx64 => exact (fun _ _ _ h => h)); (try simp only [Act.put, List.setIfInBounds_toArray, List.set_cons_zero, List.set_cons_succ]))
  (refine wpAnyL_take (n := 0) (i := 3) (oi := ?ox65) (v := ?vx65) ?hix65 ?k1x65 ?k2x65 ?k3x65 ?k4x65 ?k5x65 ?k6x65 ?hQx65 ?hYx65 ?hSx65 ?restx65; (case hix65 => (simp only [List.getElem?_toArray, List.getElem?_cons_succ, List.getElem?_cons_zero]; exact rfl)); (case k1x65 => kernel_rfl); (case k2x65 => kernel_rfl); (case k3x65 => kernel_rfl); (case k4x65 => kernel_rfl); (case k5x65 => kernel_rfl); (case k6x65 => kernel_rfl); (case hSx65 => assumption); (case hYx65 => (refine Or.inl ⟨rfl, ?hyx65⟩; intro w hSw; (try dsimp only at hSw); go_simp; (try with_reducible rfl))); (case hQx65 => exact (fun _ _ _ h => h)); (try simp only [Act.put, List.setIfInBounds_toArray, List.set_cons_zero, List.set_cons_succ]))
  refine wpAnyL_ready (rs := [4]) (by kernel_rfl) (by simp) ?_
  refine AllReadyL.cons (o := ?o4x66) ?hi4x66 (fun K hK => ?_) AllReadyL.nil
  (case hi4x66 => (simp only [List.getElem?_toArray, List.getElem?_cons_succ, List.getElem?_cons_zero]; exact rfl))
  go_simp
  go_at_call 35
  refine (HHO.out _ HB.out).mono ?_
  rintro e w1 ⟨O, cp, m, Hd, Bk, rfl, hrr, hro, hb9⟩
  have t0 := below_tr HB.out hb9; have t1 := below_tr HQ.out hb9
  clear HB HQ
  have HB := Lib.hid t0; have HQ := Lib.hid t1
  clear t0 t1
  have HRR := Lib.hid hrr
  have HRO := Lib.hid hro
  clear hb9 hrr hro
  (try go_wp2_with fail)
  (try clear hHeld)
  refine hK.out _ _ (by (try dsimp only); exact HXL.out _ HQ.out) (fun hHeld => ?_)
  clear hK K
  (try simp only [Act.put, List.setIfInBounds_toArray, List.set_cons_zero, List.set_cons_succ])
  refine wpAnyL_ready (rs := [5]) (by kernel_rfl) (by simp) ?_
  refine AllReadyL.cons (o := ?o5x67) ?hi5x67 (fun K hK => ?_) AllReadyL.nil
  (case hi5x67 => (simp only [List.getElem?_toArray, List.getElem?_cons_succ, List.getElem?_cons_zero]; exact rfl))
  go_simp
  go_at_call 37
  refine (HBK.out _ HB.out _ _ _ _ _ HRR.out HRO.out).mono ?_
  rintro e w1 ⟨rfl, hb9⟩
  have t0 := below_tr HB.out hb9; have t1 := below_tr HQ.out hb9; have t2 := HRR.out.below hb9
  clear HB HQ HRR
  have HB := Lib.hid t0; have HQ := Lib.hid t1; have HRR := Lib.hid t2
  clear t0 t1 t2
  clear hb9 
  (try go_wp2_with fail)
  (try clear hHeld)
  refine hK.out _ _ (by (try dsimp only); exact HXL.out _ HQ.out) (fun hHeld => ?_)
  clear hK K
  (try simp only [Act.put, List.setIfInBounds_toArray, List.set_cons_zero, List.set_cons_succ])
  (refine wpAnyL_take (n := 0) (i := 6) (oi := ?ox68) (v := ?vx68) ?hix68 ?k1x68 ?k2x68 ?k3x68 ?k4x68 ?k5x68 ?k6x68 ?hQx68 ?hYx68 ?hSx68 ?restx68; (case hix68 => (simp only [List.getElem?_toArray, List.getElem?_cons_succ, List.getElem?_cons_zero]; exact rfl)); (case k1x68 => kernel_rfl); (case k2x68 => kernel_rfl); (case k3x68 => kernel_rfl); (case k4x68 => kernel_rfl); (case k5x68 => kernel_rfl); (case k6x68 => kernel_rfl); (case hSx68 => assumption); (case hYx68 => (refine Or.inl ⟨rfl, ?hyx68⟩; intro w hSw; (try dsimp only at hSw); go_simp; (try with_reducible rfl))); (case hQx68 => exact (fun _ _ _ h => h)); (try simp only [Act.put, List.setIfInBounds_toArray, List.set_cons_zero, List.set_cons_succ]))
  (refine wpAnyL_take (n := 0) (i := 7) (oi := ?ox69) (v := ?vx69) ?hix69 ?k1x69 ?k2x69 ?k3x69 ?k4x69 ?k5x69 ?k6x69 ?hQx69 ?hYx69 ?hSx69 ?restx69; (case hix69 => (simp only [List.getElem?_toArray, List.getElem?_cons_succ, List.getElem?_cons_zero]; exact rfl)); (case k1x69 => kernel_rfl); (case k2x69 => kernel_rfl); (case k3x69 => kernel_rfl); (case k4x69 => kernel_rfl); (case k5x69 => kernel_rfl); (case k6x69 => kernel_rfl); (case hSx69 => assumption); (case hYx69 => (refine Or.inl ⟨rfl, ?hyx69⟩; intro w hSw; (try dsimp only at hSw); go_simp; (try with_reducible rfl))); (case hQx69 => exact (fun _ _ _ h => h)); (try simp only [Act.put, List.setIfInBounds_toArray, List.set_cons_zero, List.set_cons_succ]))
  (refine wpAnyL_take (n := 0) (i := 8) (oi := ?ox70) (v := ?vx70) ?hix70 ?k1x70 ?k2x70 ?k3x70 ?k4x70 ?k5x70 ?k6x70 ?hQx70 ?hYx70 ?hSx70 ?restx70; (case hix70 => (simp only [List.getElem?_toArray, List.getElem?_cons_succ, List.getElem?_cons_zero]; exact rfl)); (case k1x70 => kernel_rfl); (case k2x70 => kernel_rfl); (case k3x70 => kernel_rfl); (case k4x70 => kernel_rfl); (case k5x70 => kernel_rfl); (case k6x70 => kernel_rfl); (case hSx70 => assumption); (case hYx70 => (refine Or.inl ⟨rfl, ?hyx70⟩; intro w hSw; (try dsimp only at hSw); go_simp; (try with_reducible rfl))); (case hQx70 => exact (fun _ _ _ h => h)); (try simp only [Act.put, List.setIfInBounds_toArray, List.set_cons_zero, List.set_cons_succ]))
  (refine wpAnyL_take (n := 0) (i := 9) (oi := ?ox71) (v := ?vx71) ?hix71 ?k1x71 ?k2x71 ?k3x71 ?k4x71 ?k5x71 ?k6x71 ?hQx71 ?hYx71 ?hSx71 ?restx71; (case hix71 => (simp only [List.getElem?_toArray, List.getElem?_cons_succ, List.getElem?_cons_zero]; exact rfl)); (case k1x71 => kernel_rfl); (case k2x71 => kernel_rfl); (case k3x71 => kernel_rfl); (case k4x71 => kernel_rfl); (case k5x71 => kernel_rfl); (case k6x71 => kernel_rfl); (case hSx71 => assumption); (case hYx71 => (refine Or.inl ⟨rfl, ?hyx71⟩; intro w hSw; (try dsimp only at hSw); go_simp; (try with_reducible rfl))); (case hQx71 => exact (fun _ _ _ h => h)); (try simp only [Act.put, List.setIfInBounds_toArray, List.set_cons_zero, List.set_cons_succ]))
  (refine wpAnyL_take (n := 0) (i := 10) (oi := ?ox72) (v := ?vx72) ?hix72 ?k1x72 ?k2x72 ?k3x72 ?k4x72 ?k5x72 ?k6x72 ?hQx72 ?hYx72 ?hSx72 ?restx72; (case hix72 => (simp only [List.getElem?_toArray, List.getElem?_cons_succ, List.getElem?_cons_zero]; exact rfl)); (case k1x72 => kernel_rfl); (case k2x72 => kernel_rfl); (case k3x72 => kernel_rfl); (case k4x72 => kernel_rfl); (case k5x72 => kernel_rfl); (case k6x72 => kernel_rfl); (case hSx72 => assumption); (case hYx72 => (refine Or.inl ⟨rfl, ?hyx72⟩; intro w hSw; (try dsimp only at hSw); go_simp; (try with_reducible rfl))); (case hQx72 => exact (fun _ _ _ h => h)); (try simp only [Act.put, List.setIfInBounds_toArray, List.set_cons_zero, List.set_cons_succ]))
  (refine wpAnyL_done (by kernel_rfl) ?_ _)
  by_cases h0 : brkF L < 0
  · have HX := Lib.hid (show enB l ws c = true by rw [HE.out]; exact decide_eq_true h0)
    go_wp2_with fail
    go_ret
    exact ⟨by rw [HX.out] <;> rfl, HB.out⟩
  · have HX := Lib.hid (show enB l ws c = false by rw [HE.out]; exact decide_eq_false h0)
    go_wp2_with fail
    go_ret
    exact ⟨by rw [HX.out] <;> rfl, HB.out⟩
end
end Go.Proofs.Ytpijmfbpdglchaa
