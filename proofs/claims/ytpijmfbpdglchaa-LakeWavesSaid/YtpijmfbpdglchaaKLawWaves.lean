/- THE WALK of LakeWaves. -/
import Derived.Test.YtpijmfbpdglchaaKFew
import Derived.Test.YtpijmfbpdglchaaKFault2
import Derived.Test.YtpijmfbpdglchaaKConv
import Derived.Test.YtpijmfbpdglchaaKAwake
import Derived.Test.YtpijmfbpdglchaaKWavesE
import Derived.Test.YtpijmfbpdglchaaKRHours
import Derived.Test.YtpijmfbpdglchaaKRWave
set_option linter.unusedVariables false
set_option linter.unusedSimpArgs false
namespace Go.Proofs.Ytpijmfbpdglchaa
open Go.RowKit Go.Proofs
attribute [local go_sem ↓] Go.wp_at_zero Go.wp_at_succ
def WavesA (w : World) (nH : Nat) (E : Int) (R : List Rea) (e : Ending) (w' : World) : Prop := ∃ A n cp, e = .returned (.tuple #[.slice A n cp, .int .i64 E]) ∧ (E ≠ 0 → n = 0) ∧ (E = 0 → n = nH ∧ Rd encQ 3 w' A n R) ∧ Below w.heap.size w w'
theorem run_neq_rch (a : Bool) (b c : Int) (W : World) : (binOp .neq 100 (.agg #[.bool a, .int .i64 b, .int .i64 c]) (.agg #[.bool a, .int .i64 b, .int .i64 c])).run Try.prog W = .ok (.bool false) W := by
  rw [run_neq_struct]
  have : (Op.equalIn 10000 100 (.agg #[.bool a, .int .i64 b, .int .i64 c]) (.agg #[.bool a, .int .i64 b, .int .i64 c])).run Try.prog W = .ok true W := by
    simp [go_sem, Try.underlying100]
  rw [this]; rfl
section
variable {VA IA WA CA HA : Option Addr} {nV nI nW nC nH cV cI cW cC cH : Nat} {l : Lak} {ws : List Wrk} {c : List Int} {r : Riv} {hs : List Hou} {w : World}
theorem Waves_a (hL : RdL w VA nV IA nI l) (hW : Rd encW 3 w WA nW ws) (hC : Rd enc1 1 w CA nC c) (hH : Rd encH 3 w HA nH hs) (hcV : nV ≤ cV) (hcI : nI ≤ cI) (hnV : nV ≤ maxLen) (hnI : nI ≤ maxLen) (hnW : nW ≤ maxLen) (hnC : nC ≤ maxLen) (hnH : nH ≤ maxLen)
    {E : Int} (hE : E = if errA l ws c ≠ 0 then errA l ws c else errH r hs) :
    Calls Try.prog 43 #[.agg (lA VA nV cV IA nI cI l), .slice WA nW cW, .slice CA nC cC, .agg (rA r), .slice HA nH cH] w (WavesA w nH E (hs.map fun x => rchOf r x (aftL l (netL l ws c)))) := by
  by_cases h0 : E = 0
  · subst h0
    have hA : errA l ws c = 0 := by
      by_cases h : errA l ws c = 0
      · exact h
      · rw [if_pos h] at hE; exact absurd hE.symm h
    rw [if_neg (by simp [hA])] at hE
    obtain ⟨hok, hwk, hcho⟩ := errA_zero.1 hA
    refine (Waves_v hL hW hC hH hcV hcI hok hwk hcho (errH_zero.1 hE.symm)).mono ?_
    rintro e w' ⟨A, cp, rfl, _, hr, hb⟩
    exact ⟨A, nH, cp, rfl, fun h => absurd rfl h, fun _ => ⟨rfl, hr⟩, hb⟩
  · refine (Waves_e hL hW hC hH hcV hcI hnV hnI hnW hnC hnH hE h0).mono ?_
    rintro e w' ⟨rfl, hb⟩
    exact ⟨none, 0, 0, rfl, fun _ => rfl, fun h => absurd h h0, hb⟩
end
section
variable {VA IA WA CA GA : Option Addr} {nV nI cV cI nW cW nC cC nG cG : Nat} {l : Lak} {ws : List Wrk} {c : List Int} {r : Riv} {hs : List Hou} {w : World}
set_option linter.unusedSimpArgs false in
set_option maxRecDepth 100000 in
set_option maxHeartbeats 8000000 in
theorem LakeWaves_w (h : RdL w VA nV IA nI l) (hw : Rd encW 3 w WA nW ws) (hc : Rd enc1 1 w CA nC c) (hg : Rd encH 3 w GA nG hs) (hnV : nV ≤ maxLen) (hnI : nI ≤ maxLen) (hnW : nW ≤ maxLen) (hnC : nC ≤ maxLen) (hnG : nG ≤ maxLen) :
    Calls Try.prog 9 #[.agg (lA VA nV cV IA nI cI l), .slice WA nW cW, .slice CA nC cC, .agg (rA r), .slice GA nG cG] w fun e w' => e = .returned (.bool true) ∧ Below w.heap.size w w' := by
  obtain ⟨W, hWW⟩ : ∃ W, W = ((w.alloc (.cells (lA VA nV cV IA nI cI l) 27)).alloc (.cells (rA r) 84)) := ⟨_, rfl⟩
  have hb : Below w.heap.size w W := by rw [hWW]; exact ((Below.refl _ _).alloc (Nat.le_refl _) _).alloc (by simp) _
  have hB1 := (Blk.new w 27 (lA VA nV cV IA nI cI l)).alloc (.cells (rA r) 84)
  have hB2 := Blk.new (w.alloc (.cells (lA VA nV cV IA nI cI l) 27)) 84 (rA r)
  simp only [World.size_alloc] at hB2
  rw [← hWW] at hB1 hB2
  have HWW := Lib.hid hWW; have HB := Lib.hid hb; have HQ := Lib.hid (Below.refl W.heap.size W)
  have HXL := Lib.hid (fun (U : World) (hU : Below W.heap.size W U) => blk_lA (hB1.below hU hB1.lt))
  have HXR := Lib.hid (fun (U : World) (hU : Below W.heap.size W U) => show U.cell? ⟨w.heap.size + 1, 0, none⟩ = some (.int .i64 r.loss) ∧ U.cell? ⟨w.heap.size + 1, 1, none⟩ = some (.int .i64 r.pace.1) ∧ U.cell? ⟨w.heap.size + 1, 2, none⟩ = some (.int .i64 r.pace.2) from ⟨(hB2.below hU hB2.lt).cell 0, (hB2.below hU hB2.lt).cell 1, (hB2.below hU hB2.lt).cell 2⟩)
  have HFW := Lib.hid (fun (U : World) (hU : Below w.heap.size w U) => Few_c (cV := cV) (cI := cI) (cW := cW) (cC := cC) (h.below hU) (hw.below hU) (hc.below hU) hnV hnI hnW hnC)
  have HFA := Lib.hid (fun (U : World) (hU : Below w.heap.size w U) => fault_c (cV := cV) (cI := cI) (cW := cW) (cC := cC) (h.below hU) (hw.below hU) (hc.below hU) hnV hnI hnW hnC)
  have HHO := Lib.hid (fun (U : World) (hU : Below w.heap.size w U) => housed_c (r := r) (cp := cG) (hg.below hU) hnG)
  have HL := Lib.hid h; have HW := Lib.hid hw; have HC := Lib.hid hc; have HG := Lib.hid hg
  have HAW := Lib.hid (fun (U : World) => awake_c U)
  have hgl := hg.len
  have HGL := Lib.hid hgl; have HNG := Lib.hid hnG
  rw [faultA_eq] at HFA
  unfold maxLen at hnG
  clear h hw hc hg hb hB1 hB2 hWW hgl
  go_enter Try.func9, Try.ntmps9
  go_upto_region 1 with fail
  rw [← HWW.out]
  obtain ⟨x0, x1, x2, x3, x4, x5, x6, x7, x8, x9⟩ := HXL.out _ HQ.out
  go_wp2_with fail
  go_at_call 16
  refine (HFW.out _ HB.out).mono ?_
  rintro e w1 ⟨b, rfl, hbt, hb9⟩
  have t0 := below_tr HB.out hb9; have t1 := below_tr HQ.out hb9
  clear HB HQ
  have HB := Lib.hid t0; have HQ := Lib.hid t1
  clear t0 t1
  clear hb9 
  clear x0 x1 x2 x3 x4 x5 x6 x7 x8 x9
  cases b
  · as_aux_lemma =>
    go_wp2_with fail
    go_at_call 18
    refine (HAW.out _).mono ?_
    rintro e w1 ⟨rfl, hb9⟩
    have t0 := below_tr HB.out hb9; have t1 := below_tr HQ.out hb9
    clear HB HQ
    have HB := Lib.hid t0; have HQ := Lib.hid t1
    clear t0 t1
    clear hb9 
    go_wp2_with fail
    go_ret
    exact ⟨rfl, HB.out⟩
  · by_cases h25 : nG ≤ 25
    · as_aux_lemma =>
      have h25' : ¬ (25 : Int) < (nG : Int) := by omega
      obtain ⟨g1, g2, g3, g4⟩ := thin_len (hbt rfl)
      have hvl := HL.out.vols.len; have hil := HL.out.infl.len; have hwl := HW.out.len; have hcl := HC.out.len
      have HLK := Lib.hid (fun (U : World) (hU : Below w.heap.size w U) => LakeR_c (cV := cV) (cI := cI) (HL.out.below hU) (by omega) (by omega))
      have HWK := Lib.hid (fun (U : World) (hU : Below w.heap.size w U) => WorksR_c (c := cW) (HW.out.below hU) (by omega))
      have HLI := Lib.hid (fun (U : World) (hU : Below w.heap.size w U) => listR_c (c := cC) (HC.out.below hU) (by omega))
      have HHC := Lib.hid (fun (U : World) (hU : Below w.heap.size w U) => HousesR_c (c := cG) (HG.out.below hU) (by omega))
      have HIL := Lib.hid hil
      obtain ⟨E, hE⟩ : ∃ E, E = if errA l ws c ≠ 0 then errA l ws c else errH r hs := ⟨_, rfl⟩
      have HE := Lib.hid hE
      clear g1 g2 g3 g4 hbt hvl hil hwl hcl hE
      go_upto_region 3 with fail
      refine wp_region_till [] (fun U => U.cell? ⟨w.heap.size, 0, none⟩ = some (.slice VA nV cV) ∧ U.cell? ⟨w.heap.size, 1, none⟩ = some (.int .i64 l.crest) ∧ U.cell? ⟨w.heap.size, 2, none⟩ = some (.int .i64 l.weak) ∧ U.cell? ⟨w.heap.size, 3, none⟩ = some (.int .i64 l.soft.1) ∧ U.cell? ⟨w.heap.size, 4, none⟩ = some (.int .i64 l.soft.2) ∧ U.cell? ⟨w.heap.size, 5, none⟩ = some (.int .i64 l.start.1) ∧ U.cell? ⟨w.heap.size, 6, none⟩ = some (.int .i64 l.start.2) ∧ U.cell? ⟨w.heap.size, 7, none⟩ = some (.int .i64 l.seep.1) ∧ U.cell? ⟨w.heap.size, 8, none⟩ = some (.int .i64 l.seep.2) ∧ U.cell? ⟨w.heap.size, 9, none⟩ = some (.slice IA nI cI) ∧ U.cell? ⟨w.heap.size + 1, 0, none⟩ = some (.int .i64 r.loss) ∧ U.cell? ⟨w.heap.size + 1, 1, none⟩ = some (.int .i64 r.pace.1) ∧ U.cell? ⟨w.heap.size + 1, 2, none⟩ = some (.int .i64 r.pace.2)) (by kernel_rfl) (by exact and10 (HXL.out _ HQ.out.drew) (HXR.out _ HQ.out.drew)) (fun hHeld => ?_)
      have hb9 := (Below.refl w1.heap.size w1).drew
      have t0 := below_tr HB.out hb9; have t1 := below_tr HQ.out hb9
      clear HB HQ
      have HB := Lib.hid t0; have HQ := Lib.hid t1
      clear t0 t1
      clear hb9
      revert hHeld HB HQ
      generalize w1.drew = w0
      intro hHeld HB HQ
      (refine wpAnyL_take (n := 0) (i := 0) (oi := ?ox1) (v := ?vx1) ?hix1 ?k1x1 ?k2x1 ?k3x1 ?k4x1 ?k5x1 ?k6x1 ?hQx1 ?hYx1 ?hSx1 ?restx1; (case hix1 => (simp only [List.getElem?_toArray, List.getElem?_cons_succ, List.getElem?_cons_zero]; exact rfl)); (case k1x1 => kernel_rfl); (case k2x1 => kernel_rfl); (case k3x1 => kernel_rfl); (case k4x1 => kernel_rfl); (case k5x1 => kernel_rfl); (case k6x1 => kernel_rfl); (case hSx1 => assumption); (case hYx1 => (refine Or.inl ⟨rfl, ?hyx1⟩; intro w hSw; (try dsimp only at hSw); go_simp; (try with_reducible rfl))); (case hQx1 => exact (fun _ _ _ h => h)); (try simp only [Act.put, List.setIfInBounds_toArray, List.set_cons_zero, List.set_cons_succ]))
      (refine wpAnyL_take (n := 0) (i := 2) (oi := ?ox2) (v := ?vx2) ?hix2 ?k1x2 ?k2x2 ?k3x2 ?k4x2 ?k5x2 ?k6x2 ?hQx2 ?hYx2 ?hSx2 ?restx2; (case hix2 => (simp only [List.getElem?_toArray, List.getElem?_cons_succ, List.getElem?_cons_zero]; exact rfl)); (case k1x2 => kernel_rfl); (case k2x2 => kernel_rfl); (case k3x2 => kernel_rfl); (case k4x2 => kernel_rfl); (case k5x2 => kernel_rfl); (case k6x2 => kernel_rfl); (case hSx2 => assumption); (case hYx2 => (refine Or.inl ⟨rfl, ?hyx2⟩; intro w hSw; (try dsimp only at hSw); go_simp; (try with_reducible rfl))); (case hQx2 => exact (fun _ _ _ h => h)); (try simp only [Act.put, List.setIfInBounds_toArray, List.set_cons_zero, List.set_cons_succ]))
      (refine wpAnyL_take (n := 0) (i := 4) (oi := ?ox3) (v := ?vx3) ?hix3 ?k1x3 ?k2x3 ?k3x3 ?k4x3 ?k5x3 ?k6x3 ?hQx3 ?hYx3 ?hSx3 ?restx3; (case hix3 => (simp only [List.getElem?_toArray, List.getElem?_cons_succ, List.getElem?_cons_zero]; exact rfl)); (case k1x3 => kernel_rfl); (case k2x3 => kernel_rfl); (case k3x3 => kernel_rfl); (case k4x3 => kernel_rfl); (case k5x3 => kernel_rfl); (case k6x3 => kernel_rfl); (case hSx3 => assumption); (case hYx3 => (refine Or.inl ⟨rfl, ?hyx3⟩; intro w hSw; (try dsimp only at hSw); go_simp; (try with_reducible rfl))); (case hQx3 => exact (fun _ _ _ h => h)); (try simp only [Act.put, List.setIfInBounds_toArray, List.set_cons_zero, List.set_cons_succ]))
      (refine wpAnyL_take (n := 0) (i := 6) (oi := ?ox4) (v := ?vx4) ?hix4 ?k1x4 ?k2x4 ?k3x4 ?k4x4 ?k5x4 ?k6x4 ?hQx4 ?hYx4 ?hSx4 ?restx4; (case hix4 => (simp only [List.getElem?_toArray, List.getElem?_cons_succ, List.getElem?_cons_zero]; exact rfl)); (case k1x4 => kernel_rfl); (case k2x4 => kernel_rfl); (case k3x4 => kernel_rfl); (case k4x4 => kernel_rfl); (case k5x4 => kernel_rfl); (case k6x4 => kernel_rfl); (case hSx4 => assumption); (case hYx4 => (refine Or.inl ⟨rfl, ?hyx4⟩; intro w hSw; (try dsimp only at hSw); go_simp; (try with_reducible rfl))); (case hQx4 => exact (fun _ _ _ h => h)); (try simp only [Act.put, List.setIfInBounds_toArray, List.set_cons_zero, List.set_cons_succ]))
      (refine wpAnyL_take (n := 0) (i := 8) (oi := ?ox5) (v := ?vx5) ?hix5 ?k1x5 ?k2x5 ?k3x5 ?k4x5 ?k5x5 ?k6x5 ?hQx5 ?hYx5 ?hSx5 ?restx5; (case hix5 => (simp only [List.getElem?_toArray, List.getElem?_cons_succ, List.getElem?_cons_zero]; exact rfl)); (case k1x5 => kernel_rfl); (case k2x5 => kernel_rfl); (case k3x5 => kernel_rfl); (case k4x5 => kernel_rfl); (case k5x5 => kernel_rfl); (case k6x5 => kernel_rfl); (case hSx5 => assumption); (case hYx5 => (refine Or.inl ⟨rfl, ?hyx5⟩; intro w hSw; (try dsimp only at hSw); go_simp; (try with_reducible rfl))); (case hQx5 => exact (fun _ _ _ h => h)); (try simp only [Act.put, List.setIfInBounds_toArray, List.set_cons_zero, List.set_cons_succ]))
      refine wpAnyL_ready (rs := [1]) (by kernel_rfl) (by simp) ?_
      refine AllReadyL.cons (o := ?o1x6) ?hi1x6 (fun K hK => ?_) AllReadyL.nil
      (case hi1x6 => (simp only [List.getElem?_toArray, List.getElem?_cons_succ, List.getElem?_cons_zero]; exact rfl))
      go_simp
      go_at_call 20
      refine (HLK.out _ HB.out).mono ?_
      rintro e w1 ⟨VA', cV', IA', cI', rfl, hcv, hci, hrl, hb9⟩
      have t0 := below_tr HB.out hb9; have t1 := below_tr HQ.out hb9
      clear HB HQ
      have HB := Lib.hid t0; have HQ := Lib.hid t1
      clear t0 t1
      have HRL := Lib.hid hrl
      have HCV := Lib.hid hcv
      have HCI := Lib.hid hci
      clear hb9 hrl hcv hci
      (try go_wp2_with fail)
      (try clear hHeld)
      refine hK.out _ _ (by (try dsimp only); exact and10 (HXL.out _ HQ.out) (HXR.out _ HQ.out)) (fun hHeld => ?_)
      clear hK K
      (try simp only [Act.put, List.setIfInBounds_toArray, List.set_cons_zero, List.set_cons_succ])
      refine wpAnyL_ready (rs := [3]) (by kernel_rfl) (by simp) ?_
      refine AllReadyL.cons (o := ?o3x7) ?hi3x7 (fun K hK => ?_) AllReadyL.nil
      (case hi3x7 => (simp only [List.getElem?_toArray, List.getElem?_cons_succ, List.getElem?_cons_zero]; exact rfl))
      go_simp
      go_at_call 21
      refine (HWK.out _ HB.out).mono ?_
      rintro e w1 ⟨WA', cW', rfl, hcw, hrw, hb9⟩
      have t0 := below_tr HB.out hb9; have t1 := below_tr HQ.out hb9; have t2 := HRL.out.below hb9
      clear HB HQ HRL
      have HB := Lib.hid t0; have HQ := Lib.hid t1; have HRL := Lib.hid t2
      clear t0 t1 t2
      have HRW := Lib.hid hrw
      have HCW := Lib.hid hcw
      clear hb9 hrw hcw
      (try go_wp2_with fail)
      (try clear hHeld)
      refine hK.out _ _ (by (try dsimp only); exact and10 (HXL.out _ HQ.out) (HXR.out _ HQ.out)) (fun hHeld => ?_)
      clear hK K
      (try simp only [Act.put, List.setIfInBounds_toArray, List.set_cons_zero, List.set_cons_succ])
      refine wpAnyL_ready (rs := [5]) (by kernel_rfl) (by simp) ?_
      refine AllReadyL.cons (o := ?o5x8) ?hi5x8 (fun K hK => ?_) AllReadyL.nil
      (case hi5x8 => (simp only [List.getElem?_toArray, List.getElem?_cons_succ, List.getElem?_cons_zero]; exact rfl))
      go_simp
      go_at_call 27
      refine (HLI.out _ HB.out).mono ?_
      rintro e w1 ⟨CA', cC', rfl, hcc, hrc, hb9⟩
      have t0 := below_tr HB.out hb9; have t1 := below_tr HQ.out hb9; have t2 := HRL.out.below hb9; have t3 := HRW.out.below hb9
      clear HB HQ HRL HRW
      have HB := Lib.hid t0; have HQ := Lib.hid t1; have HRL := Lib.hid t2; have HRW := Lib.hid t3
      clear t0 t1 t2 t3
      have HRC := Lib.hid hrc
      have HCC := Lib.hid hcc
      clear hb9 hrc hcc
      (try go_wp2_with fail)
      (try clear hHeld)
      refine hK.out _ _ (by (try dsimp only); exact and10 (HXL.out _ HQ.out) (HXR.out _ HQ.out)) (fun hHeld => ?_)
      clear hK K
      (try simp only [Act.put, List.setIfInBounds_toArray, List.set_cons_zero, List.set_cons_succ])
      refine wpAnyL_ready (rs := [7]) (by kernel_rfl) (by simp) ?_
      refine AllReadyL.cons (o := ?o7x9) ?hi7x9 (fun K hK => ?_) AllReadyL.nil
      (case hi7x9 => (simp only [List.getElem?_toArray, List.getElem?_cons_succ, List.getElem?_cons_zero]; exact rfl))
      go_simp
      go_at_call 44
      refine (River_c _ _).mono ?_
      rintro e w1 ⟨rfl, hb9⟩
      have t0 := below_tr HB.out hb9; have t1 := below_tr HQ.out hb9; have t2 := HRL.out.below hb9; have t3 := HRW.out.below hb9; have t4 := HRC.out.below hb9
      clear HB HQ HRL HRW HRC
      have HB := Lib.hid t0; have HQ := Lib.hid t1; have HRL := Lib.hid t2; have HRW := Lib.hid t3; have HRC := Lib.hid t4
      clear t0 t1 t2 t3 t4
      clear hb9 
      (try go_wp2_with fail)
      (try clear hHeld)
      refine hK.out _ _ (by (try dsimp only); exact and10 (HXL.out _ HQ.out) (HXR.out _ HQ.out)) (fun hHeld => ?_)
      clear hK K
      (try simp only [Act.put, List.setIfInBounds_toArray, List.set_cons_zero, List.set_cons_succ])
      refine wpAnyL_ready (rs := [9]) (by kernel_rfl) (by simp) ?_
      refine AllReadyL.cons (o := ?o9x10) ?hi9x10 (fun K hK => ?_) AllReadyL.nil
      (case hi9x10 => (simp only [List.getElem?_toArray, List.getElem?_cons_succ, List.getElem?_cons_zero]; exact rfl))
      go_simp
      go_at_call 45
      refine (HHC.out _ HB.out).mono ?_
      rintro e w1 ⟨TA, cT, rfl, hct, hrt, hb9⟩
      have t0 := below_tr HB.out hb9; have t1 := below_tr HQ.out hb9; have t2 := HRL.out.below hb9; have t3 := HRW.out.below hb9; have t4 := HRC.out.below hb9
      clear HB HQ HRL HRW HRC
      have HB := Lib.hid t0; have HQ := Lib.hid t1; have HRL := Lib.hid t2; have HRW := Lib.hid t3; have HRC := Lib.hid t4
      clear t0 t1 t2 t3 t4
      have HRG := Lib.hid hrt
      have HCG := Lib.hid hct
      clear hb9 hrt hct
      (try go_wp2_with fail)
      (try clear hHeld)
      refine hK.out _ _ (by (try dsimp only); exact and10 (HXL.out _ HQ.out) (HXR.out _ HQ.out)) (fun hHeld => ?_)
      clear hK K
      (try simp only [Act.put, List.setIfInBounds_toArray, List.set_cons_zero, List.set_cons_succ])
      refine wpAnyL_ready (rs := [10]) (by kernel_rfl) (by simp) ?_
      refine AllReadyL.cons (o := ?o10x11) ?hi10x11 (fun K hK => ?_) AllReadyL.nil
      (case hi10x11 => (simp only [List.getElem?_toArray, List.getElem?_cons_succ, List.getElem?_cons_zero]; exact rfl))
      go_simp
      go_at_call 43
      refine (Waves_a HRL.out HRW.out HRC.out HRG.out HCV.out HCI.out hnV hnI hnW hnC HNG.out HE.out).mono ?_
      rintro e w1 ⟨QA, nQ, cQ, rfl, hz, hgd, hb9⟩
      have t0 := below_tr HB.out hb9; have t1 := below_tr HQ.out hb9; have t2 := HRL.out.below hb9; have t3 := HRW.out.below hb9; have t4 := HRC.out.below hb9; have t5 := HRG.out.below hb9
      clear HB HQ HRL HRW HRC HRG
      have HB := Lib.hid t0; have HQ := Lib.hid t1; have HRL := Lib.hid t2; have HRW := Lib.hid t3; have HRC := Lib.hid t4; have HRG := Lib.hid t5
      clear t0 t1 t2 t3 t4 t5
      clear hb9 
      clear HRL HRW HRC HRG HCV HCI HCW HCC HCG
      (try go_wp2_with fail)
      (try clear hHeld)
      refine hK.out _ _ (by (try dsimp only); exact and10 (HXL.out _ HQ.out) (HXR.out _ HQ.out)) (fun hHeld => ?_)
      clear hK K
      (try simp only [Act.put, List.setIfInBounds_toArray, List.set_cons_zero, List.set_cons_succ])
      (refine wpAnyL_take (n := 0) (i := 11) (oi := ?ox12) (v := ?vx12) ?hix12 ?k1x12 ?k2x12 ?k3x12 ?k4x12 ?k5x12 ?k6x12 ?hQx12 ?hYx12 ?hSx12 ?restx12; (case hix12 => (simp only [List.getElem?_toArray, List.getElem?_cons_succ, List.getElem?_cons_zero]; exact rfl)); (case k1x12 => kernel_rfl); (case k2x12 => kernel_rfl); (case k3x12 => kernel_rfl); (case k4x12 => kernel_rfl); (case k5x12 => kernel_rfl); (case k6x12 => kernel_rfl); (case hSx12 => assumption); (case hYx12 => (refine Or.inl ⟨rfl, ?hyx12⟩; intro w hSw; (try dsimp only at hSw); go_simp; (try with_reducible rfl))); (case hQx12 => exact (fun _ _ _ h => h)); (try simp only [Act.put, List.setIfInBounds_toArray, List.set_cons_zero, List.set_cons_succ]))
      (refine wpAnyL_take (n := 0) (i := 12) (oi := ?ox13) (v := ?vx13) ?hix13 ?k1x13 ?k2x13 ?k3x13 ?k4x13 ?k5x13 ?k6x13 ?hQx13 ?hYx13 ?hSx13 ?restx13; (case hix13 => (simp only [List.getElem?_toArray, List.getElem?_cons_succ, List.getElem?_cons_zero]; exact rfl)); (case k1x13 => kernel_rfl); (case k2x13 => kernel_rfl); (case k3x13 => kernel_rfl); (case k4x13 => kernel_rfl); (case k5x13 => kernel_rfl); (case k6x13 => kernel_rfl); (case hSx13 => assumption); (case hYx13 => (refine Or.inl ⟨rfl, ?hyx13⟩; intro w hSw; (try dsimp only at hSw); go_simp; (try with_reducible rfl))); (case hQx13 => exact (fun _ _ _ h => h)); (try simp only [Act.put, List.setIfInBounds_toArray, List.set_cons_zero, List.set_cons_succ]))
      (refine wpAnyL_take (n := 0) (i := 13) (oi := ?ox14) (v := ?vx14) ?hix14 ?k1x14 ?k2x14 ?k3x14 ?k4x14 ?k5x14 ?k6x14 ?hQx14 ?hYx14 ?hSx14 ?restx14; (case hix14 => (simp only [List.getElem?_toArray, List.getElem?_cons_succ, List.getElem?_cons_zero]; exact rfl)); (case k1x14 => kernel_rfl); (case k2x14 => kernel_rfl); (case k3x14 => kernel_rfl); (case k4x14 => kernel_rfl); (case k5x14 => kernel_rfl); (case k6x14 => kernel_rfl); (case hSx14 => assumption); (case hYx14 => (refine Or.inl ⟨rfl, ?hyx14⟩; intro w hSw; (try dsimp only at hSw); go_simp; (try with_reducible rfl))); (case hQx14 => exact (fun _ _ _ h => h)); (try simp only [Act.put, List.setIfInBounds_toArray, List.set_cons_zero, List.set_cons_succ]))
      (refine wpAnyL_take (n := 0) (i := 14) (oi := ?ox15) (v := ?vx15) ?hix15 ?k1x15 ?k2x15 ?k3x15 ?k4x15 ?k5x15 ?k6x15 ?hQx15 ?hYx15 ?hSx15 ?restx15; (case hix15 => (simp only [List.getElem?_toArray, List.getElem?_cons_succ, List.getElem?_cons_zero]; exact rfl)); (case k1x15 => kernel_rfl); (case k2x15 => kernel_rfl); (case k3x15 => kernel_rfl); (case k4x15 => kernel_rfl); (case k5x15 => kernel_rfl); (case k6x15 => kernel_rfl); (case hSx15 => assumption); (case hYx15 => (refine Or.inl ⟨rfl, ?hyx15⟩; intro w hSw; (try dsimp only at hSw); go_simp; (try with_reducible rfl))); (case hQx15 => exact (fun _ _ _ h => h)); (try simp only [Act.put, List.setIfInBounds_toArray, List.set_cons_zero, List.set_cons_succ]))
      (refine wpAnyL_take (n := 0) (i := 15) (oi := ?ox16) (v := ?vx16) ?hix16 ?k1x16 ?k2x16 ?k3x16 ?k4x16 ?k5x16 ?k6x16 ?hQx16 ?hYx16 ?hSx16 ?restx16; (case hix16 => (simp only [List.getElem?_toArray, List.getElem?_cons_succ, List.getElem?_cons_zero]; exact rfl)); (case k1x16 => kernel_rfl); (case k2x16 => kernel_rfl); (case k3x16 => kernel_rfl); (case k4x16 => kernel_rfl); (case k5x16 => kernel_rfl); (case k6x16 => kernel_rfl); (case hSx16 => assumption); (case hYx16 => (refine Or.inl ⟨rfl, ?hyx16⟩; intro w hSw; (try dsimp only at hSw); go_simp; (try with_reducible rfl))); (case hQx16 => exact (fun _ _ _ h => h)); (try simp only [Act.put, List.setIfInBounds_toArray, List.set_cons_zero, List.set_cons_succ]))
      (refine wpAnyL_done (by kernel_rfl) ?_ _)
      clear hHeld
      by_cases hA : errA l ws c = 0
      · have hEH : E = errH r hs := by rw [HE.out, if_neg (by simp [hA])]
        rw [hA] at HFA
        by_cases hH : errH r hs = 0
        · as_aux_lemma =>
          obtain rfl : E = 0 := by rw [hEH, hH]
          obtain ⟨e9, hrq⟩ := hgd rfl
          obtain rfl : nG = nQ := e9.symm
          rw [hH] at HHO
          obtain ⟨hok, hwk, hcho⟩ := errA_zero.1 hA
          have hhk := errH_zero.1 hH
          obtain ⟨L, hL⟩ : ∃ L, L = aftL l (netL l ws c) := ⟨_, rfl⟩
          have hLl : L.length = nI := by rw [hL, aftL_len, netL_len]; exact HIL.out
          have hnI60 : nI ≤ 60 := by have := hok.h; have := HIL.out; omega
          have HHR := Lib.hid (fun (U : World) (hU : Below w.heap.size w U) => rHours_c (cV := cV) (cI := cI) (cW := cW) (cC := cC) (HL.out.below hU) (HW.out.below hU) (HC.out.below hU) hok hwk hcho)
          have HBD := Lib.hid (show ∀ (h : Nat) (a : Aft), L[h]? = some a → a.brk ≤ 1000000000 from fun h a ha => by rw [hL] at ha; exact (aft_brk_bd hok hwk hcho ha).2)
          rw [← hL] at HHR hrq
          have HRQ := Lib.hid hrq; have HHK := Lib.hid hhk; have HLL := Lib.hid hLl
          clear hrq hhk hL hLl hok hwk hcho hA hEH hH HE hz hgd
          obtain ⟨x0, x1, x2, x3, x4, x5, x6, x7, x8, x9⟩ := HXL.out _ HQ.out
          go_wp2_with fail
          go_at_call 17
          refine (HFA.out _ HB.out).mono ?_
          rintro e w1 ⟨rfl, hb9⟩
          have t0 := below_tr HB.out hb9; have t1 := below_tr HQ.out hb9; have t2 := HRQ.out.below hb9
          clear HB HQ HRQ
          have HB := Lib.hid t0; have HQ := Lib.hid t1; have HRQ := Lib.hid t2
          clear t0 t1 t2
          clear hb9 
          clear x0 x1 x2 x3 x4 x5 x6 x7 x8 x9
          obtain ⟨y0, y1, y2⟩ := HXR.out _ HQ.out
          go_wp2_with fail
          go_at_call 46
          refine (HHO.out _ HB.out).mono ?_
          rintro e w1 ⟨rfl, hb9⟩
          have t0 := below_tr HB.out hb9; have t1 := below_tr HQ.out hb9; have t2 := HRQ.out.below hb9
          clear HB HQ HRQ
          have HB := Lib.hid t0; have HQ := Lib.hid t1; have HRQ := Lib.hid t2
          clear t0 t1 t2
          clear hb9 
          clear y0 y1 y2
          obtain ⟨x0, x1, x2, x3, x4, x5, x6, x7, x8, x9⟩ := HXL.out _ HQ.out
          go_wp2_with fail
          go_at_call 35
          refine (HHR.out _ HB.out).mono ?_
          rintro e w1 ⟨O, cp, m, Hd, Bk, rfl, hrr, hro, hb9⟩
          have t0 := below_tr HB.out hb9; have t1 := below_tr HQ.out hb9; have t2 := HRQ.out.below hb9
          clear HB HQ HRQ
          have HB := Lib.hid t0; have HQ := Lib.hid t1; have HRQ := Lib.hid t2
          clear t0 t1 t2
          have HRR := Lib.hid hrr
          have HRO := Lib.hid hro
          clear hb9 hrr hro
          clear x0 x1 x2 x3 x4 x5 x6 x7 x8 x9
          have hnn : ((nG : Int) != (nG : Int)) = false := by simp
          obtain ⟨V, hV⟩ : ∃ V, V = w1 := ⟨_, rfl⟩
          rw [← hV] at HB HQ HRQ HRR ⊢
          clear hV
          go_wp2_with fail
          clear hnn
          go_loopw [15] (fun iv wr => ∃ k : Nat, k ≤ nG ∧ iv = .int .i64 k ∧ Below V.heap.size V wr) (fun iv _ => nG - (intOf iv).toNat)
          case atStart => exact ⟨0, Nat.zero_le _, rfl, Below.refl _ _⟩
          case round =>
            obtain ⟨k, hk, rfl, hbr⟩ := hrel
            obtain ⟨W5, hW5⟩ : ∃ W5, W5 = wr := ⟨_, rfl⟩
            rw [← hW5] at hbr ⊢
            clear hW5
            by_cases hlt : k < nG
            · obtain ⟨bh, oh, y, hGA, hbh, hy, g0, g1, g2⟩ := (HG.out.below (below_tr HB.out hbr)).atH hlt
              subst hGA
              obtain ⟨bq, oq, q, hQA, hbq, hq, q0, q1, q2⟩ := (HRQ.out.below hbr).atQ hlt
              subst hQA
              simp only [List.getElem?_map, hy, Option.map_some, Option.some.injEq] at hq
              have hyo := HHK.out.h k y hy
              have HWV := Lib.hid (fun (U : World) (hU : Below V.heap.size V U) => rWave_c (c := cp) (HRR.out.below hU) HRO.out HLL.out.symm hnI60 HHK.out.r hyo HBD.out)
              rw [hq] at HWV
              have hkn : (k : Int) < (nG : Int) := by omega
              have hk0 : (0 : Int) ≤ (k : Int) := by omega
              have HB5 := Lib.hid (Below.refl W5.heap.size W5)
              have HBR2 := Lib.hid hbr; have HQ1 := Lib.hid (below_tr HQ.out hbr)
              have HS6 := Lib.hid (fun (U : World) (hU : Below W5.heap.size W5 U) => show U.cell? ⟨bh, oh + k * 3, none⟩ = some (.int .i64 y.far) ∧ U.cell? ⟨bh, oh + k * 3 + 1, none⟩ = some (.int .i64 y.high) ∧ U.cell? ⟨bh, oh + k * 3 + 2, none⟩ = some (.int .i64 y.wide) ∧ U.cell? ⟨w.heap.size + 1, 0, none⟩ = some (.int .i64 r.loss) ∧ U.cell? ⟨w.heap.size + 1, 1, none⟩ = some (.int .i64 r.pace.1) ∧ U.cell? ⟨w.heap.size + 1, 2, none⟩ = some (.int .i64 r.pace.2) from
                have z := HXR.out _ (below_tr HQ1.out hU)
                ⟨bel_keep hU g0, bel_keep hU g1, bel_keep hU g2, z.1, z.2.1, z.2.2⟩)
              have HQ3 := Lib.hid (And.intro q0 (And.intro q1 q2))
              have heq : ∀ W, (binOp .neq 100 (.agg #[.bool q.may, .int .i64 q.height, .int .i64 q.frm]) (.agg #[.bool q.may, .int .i64 q.height, .int .i64 q.frm])).run Try.prog W = .ok (.bool false) W := fun W => run_neq_rch _ _ _ W
              have HEQ := Lib.hid heq
              clear hbr hy hq hyo g0 g1 g2 q0 q1 q2 heq
              go_upto_region 15 with fail
              go_cut [16] (fun pv wx => ∃ gS, pv = .pointer (some ⟨gS, 0, none⟩) ∧ Blk wx gS 96 (reA q.may q.height q.frm) ∧ Below W5.heap.size W5 wx)
              case first =>
                refine wp_region_till [8] (fun U => U.cell? ⟨bh, oh + k * 3, none⟩ = some (.int .i64 y.far) ∧ U.cell? ⟨bh, oh + k * 3 + 1, none⟩ = some (.int .i64 y.high) ∧ U.cell? ⟨bh, oh + k * 3 + 2, none⟩ = some (.int .i64 y.wide) ∧ U.cell? ⟨w.heap.size + 1, 0, none⟩ = some (.int .i64 r.loss) ∧ U.cell? ⟨w.heap.size + 1, 1, none⟩ = some (.int .i64 r.pace.1) ∧ U.cell? ⟨w.heap.size + 1, 2, none⟩ = some (.int .i64 r.pace.2)) (by kernel_rfl) (by exact HS6.out _ HB5.out.drew) (fun hHeld => ?_)
                have hb9 := (Below.refl W5.heap.size W5).drew
                have t0 := below_tr HBR2.out hb9; have t1 := below_tr HB5.out hb9
                clear HBR2 HB5
                have HBR2 := Lib.hid t0; have HB5 := Lib.hid t1
                clear t0 t1
                clear hb9
                revert hHeld HBR2 HB5
                generalize W5.drew = w0
                intro hHeld HBR2 HB5
                (refine wpAnyL_take (n := 0) (i := 0) (oi := ?ox17) (v := ?vx17) ?hix17 ?k1x17 ?k2x17 ?k3x17 ?k4x17 ?k5x17 ?k6x17 ?hQx17 ?hYx17 ?hSx17 ?restx17; (case hix17 => (simp only [List.getElem?_toArray, List.getElem?_cons_succ, List.getElem?_cons_zero]; exact rfl)); (case k1x17 => kernel_rfl); (case k2x17 => kernel_rfl); (case k3x17 => kernel_rfl); (case k4x17 => kernel_rfl); (case k5x17 => kernel_rfl); (case k6x17 => kernel_rfl); (case hSx17 => assumption); (case hYx17 => (refine Or.inl ⟨rfl, ?hyx17⟩; intro w hSw; (try dsimp only at hSw); go_simp; (try with_reducible rfl))); (case hQx17 => exact (fun _ _ _ h => h)); (try simp only [Act.put, List.setIfInBounds_toArray, List.set_cons_zero, List.set_cons_succ]))
                (refine wpAnyL_take (n := 0) (i := 1) (oi := ?ox18) (v := ?vx18) ?hix18 ?k1x18 ?k2x18 ?k3x18 ?k4x18 ?k5x18 ?k6x18 ?hQx18 ?hYx18 ?hSx18 ?restx18; (case hix18 => (simp only [List.getElem?_toArray, List.getElem?_cons_succ, List.getElem?_cons_zero]; exact rfl)); (case k1x18 => kernel_rfl); (case k2x18 => kernel_rfl); (case k3x18 => kernel_rfl); (case k4x18 => kernel_rfl); (case k5x18 => kernel_rfl); (case k6x18 => kernel_rfl); (case hSx18 => assumption); (case hYx18 => (refine Or.inl ⟨rfl, ?hyx18⟩; intro w hSw; (try dsimp only at hSw); go_simp; (try with_reducible rfl))); (case hQx18 => exact (fun _ _ _ h => h)); (try simp only [Act.put, List.setIfInBounds_toArray, List.set_cons_zero, List.set_cons_succ]))
                (refine wpAnyL_take (n := 0) (i := 2) (oi := ?ox19) (v := ?vx19) ?hix19 ?k1x19 ?k2x19 ?k3x19 ?k4x19 ?k5x19 ?k6x19 ?hQx19 ?hYx19 ?hSx19 ?restx19; (case hix19 => (simp only [List.getElem?_toArray, List.getElem?_cons_succ, List.getElem?_cons_zero]; exact rfl)); (case k1x19 => kernel_rfl); (case k2x19 => kernel_rfl); (case k3x19 => kernel_rfl); (case k4x19 => kernel_rfl); (case k5x19 => kernel_rfl); (case k6x19 => kernel_rfl); (case hSx19 => assumption); (case hYx19 => (refine Or.inl ⟨rfl, ?hyx19⟩; intro w hSw; (try dsimp only at hSw); go_simp; (try with_reducible rfl))); (case hQx19 => exact (fun _ _ _ h => h)); (try simp only [Act.put, List.setIfInBounds_toArray, List.set_cons_zero, List.set_cons_succ]))
                (refine wpAnyL_take (n := 0) (i := 3) (oi := ?ox20) (v := ?vx20) ?hix20 ?k1x20 ?k2x20 ?k3x20 ?k4x20 ?k5x20 ?k6x20 ?hQx20 ?hYx20 ?hSx20 ?restx20; (case hix20 => (simp only [List.getElem?_toArray, List.getElem?_cons_succ, List.getElem?_cons_zero]; exact rfl)); (case k1x20 => kernel_rfl); (case k2x20 => kernel_rfl); (case k3x20 => kernel_rfl); (case k4x20 => kernel_rfl); (case k5x20 => kernel_rfl); (case k6x20 => kernel_rfl); (case hSx20 => assumption); (case hYx20 => (refine Or.inl ⟨rfl, ?hyx20⟩; intro w hSw; (try dsimp only at hSw); go_simp; (try with_reducible rfl))); (case hQx20 => exact (fun _ _ _ h => h)); (try simp only [Act.put, List.setIfInBounds_toArray, List.set_cons_zero, List.set_cons_succ]))
                (refine wpAnyL_take (n := 0) (i := 4) (oi := ?ox21) (v := ?vx21) ?hix21 ?k1x21 ?k2x21 ?k3x21 ?k4x21 ?k5x21 ?k6x21 ?hQx21 ?hYx21 ?hSx21 ?restx21; (case hix21 => (simp only [List.getElem?_toArray, List.getElem?_cons_succ, List.getElem?_cons_zero]; exact rfl)); (case k1x21 => kernel_rfl); (case k2x21 => kernel_rfl); (case k3x21 => kernel_rfl); (case k4x21 => kernel_rfl); (case k5x21 => kernel_rfl); (case k6x21 => kernel_rfl); (case hSx21 => assumption); (case hYx21 => (refine Or.inl ⟨rfl, ?hyx21⟩; intro w hSw; (try dsimp only at hSw); go_simp; (try with_reducible rfl))); (case hQx21 => exact (fun _ _ _ h => h)); (try simp only [Act.put, List.setIfInBounds_toArray, List.set_cons_zero, List.set_cons_succ]))
                (refine wpAnyL_take (n := 0) (i := 5) (oi := ?ox22) (v := ?vx22) ?hix22 ?k1x22 ?k2x22 ?k3x22 ?k4x22 ?k5x22 ?k6x22 ?hQx22 ?hYx22 ?hSx22 ?restx22; (case hix22 => (simp only [List.getElem?_toArray, List.getElem?_cons_succ, List.getElem?_cons_zero]; exact rfl)); (case k1x22 => kernel_rfl); (case k2x22 => kernel_rfl); (case k3x22 => kernel_rfl); (case k4x22 => kernel_rfl); (case k5x22 => kernel_rfl); (case k6x22 => kernel_rfl); (case hSx22 => assumption); (case hYx22 => (refine Or.inl ⟨rfl, ?hyx22⟩; intro w hSw; (try dsimp only at hSw); go_simp; (try with_reducible rfl))); (case hQx22 => exact (fun _ _ _ h => h)); (try simp only [Act.put, List.setIfInBounds_toArray, List.set_cons_zero, List.set_cons_succ]))
                refine wpAnyL_ready (rs := [6, 7]) (by kernel_rfl) (by simp) ?_
                refine AllReadyL.cons (o := ?o6x23) ?hi6x23 (fun K hK => ?_) (AllReadyL.cons (o := ?o7x23) ?hi7x23 (fun K hK => ?_) AllReadyL.nil)
                (case hi6x23 => (simp only [List.getElem?_toArray, List.getElem?_cons_succ, List.getElem?_cons_zero]; exact rfl))
                (case hi7x23 => (simp only [List.getElem?_toArray, List.getElem?_cons_succ, List.getElem?_cons_zero]; exact rfl))
                · skip
                  go_simp
                  go_at_call 47
                  refine (HWV.out _ HBR2.out).mono ?_
                  rintro e w1 ⟨rfl, hb9⟩
                  have t0 := below_tr HBR2.out hb9; have t1 := below_tr HB5.out hb9
                  clear HBR2 HB5
                  have HBR2 := Lib.hid t0; have HB5 := Lib.hid t1
                  clear t0 t1
                  clear hb9 
                  (try go_wp2_with fail)
                  (try clear hHeld)
                  refine hK.out _ _ (by (try dsimp only); exact HS6.out _ HB5.out) (fun hHeld => ?_)
                  clear hK K
                  (try simp only [Act.put, List.setIfInBounds_toArray, List.set_cons_zero, List.set_cons_succ])
                  refine wpAnyL_ready (rs := [7]) (by kernel_rfl) (by simp) ?_
                  refine AllReadyL.cons (o := ?o7x24) ?hi7x24 (fun K hK => ?_) AllReadyL.nil
                  (case hi7x24 => (simp only [List.getElem?_toArray, List.getElem?_cons_succ, List.getElem?_cons_zero]; exact rfl))
                  go_simp
                  have hal := (Below.refl w1.heap.size w1).alloc (Nat.le_refl _) (.cells (reA false 0 0) 96)
                  have hn := Blk.new w1 96 (reA false 0 0)
                  have hge := HB5.out.size
                  have t0 := below_tr HBR2.out hal; have t1 := below_tr HB5.out hal
                  clear HBR2 HB5
                  have HBR2 := Lib.hid t0; have HB5 := Lib.hid t1
                  clear t0 t1
                  have HGX := Lib.hid hn
                  clear hal hn
                  (try clear hHeld)
                  refine hK.out _ _ (by (try dsimp only); exact HS6.out _ HB5.out) (fun hHeld => ?_)
                  clear hK K
                  (try simp only [Act.put, List.setIfInBounds_toArray, List.set_cons_zero, List.set_cons_succ])
                  revert hHeld HBR2 HB5 HGX
                  generalize hgS : w1.heap.size = gS
                  generalize (World.alloc w1 (.cells (reA false 0 0) 96)) = w0
                  intro HBR2 HB5 HGX hHeld
                  have HGE := Lib.hid (show W5.heap.size ≤ gS from hgS ▸ hge)
                  clear hgS hge
                  refine wpAnyL_ready (rs := [8]) (by kernel_rfl) (by simp) ?_
                  refine AllReadyL.last (o := ?o8x25) ?hi8x25 ?he8x25 (fun K hK => ?_) AllReadyL.nil
                  (case hi8x25 => (simp only [List.getElem?_toArray, List.getElem?_cons_succ, List.getElem?_cons_zero]; exact rfl))
                  (case he8x25 => kernel_rfl)
                  have rc := HGX.out.cell; have rf := HGX.out.frozen
                  have r0 := rc 0; have r1 := rc 1; have r2 := rc 2
                  simp at r0 r1 r2
                  have q0 := rf 0; have q1 := rf 1; have q2 := rf 2
                  clear rc rf
                  go_simp
                  (try clear hHeld)
                  refine hK.out _ _ ?_
                  clear hK K
                  (try simp only [Act.put, List.setIfInBounds_toArray, List.set_cons_zero, List.set_cons_succ])
                  (refine wpAnyL_done (by kernel_rfl) ?_ _)
                  have hg0 := blk_setCells (reA q.may q.height q.frm).toList 0 _ [] _ (by simpa using HGX.out) rfl (by simp)
                  have hg1 := below_setCells HGE.out (reA q.may q.height q.frm).toList 0 _ HB5.out
                  go_wp2_with fail
                  go_meet
                  exact ⟨_, rfl, hg0, hg1⟩
                · skip
                  go_simp
                  have hal := (Below.refl w0.heap.size w0).alloc (Nat.le_refl _) (.cells (reA false 0 0) 96)
                  have hn := Blk.new w0 96 (reA false 0 0)
                  have hge := HB5.out.size
                  have t0 := below_tr HBR2.out hal; have t1 := below_tr HB5.out hal
                  clear HBR2 HB5
                  have HBR2 := Lib.hid t0; have HB5 := Lib.hid t1
                  clear t0 t1
                  have HGX := Lib.hid hn
                  clear hal hn
                  (try clear hHeld)
                  refine hK.out _ _ (by (try dsimp only); exact HS6.out _ HB5.out) (fun hHeld => ?_)
                  clear hK K
                  (try simp only [Act.put, List.setIfInBounds_toArray, List.set_cons_zero, List.set_cons_succ])
                  revert hHeld HBR2 HB5 HGX
                  generalize hgS : w0.heap.size = gS
                  generalize (World.alloc w0 (.cells (reA false 0 0) 96)) = w0
                  intro HBR2 HB5 HGX hHeld
                  have HGE := Lib.hid (show W5.heap.size ≤ gS from hgS ▸ hge)
                  clear hgS hge
                  refine wpAnyL_ready (rs := [6]) (by kernel_rfl) (by simp) ?_
                  refine AllReadyL.cons (o := ?o6x26) ?hi6x26 (fun K hK => ?_) AllReadyL.nil
                  (case hi6x26 => (simp only [List.getElem?_toArray, List.getElem?_cons_succ, List.getElem?_cons_zero]; exact rfl))
                  go_simp
                  go_at_call 47
                  refine (HWV.out _ HBR2.out).mono ?_
                  rintro e w1 ⟨rfl, hb9⟩
                  have t0 := below_tr HBR2.out hb9; have t1 := below_tr HB5.out hb9; have t2 := HGX.out.below hb9 HGX.out.lt
                  clear HBR2 HB5 HGX
                  have HBR2 := Lib.hid t0; have HB5 := Lib.hid t1; have HGX := Lib.hid t2
                  clear t0 t1 t2
                  clear hb9 
                  (try go_wp2_with fail)
                  (try clear hHeld)
                  refine hK.out _ _ (by (try dsimp only); exact HS6.out _ HB5.out) (fun hHeld => ?_)
                  clear hK K
                  (try simp only [Act.put, List.setIfInBounds_toArray, List.set_cons_zero, List.set_cons_succ])
                  refine wpAnyL_ready (rs := [8]) (by kernel_rfl) (by simp) ?_
                  refine AllReadyL.last (o := ?o8x27) ?hi8x27 ?he8x27 (fun K hK => ?_) AllReadyL.nil
                  (case hi8x27 => (simp only [List.getElem?_toArray, List.getElem?_cons_succ, List.getElem?_cons_zero]; exact rfl))
                  (case he8x27 => kernel_rfl)
                  have rc := HGX.out.cell; have rf := HGX.out.frozen
                  have r0 := rc 0; have r1 := rc 1; have r2 := rc 2
                  simp at r0 r1 r2
                  have q0 := rf 0; have q1 := rf 1; have q2 := rf 2
                  clear rc rf
                  go_simp
                  (try clear hHeld)
                  refine hK.out _ _ ?_
                  clear hK K
                  (try simp only [Act.put, List.setIfInBounds_toArray, List.set_cons_zero, List.set_cons_succ])
                  (refine wpAnyL_done (by kernel_rfl) ?_ _)
                  have hg0 := blk_setCells (reA q.may q.height q.frm).toList 0 _ [] _ (by simpa using HGX.out) rfl (by simp)
                  have hg1 := below_setCells HGE.out (reA q.may q.height q.frm).toList 0 _ HB5.out
                  go_wp2_with fail
                  go_meet
                  exact ⟨_, rfl, hg0, hg1⟩
              case rest =>
                obtain ⟨gS, rfl, hbS, hbc⟩ := hcut
                obtain ⟨s0, s1, s2⟩ := HQ3.out
                have t0 := hbS.cell 0; have t1 := hbS.cell 1; have t2 := hbS.cell 2
                simp at t0 t1 t2
                have HB9 := Lib.hid (below_tr HBR2.out hbc)
                have HS8 := Lib.hid (fun (U : World) (hU : Below wc.heap.size wc U) => show U.cell? ⟨bq, oq + k * 3, none⟩ = some (.bool q.may) ∧ U.cell? ⟨bq, oq + k * 3 + 1, none⟩ = some (.int .i64 q.height) ∧ U.cell? ⟨bq, oq + k * 3 + 2, none⟩ = some (.int .i64 q.frm) ∧ U.cell? ⟨gS, 0, none⟩ = some (.bool q.may) ∧ U.cell? ⟨gS, 1, none⟩ = some (.int .i64 q.height) ∧ U.cell? ⟨gS, 2, none⟩ = some (.int .i64 q.frm) from
                  ⟨bel_keep (below_tr hbc hU) s0, bel_keep (below_tr hbc hU) s1, bel_keep (below_tr hbc hU) s2, bel_keep hU t0, bel_keep hU t1, bel_keep hU t2⟩)
                have HBC := Lib.hid (Below.refl wc.heap.size wc)
                have heq := HEQ.out; have HLT := Lib.hid hlt
                clear s0 s1 s2 t0 t1 t2 hbS hbc hlt HBR2 HB5 HQ1
                go_upto_region 16 with fail
                refine wp_region_till [] (fun U => U.cell? ⟨bq, oq + k * 3, none⟩ = some (.bool q.may) ∧ U.cell? ⟨bq, oq + k * 3 + 1, none⟩ = some (.int .i64 q.height) ∧ U.cell? ⟨bq, oq + k * 3 + 2, none⟩ = some (.int .i64 q.frm) ∧ U.cell? ⟨gS, 0, none⟩ = some (.bool q.may) ∧ U.cell? ⟨gS, 1, none⟩ = some (.int .i64 q.height) ∧ U.cell? ⟨gS, 2, none⟩ = some (.int .i64 q.frm)) (by kernel_rfl) (by exact HS8.out _ HBC.out.drew) (fun hHeld => ?_)
                have hb9 := (Below.refl wc.heap.size wc).drew
                have t0 := below_tr HB9.out hb9; have t1 := below_tr HBC.out hb9
                clear HB9 HBC
                have HB9 := Lib.hid t0; have HBC := Lib.hid t1
                clear t0 t1
                clear hb9
                revert hHeld HB9 HBC
                generalize wc.drew = w0
                intro hHeld HB9 HBC
                (refine wpAnyL_take (n := 0) (i := 0) (oi := ?ox28) (v := ?vx28) ?hix28 ?k1x28 ?k2x28 ?k3x28 ?k4x28 ?k5x28 ?k6x28 ?hQx28 ?hYx28 ?hSx28 ?restx28; (case hix28 => (simp only [List.getElem?_toArray, List.getElem?_cons_succ, List.getElem?_cons_zero]; exact rfl)); (case k1x28 => kernel_rfl); (case k2x28 => kernel_rfl); (case k3x28 => kernel_rfl); (case k4x28 => kernel_rfl); (case k5x28 => kernel_rfl); (case k6x28 => kernel_rfl); (case hSx28 => assumption); (case hYx28 => (refine Or.inl ⟨rfl, ?hyx28⟩; intro w hSw; (try dsimp only at hSw); go_simp; (try with_reducible rfl))); (case hQx28 => exact (fun _ _ _ h => h)); (try simp only [Act.put, List.setIfInBounds_toArray, List.set_cons_zero, List.set_cons_succ]))
                (refine wpAnyL_take (n := 0) (i := 1) (oi := ?ox29) (v := ?vx29) ?hix29 ?k1x29 ?k2x29 ?k3x29 ?k4x29 ?k5x29 ?k6x29 ?hQx29 ?hYx29 ?hSx29 ?restx29; (case hix29 => (simp only [List.getElem?_toArray, List.getElem?_cons_succ, List.getElem?_cons_zero]; exact rfl)); (case k1x29 => kernel_rfl); (case k2x29 => kernel_rfl); (case k3x29 => kernel_rfl); (case k4x29 => kernel_rfl); (case k5x29 => kernel_rfl); (case k6x29 => kernel_rfl); (case hSx29 => assumption); (case hYx29 => (refine Or.inl ⟨rfl, ?hyx29⟩; intro w hSw; (try dsimp only at hSw); go_simp; (try with_reducible rfl))); (case hQx29 => exact (fun _ _ _ h => h)); (try simp only [Act.put, List.setIfInBounds_toArray, List.set_cons_zero, List.set_cons_succ]))
                (refine wpAnyL_take (n := 0) (i := 2) (oi := ?ox30) (v := ?vx30) ?hix30 ?k1x30 ?k2x30 ?k3x30 ?k4x30 ?k5x30 ?k6x30 ?hQx30 ?hYx30 ?hSx30 ?restx30; (case hix30 => (simp only [List.getElem?_toArray, List.getElem?_cons_succ, List.getElem?_cons_zero]; exact rfl)); (case k1x30 => kernel_rfl); (case k2x30 => kernel_rfl); (case k3x30 => kernel_rfl); (case k4x30 => kernel_rfl); (case k5x30 => kernel_rfl); (case k6x30 => kernel_rfl); (case hSx30 => assumption); (case hYx30 => (refine Or.inl ⟨rfl, ?hyx30⟩; intro w hSw; (try dsimp only at hSw); go_simp; (try with_reducible rfl))); (case hQx30 => exact (fun _ _ _ h => h)); (try simp only [Act.put, List.setIfInBounds_toArray, List.set_cons_zero, List.set_cons_succ]))
                (refine wpAnyL_take (n := 0) (i := 3) (oi := ?ox31) (v := ?vx31) ?hix31 ?k1x31 ?k2x31 ?k3x31 ?k4x31 ?k5x31 ?k6x31 ?hQx31 ?hYx31 ?hSx31 ?restx31; (case hix31 => (simp only [List.getElem?_toArray, List.getElem?_cons_succ, List.getElem?_cons_zero]; exact rfl)); (case k1x31 => kernel_rfl); (case k2x31 => kernel_rfl); (case k3x31 => kernel_rfl); (case k4x31 => kernel_rfl); (case k5x31 => kernel_rfl); (case k6x31 => kernel_rfl); (case hSx31 => assumption); (case hYx31 => (refine Or.inl ⟨rfl, ?hyx31⟩; intro w hSw; (try dsimp only at hSw); go_simp; (try with_reducible rfl))); (case hQx31 => exact (fun _ _ _ h => h)); (try simp only [Act.put, List.setIfInBounds_toArray, List.set_cons_zero, List.set_cons_succ]))
                (refine wpAnyL_take (n := 0) (i := 4) (oi := ?ox32) (v := ?vx32) ?hix32 ?k1x32 ?k2x32 ?k3x32 ?k4x32 ?k5x32 ?k6x32 ?hQx32 ?hYx32 ?hSx32 ?restx32; (case hix32 => (simp only [List.getElem?_toArray, List.getElem?_cons_succ, List.getElem?_cons_zero]; exact rfl)); (case k1x32 => kernel_rfl); (case k2x32 => kernel_rfl); (case k3x32 => kernel_rfl); (case k4x32 => kernel_rfl); (case k5x32 => kernel_rfl); (case k6x32 => kernel_rfl); (case hSx32 => assumption); (case hYx32 => (refine Or.inl ⟨rfl, ?hyx32⟩; intro w hSw; (try dsimp only at hSw); go_simp; (try with_reducible rfl))); (case hQx32 => exact (fun _ _ _ h => h)); (try simp only [Act.put, List.setIfInBounds_toArray, List.set_cons_zero, List.set_cons_succ]))
                (refine wpAnyL_take (n := 0) (i := 5) (oi := ?ox33) (v := ?vx33) ?hix33 ?k1x33 ?k2x33 ?k3x33 ?k4x33 ?k5x33 ?k6x33 ?hQx33 ?hYx33 ?hSx33 ?restx33; (case hix33 => (simp only [List.getElem?_toArray, List.getElem?_cons_succ, List.getElem?_cons_zero]; exact rfl)); (case k1x33 => kernel_rfl); (case k2x33 => kernel_rfl); (case k3x33 => kernel_rfl); (case k4x33 => kernel_rfl); (case k5x33 => kernel_rfl); (case k6x33 => kernel_rfl); (case hSx33 => assumption); (case hYx33 => (refine Or.inl ⟨rfl, ?hyx33⟩; intro w hSw; (try dsimp only at hSw); go_simp; (try with_reducible rfl))); (case hQx33 => exact (fun _ _ _ h => h)); (try simp only [Act.put, List.setIfInBounds_toArray, List.set_cons_zero, List.set_cons_succ]))
                (refine wpAnyL_take (n := 0) (i := 6) (oi := ?ox34) (v := ?vx34) ?hix34 ?k1x34 ?k2x34 ?k3x34 ?k4x34 ?k5x34 ?k6x34 ?hQx34 ?hYx34 ?hSx34 ?restx34; (case hix34 => (simp only [List.getElem?_toArray, List.getElem?_cons_succ, List.getElem?_cons_zero]; exact rfl)); (case k1x34 => kernel_rfl); (case k2x34 => kernel_rfl); (case k3x34 => kernel_rfl); (case k4x34 => kernel_rfl); (case k5x34 => kernel_rfl); (case k6x34 => kernel_rfl); (case hSx34 => assumption); (case hYx34 => (refine Or.inl ⟨rfl, ?hyx34⟩; intro w hSw; (try dsimp only at hSw); go_simp; (try with_reducible rfl))); (case hQx34 => exact (fun _ _ _ h => h)); (try simp only [Act.put, List.setIfInBounds_toArray, List.set_cons_zero, List.set_cons_succ]))
                (refine wpAnyL_take (n := 0) (i := 7) (oi := ?ox35) (v := ?vx35) ?hix35 ?k1x35 ?k2x35 ?k3x35 ?k4x35 ?k5x35 ?k6x35 ?hQx35 ?hYx35 ?hSx35 ?restx35; (case hix35 => (simp only [List.getElem?_toArray, List.getElem?_cons_succ, List.getElem?_cons_zero]; exact rfl)); (case k1x35 => kernel_rfl); (case k2x35 => kernel_rfl); (case k3x35 => kernel_rfl); (case k4x35 => kernel_rfl); (case k5x35 => kernel_rfl); (case k6x35 => kernel_rfl); (case hSx35 => assumption); (case hYx35 => (refine Or.inl ⟨rfl, ?hyx35⟩; intro w hSw; (try dsimp only at hSw); go_simp; (try with_reducible rfl))); (case hQx35 => exact (fun _ _ _ h => h)); (try simp only [Act.put, List.setIfInBounds_toArray, List.set_cons_zero, List.set_cons_succ]))
                (refine wpAnyL_take (n := 0) (i := 8) (oi := ?ox36) (v := ?vx36) ?hix36 ?k1x36 ?k2x36 ?k3x36 ?k4x36 ?k5x36 ?k6x36 ?hQx36 ?hYx36 ?hSx36 ?restx36; (case hix36 => (simp only [List.getElem?_toArray, List.getElem?_cons_succ, List.getElem?_cons_zero]; exact rfl)); (case k1x36 => kernel_rfl); (case k2x36 => kernel_rfl); (case k3x36 => kernel_rfl); (case k4x36 => kernel_rfl); (case k5x36 => kernel_rfl); (case k6x36 => kernel_rfl); (case hSx36 => assumption); (case hYx36 => (refine Or.inl ⟨rfl, ?hyx36⟩; intro w hSw; (try dsimp only at hSw); go_simp; (try with_reducible rfl))); (case hQx36 => exact (fun _ _ _ h => h)); (try simp only [Act.put, List.setIfInBounds_toArray, List.set_cons_zero, List.set_cons_succ]))
                (refine wpAnyL_take (n := 0) (i := 9) (oi := ?ox37) (v := ?vx37) ?hix37 ?k1x37 ?k2x37 ?k3x37 ?k4x37 ?k5x37 ?k6x37 ?hQx37 ?hYx37 ?hSx37 ?restx37; (case hix37 => (simp only [List.getElem?_toArray, List.getElem?_cons_succ, List.getElem?_cons_zero]; exact rfl)); (case k1x37 => kernel_rfl); (case k2x37 => kernel_rfl); (case k3x37 => kernel_rfl); (case k4x37 => kernel_rfl); (case k5x37 => kernel_rfl); (case k6x37 => kernel_rfl); (case hSx37 => assumption); (case hYx37 => (refine Or.inl ⟨rfl, ?hyx37⟩; intro w hSw; (try dsimp only at hSw); go_simp; (try with_reducible rfl))); (case hQx37 => exact (fun _ _ _ h => h)); (try simp only [Act.put, List.setIfInBounds_toArray, List.set_cons_zero, List.set_cons_succ]))
                (refine wpAnyL_take (n := 0) (i := 10) (oi := ?ox38) (v := ?vx38) ?hix38 ?k1x38 ?k2x38 ?k3x38 ?k4x38 ?k5x38 ?k6x38 ?hQx38 ?hYx38 ?hSx38 ?restx38; (case hix38 => (simp only [List.getElem?_toArray, List.getElem?_cons_succ, List.getElem?_cons_zero]; exact rfl)); (case k1x38 => kernel_rfl); (case k2x38 => kernel_rfl); (case k3x38 => kernel_rfl); (case k4x38 => kernel_rfl); (case k5x38 => kernel_rfl); (case k6x38 => kernel_rfl); (case hSx38 => assumption); (case hYx38 => (refine Or.inl ⟨rfl, ?hyx38⟩; intro w hSw; (try dsimp only at hSw); go_simp; (try with_reducible rfl))); (case hQx38 => exact (fun _ _ _ h => h)); (try simp only [Act.put, List.setIfInBounds_toArray, List.set_cons_zero, List.set_cons_succ]))
                (refine wpAnyL_take (n := 0) (i := 11) (oi := ?ox39) (v := ?vx39) ?hix39 ?k1x39 ?k2x39 ?k3x39 ?k4x39 ?k5x39 ?k6x39 ?hQx39 ?hYx39 ?hSx39 ?restx39; (case hix39 => (simp only [List.getElem?_toArray, List.getElem?_cons_succ, List.getElem?_cons_zero]; exact rfl)); (case k1x39 => kernel_rfl); (case k2x39 => kernel_rfl); (case k3x39 => kernel_rfl); (case k4x39 => kernel_rfl); (case k5x39 => kernel_rfl); (case k6x39 => kernel_rfl); (case hSx39 => assumption); (case hYx39 => (refine Or.inl ⟨rfl, ?hyx39⟩; intro w hSw; (try dsimp only at hSw); go_simp; (try with_reducible rfl))); (case hQx39 => exact (fun _ _ _ h => h)); (try simp only [Act.put, List.setIfInBounds_toArray, List.set_cons_zero, List.set_cons_succ]))
                (refine wpAnyL_done (by kernel_rfl) ?_ _)
                clear heq
                go_wp2_with fail
                go_roundw
                case rel => exact ⟨k + 1, by have := HLT.out; omega, by go_num, HB9.out⟩
                case measure => have := HLT.out; simp [intOf] <;> omega
            · obtain rfl : nG = k := by omega
              have t0 := below_tr HB.out hbr
              clear HB
              have HB := Lib.hid t0
              clear t0
              clear hbr hlt hk
              go_wp2_with fail
              go_at_call 18
              refine (HAW.out _).mono ?_
              rintro e w1 ⟨rfl, hb9⟩
              have t0 := below_tr HB.out hb9
              clear HB
              have HB := Lib.hid t0
              clear t0
              clear hb9 
              go_wp2_with fail
              go_ret
              exact ⟨rfl, HB.out⟩
        · as_aux_lemma =>
          have hE0 : E ≠ 0 := by rw [hEH]; exact hH
          obtain rfl : nQ = 0 := hz hE0
          rw [← hEH] at HHO
          have hn1 : (E != 0) = true := by simpa using hE0
          have hn2 : (E == E) = true := by simp
          clear hz hgd hA hH hEH hE0 HE
          obtain ⟨x0, x1, x2, x3, x4, x5, x6, x7, x8, x9⟩ := HXL.out _ HQ.out
          go_wp2_with fail
          go_at_call 17
          refine (HFA.out _ HB.out).mono ?_
          rintro e w1 ⟨rfl, hb9⟩
          have t0 := below_tr HB.out hb9; have t1 := below_tr HQ.out hb9
          clear HB HQ
          have HB := Lib.hid t0; have HQ := Lib.hid t1
          clear t0 t1
          clear hb9 
          clear x0 x1 x2 x3 x4 x5 x6 x7 x8 x9
          obtain ⟨y0, y1, y2⟩ := HXR.out _ HQ.out
          go_wp2_with fail
          go_at_call 46
          refine (HHO.out _ HB.out).mono ?_
          rintro e w1 ⟨rfl, hb9⟩
          have t0 := below_tr HB.out hb9; have t1 := below_tr HQ.out hb9
          clear HB HQ
          have HB := Lib.hid t0; have HQ := Lib.hid t1
          clear t0 t1
          clear hb9 
          clear y0 y1 y2
          go_wp2_with fail
          go_at_call 18
          refine (HAW.out _).mono ?_
          rintro e w1 ⟨rfl, hb9⟩
          have t0 := below_tr HB.out hb9; have t1 := below_tr HQ.out hb9
          clear HB HQ
          have HB := Lib.hid t0; have HQ := Lib.hid t1
          clear t0 t1
          clear hb9 
          go_wp2_with fail
          go_ret
          exact ⟨rfl, HB.out⟩
      · as_aux_lemma =>
        have hEA : E = errA l ws c := by rw [HE.out, if_pos hA]
        have hE0 : E ≠ 0 := by rw [hEA]; exact hA
        obtain rfl : nQ = 0 := hz hE0
        rw [← hEA] at HFA
        have hn1 : (E != 0) = true := by simpa using hE0
        have hn2 : (E == E) = true := by simp
        have hn3 : (E == 0) = false := by simpa using hE0
        clear hz hgd hA hEA hE0 HE
        obtain ⟨x0, x1, x2, x3, x4, x5, x6, x7, x8, x9⟩ := HXL.out _ HQ.out
        go_wp2_with fail
        go_at_call 17
        refine (HFA.out _ HB.out).mono ?_
        rintro e w1 ⟨rfl, hb9⟩
        have t0 := below_tr HB.out hb9; have t1 := below_tr HQ.out hb9
        clear HB HQ
        have HB := Lib.hid t0; have HQ := Lib.hid t1
        clear t0 t1
        clear hb9 
        clear x0 x1 x2 x3 x4 x5 x6 x7 x8 x9
        go_wp2_with fail
        go_at_call 18
        refine (HAW.out _).mono ?_
        rintro e w1 ⟨rfl, hb9⟩
        have t0 := below_tr HB.out hb9; have t1 := below_tr HQ.out hb9
        clear HB HQ
        have HB := Lib.hid t0; have HQ := Lib.hid t1
        clear t0 t1
        clear hb9 
        go_wp2_with fail
        go_ret
        exact ⟨rfl, HB.out⟩
    · as_aux_lemma =>
      have h25' : (25 : Int) < (nG : Int) := by omega
      go_wp2_with fail
      go_at_call 18
      refine (HAW.out _).mono ?_
      rintro e w1 ⟨rfl, hb9⟩
      have t0 := below_tr HB.out hb9
      clear HB
      have HB := Lib.hid t0
      clear t0
      clear hb9 
      go_wp2_with fail
      go_ret
      exact ⟨rfl, HB.out⟩
end
end Go.Proofs.Ytpijmfbpdglchaa
