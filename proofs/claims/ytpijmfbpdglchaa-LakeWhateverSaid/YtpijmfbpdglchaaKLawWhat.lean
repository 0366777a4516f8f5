/- THE WALK of LakeWhatever. -/
import Derived.Test.YtpijmfbpdglchaaKReady
import Derived.Test.YtpijmfbpdglchaaKConv
import Derived.Test.YtpijmfbpdglchaaKAwake
import Derived.Test.YtpijmfbpdglchaaKValid
import Derived.Test.YtpijmfbpdglchaaKRef4
import Derived.Test.YtpijmfbpdglchaaKHap
namespace Go.Proofs.Ytpijmfbpdglchaa
open Go.RowKit Go.Proofs
attribute [local go_sem ↓] Go.wp_at_zero Go.wp_at_succ
def WhatF (l : Lak) (ws : List Wrk) (c : List Int) (N : Nat) (B : Int) (H : Nat) : Prop :=
  (B = -1 ∧ N = l.inflow.length ∧ H = N ∧ (brkF (aftL l (netL l ws c)) < 0 ∨ brkE (aftL l (netL l ws c)) = -1)) ∨
  (∃ k : Nat, k < l.inflow.length ∧ B = (k : Int) ∧ N = k + 1 ∧ H = k ∧ 0 ≤ brkF (aftL l (netL l ws c)) ∧ brkF (aftL l (netL l ws c)) ≤ (k : Int) ∧ (brkE (aftL l (netL l ws c)) < 0 ∨ (k : Int) ≤ brkE (aftL l (netL l ws c))))
section
variable {l : Lak} {ws : List Wrk} {c : List Int} {x : Rel}
theorem what_f (hok : LOk l) (hf : Fits l x) : ∃ H, WhatF l ws c (fillN l ws c x) (fillB l ws c x) H ∧ ∀ (h : Nat) (s : Stt) (v : Int), h < H → (sttL l ws c)[h]? = some s → (fillV l ws c x)[h]? = some v →
    s.holds = true ∧ s.lo ≤ v ∧ v ≤ s.hi ∧ s.lev = levOf l.vols s.hi ∧ 0 ≤ s.hi := by
  have key : ∀ (h : Nat) (s : Stt) (v : Int) (N : Nat), h < N → h < l.inflow.length → (∀ j, j ≤ h → brkB l ws c x j = false) → (sttL l ws c)[h]? = some s → (volsTo ws c x N)[h]? = some v →
      s.holds = true ∧ s.lo ≤ v ∧ v ≤ s.hi ∧ s.lev = levOf l.vols s.hi ∧ 0 ≤ s.hi := fun h s v N hN hl hn hs hv => by
    obtain ⟨a, ha⟩ := aft_at l ws c hl
    have h1 := held_stt hok hf hl hn ha
    simp only [sttL, List.getElem?_map, ha, Option.map_some, Option.some.injEq] at hs
    rw [volsTo_get hN] at hv
    cases hv; subst hs
    have := vAt_pos (ws := ws) (c := c) hf hok (h + 1)
    exact ⟨h1.1, h1.2.1, h1.2.2.1, h1.2.2.2, by omega⟩
  rcases firstN_cases (brkB l ws c x) l.inflow.length with ⟨h1, h2⟩ | ⟨k, h1, h2, h3, h4⟩
  · have e := fillV_end (l := l) (ws := ws) (c := c) (x := x) h2
    have hN : fillN l ws c x = l.inflow.length := by unfold fillN; rw [e.1]; simp
    refine ⟨l.inflow.length, .inl ⟨e.1, hN, hN.symm, .inr ?_⟩, fun h s v hh hs hv => key h s v l.inflow.length hh hh (fun j hj => h2 j (by omega)) hs (by rw [← e.2]; exact hv)⟩
    rcases brkE_ge (ws := ws) (c := c) hok hf (Nat.le_refl _) h2 with h | h
    · exact h
    · have := brkE_lt (l := l) (ws := ws) (c := c); omega
  · have e := fillV_brk (l := l) (ws := ws) (c := c) (x := x) h1 h3 h4
    have hN : fillN l ws c x = k + 1 := by unfold fillN; rw [e.1]; simp
    have hF := brkF_le hok hf h1 h4 h3
    refine ⟨k, .inr ⟨k, h1, e.1, hN, rfl, hF.1, hF.2, ?_⟩, fun h s v hh hs hv => key h s v (k + 1) (by omega) (by omega) (fun j hj => h4 j (by omega)) hs (by rw [← e.2]; exact hv)⟩
    rcases brkE_ge (ws := ws) (c := c) hok hf (Nat.le_of_lt h1) h4 with h | h
    · left; omega
    · right; exact h
end
section
variable {VA IA WA CA DA : Option Addr} {nV nI cV cI nW cW nC cC nD cD : Nat} {l : Lak} {ws : List Wrk} {c ds : List Int} {w : World}
set_option maxRecDepth 100000 in
set_option maxHeartbeats 8000000 in
theorem LakeWhatever_w (h : RdL w VA nV IA nI l) (hw : Rd encW 3 w WA nW ws) (hc : Rd enc1 1 w CA nC c) (hd : Rd encU 1 w DA nD ds) (hds : ∀ z ∈ ds, 0 ≤ z ∧ z ≤ 65535) (hnV : nV ≤ maxLen) (hnI : nI ≤ maxLen) (hnW : nW ≤ maxLen) (hnC : nC ≤ maxLen) (hnD : nD ≤ maxLen) :
    Calls Try.prog 13 #[.agg (lA VA nV cV IA nI cI l), .slice WA nW cW, .slice CA nC cC, .slice DA nD cD] w fun e w' => e = .returned (.bool true) ∧ Below w.heap.size w w' := by
  have hb0 := (Below.refl w.heap.size w).alloc (Nat.le_refl _) (.cells (lA VA nV cV IA nI cI l) 27)
  have HB := Lib.hid hb0
  have HRY := Lib.hid (fun (U : World) (hU : Below w.heap.size w U) => ready_c (cV := cV) (cI := cI) (cW := cW) (cC := cC) (h.below hU) (hw.below hU) (hc.below hU) hnV hnI hnW hnC)
  have HXX := Lib.hid (fun U hU => lA_cells (VA := VA) (IA := IA) (nV := nV) (nI := nI) (cV := cV) (cI := cI) (l := l) w (U := U) hU)
  have HL := Lib.hid h; have HW := Lib.hid hw; have HC := Lib.hid hc; have HD := Lib.hid hd; have HDS := Lib.hid hds
  have HAW := Lib.hid (fun (U : World) => awake_c U)
  clear h hw hc hb0 hd hds
  cases hr : readyB l ws c
  · rw [hr] at HRY
    go_enter Try.func13, Try.ntmps13
    go_wp2_with fail
    go_at_call 28
    refine (HRY.out _ HB.out).mono ?_
    rintro e w1 ⟨rfl, hb9⟩
    have t0 := below_tr HB.out hb9
    clear HB
    have HB := Lib.hid t0
    clear t0
    clear hb9 
    go_wp2_with fail
    go_at_call 18
    refine (HAW.out _).mono ?_
    rintro e w1 ⟨rfl, hb9⟩
    have t0 := below_tr HB.out hb9
    clear HB
    have HB := Lib.hid t0
    clear t0
    clear hb9 
    go_wp2_with fail
    go_ret
    exact ⟨rfl, HB.out⟩
  · rw [hr] at HRY
    obtain ⟨hth, hok, hwk, hcho⟩ := readyB_iff.1 hr
    have h30 := hok.n; have h60 := hok.h; have h10 := hwk.n
    have hvl := HL.out.vols.len; have hil := HL.out.infl.len; have hwl := HW.out.len; have hcl := HC.out.len
    have hclen := cho_len hcho
    have HLK := Lib.hid (fun (U : World) (hU : Below w.heap.size w U) => LakeR_c (cV := cV) (cI := cI) (HL.out.below hU) (by omega) (by omega))
    have HWK := Lib.hid (fun (U : World) (hU : Below w.heap.size w U) => WorksR_c (c := cW) (HW.out.below hU) (by omega))
    have HLI := Lib.hid (fun (U : World) (hU : Below w.heap.size w U) => listR_c (c := cC) (HC.out.below hU) (by omega))
    have HHP := Lib.hid (fun (U : World) (hU : Below w.heap.size w U) => happens_c (cV := cV) (cI := cI) (cD := cD) (HL.out.below hU) hok (HD.out.below hU) HDS.out hnD)
    have HLV := Lib.hid (fun (U : World) (hU : Below w.heap.size w U) (v : Int) (hv : 0 ≤ v) => rLevel_c (cV := cV) (cI := cI) (HL.out.below hU) hok hv)
    have HOK := Lib.hid hok; have HWO := Lib.hid hwk; have HCO := Lib.hid hcho
    have HIL := Lib.hid hil
    have hnI : nI ≤ 60 := by omega
    obtain ⟨F1, F2, F3, hF⟩ : ∃ F1 F2 F3, brkRes l ws c = (F1, F2, F3) := ⟨_, _, _, rfl⟩
    obtain ⟨EN, hEN⟩ : ∃ EN, enB l ws c = EN := ⟨_, rfl⟩
    have hbr := brkRes_v hok hwk hcho
    rw [hF] at hbr
    have HBR := Lib.hid hbr; have HF := Lib.hid hF; have HEB := Lib.hid hEN
    have HEN := Lib.hid (enB_iff (l := l) (ws := ws) (c := c))
    clear hbr hF hEN hr hth hok hwk hcho h30 h60 h10 hvl hil hwl hcl hclen hnV hnW hnC hnD
    have HQ := Lib.hid (Below.refl (w.alloc (.cells (lA VA nV cV IA nI cI l) 27)).heap.size (w.alloc (.cells (lA VA nV cV IA nI cI l) 27)))
    go_enter Try.func13, Try.ntmps13
    go_wp2_with fail
    go_at_call 28
    refine (HRY.out _ HB.out).mono ?_
    rintro e w1 ⟨rfl, hb9⟩
    have t0 := below_tr HB.out hb9; have t1 := below_tr HQ.out hb9
    clear HB HQ
    have HB := Lib.hid t0; have HQ := Lib.hid t1
    clear t0 t1
    clear hb9 
    obtain ⟨x0, x1, x2, x3, x4, x5, x6, x7, x8, x9⟩ := HXX.out _ HQ.out
    go_wp2_with fail
    go_at_call 20
    refine (HLK.out _ HB.out).mono ?_
    rintro e w1 ⟨VA', cV', IA', cI', rfl, hcv, hci, hrl, hb9⟩
    have t0 := below_tr HB.out hb9; have t1 := below_tr HQ.out hb9
    clear HB HQ
    have HB := Lib.hid t0; have HQ := Lib.hid t1
    clear t0 t1
    have HRL := Lib.hid hrl
    have HCV := Lib.hid hcv
    have HCI := Lib.hid hci
    clear hb9 hrl hcv hci
    clear x0 x1 x2 x3 x4 x5 x6 x7 x8 x9
    go_wp2_with fail
    go_at_call 21
    refine (HWK.out _ HB.out).mono ?_
    rintro e w1 ⟨WA', cW', rfl, hcw, hrw, hb9⟩
    have t0 := below_tr HB.out hb9; have t1 := below_tr HQ.out hb9; have t2 := HRL.out.below hb9
    clear HB HQ HRL
    have HB := Lib.hid t0; have HQ := Lib.hid t1; have HRL := Lib.hid t2
    clear t0 t1 t2
    have HRW := Lib.hid hrw
    have HCW := Lib.hid hcw
    clear hb9 hrw hcw
    go_wp2_with fail
    go_at_call 27
    refine (HLI.out _ HB.out).mono ?_
    rintro e w1 ⟨CA', cC', rfl, hcc, hrc, hb9⟩
    have t0 := below_tr HB.out hb9; have t1 := below_tr HQ.out hb9; have t2 := HRL.out.below hb9; have t3 := HRW.out.below hb9
    clear HB HQ HRL HRW
    have HB := Lib.hid t0; have HQ := Lib.hid t1; have HRL := Lib.hid t2; have HRW := Lib.hid t3
    clear t0 t1 t2 t3
    have HRC := Lib.hid hrc
    have HCC := Lib.hid hcc
    clear hb9 hrc hcc
    go_wp2_with fail
    go_at_call 32
    refine (Rise_v HRL.out HRW.out HRC.out HCV.out HCI.out HOK.out HWO.out HCO.out).mono ?_
    rintro e w1 ⟨SA, cS, rfl, hcs, hrs, hb9⟩
    have t0 := below_tr HB.out hb9; have t1 := below_tr HQ.out hb9; have t2 := HRL.out.below hb9; have t3 := HRW.out.below hb9; have t4 := HRC.out.below hb9
    clear HB HQ HRL HRW HRC
    have HB := Lib.hid t0; have HQ := Lib.hid t1; have HRL := Lib.hid t2; have HRW := Lib.hid t3; have HRC := Lib.hid t4
    clear t0 t1 t2 t3 t4
    have HRS := Lib.hid hrs
    have HCS := Lib.hid hcs
    clear hb9 hrs hcs
    clear HRL HRW HRC HCV HCI HCW HCC
    obtain ⟨x0, x1, x2, x3, x4, x5, x6, x7, x8, x9⟩ := HXX.out _ HQ.out
    go_wp2_with fail
    go_at_call 20
    refine (HLK.out _ HB.out).mono ?_
    rintro e w1 ⟨VA', cV', IA', cI', rfl, hcv, hci, hrl, hb9⟩
    have t0 := below_tr HB.out hb9; have t1 := below_tr HQ.out hb9; have t2 := HRS.out.below hb9
    clear HB HQ HRS
    have HB := Lib.hid t0; have HQ := Lib.hid t1; have HRS := Lib.hid t2
    clear t0 t1 t2
    have HRL := Lib.hid hrl
    have HCV := Lib.hid hcv
    have HCI := Lib.hid hci
    clear hb9 hrl hcv hci
    clear x0 x1 x2 x3 x4 x5 x6 x7 x8 x9
    go_wp2_with fail
    go_at_call 21
    refine (HWK.out _ HB.out).mono ?_
    rintro e w1 ⟨WA', cW', rfl, hcw, hrw, hb9⟩
    have t0 := below_tr HB.out hb9; have t1 := below_tr HQ.out hb9; have t2 := HRS.out.below hb9; have t3 := HRL.out.below hb9
    clear HB HQ HRS HRL
    have HB := Lib.hid t0; have HQ := Lib.hid t1; have HRS := Lib.hid t2; have HRL := Lib.hid t3
    clear t0 t1 t2 t3
    have HRW := Lib.hid hrw
    have HCW := Lib.hid hcw
    clear hb9 hrw hcw
    go_wp2_with fail
    go_at_call 27
    refine (HLI.out _ HB.out).mono ?_
    rintro e w1 ⟨CA', cC', rfl, hcc, hrc, hb9⟩
    have t0 := below_tr HB.out hb9; have t1 := below_tr HQ.out hb9; have t2 := HRS.out.below hb9; have t3 := HRL.out.below hb9; have t4 := HRW.out.below hb9
    clear HB HQ HRS HRL HRW
    have HB := Lib.hid t0; have HQ := Lib.hid t1; have HRS := Lib.hid t2; have HRL := Lib.hid t3; have HRW := Lib.hid t4
    clear t0 t1 t2 t3 t4
    have HRC := Lib.hid hrc
    have HCC := Lib.hid hcc
    clear hb9 hrc hcc
    go_wp2_with fail
    go_at_call 33
    refine (Break_3 HF.out HRL.out HRW.out HRC.out HCV.out HCI.out HOK.out HWO.out HCO.out).mono ?_
    rintro e w1 ⟨rfl, hb9⟩
    have t0 := below_tr HB.out hb9; have t1 := below_tr HQ.out hb9; have t2 := HRS.out.below hb9; have t3 := HRL.out.below hb9; have t4 := HRW.out.below hb9; have t5 := HRC.out.below hb9
    clear HB HQ HRS HRL HRW HRC
    have HB := Lib.hid t0; have HQ := Lib.hid t1; have HRS := Lib.hid t2; have HRL := Lib.hid t3; have HRW := Lib.hid t4; have HRC := Lib.hid t5
    clear t0 t1 t2 t3 t4 t5
    clear hb9 
    clear HRL HRW HRC HCV HCI HCW HCC
    go_upto_region 5 with fail
    refine wp_region_till [] (fun U => U.cell? ⟨w.heap.size, 0, none⟩ = some (.slice VA nV cV) ∧ U.cell? ⟨w.heap.size, 1, none⟩ = some (.int .i64 l.crest) ∧ U.cell? ⟨w.heap.size, 2, none⟩ = some (.int .i64 l.weak) ∧ U.cell? ⟨w.heap.size, 3, none⟩ = some (.int .i64 l.soft.1) ∧ U.cell? ⟨w.heap.size, 4, none⟩ = some (.int .i64 l.soft.2) ∧ U.cell? ⟨w.heap.size, 5, none⟩ = some (.int .i64 l.start.1) ∧ U.cell? ⟨w.heap.size, 6, none⟩ = some (.int .i64 l.start.2) ∧ U.cell? ⟨w.heap.size, 7, none⟩ = some (.int .i64 l.seep.1) ∧ U.cell? ⟨w.heap.size, 8, none⟩ = some (.int .i64 l.seep.2) ∧ U.cell? ⟨w.heap.size, 9, none⟩ = some (.slice IA nI cI)) (by kernel_rfl) (by exact HXX.out _ HQ.out.drew) (fun hHeld => ?_)
    have hb9 := (Below.refl w1.heap.size w1).drew
    have t0 := below_tr HB.out hb9; have t1 := below_tr HQ.out hb9; have t2 := HRS.out.below hb9
    clear HB HQ HRS
    have HB := Lib.hid t0; have HQ := Lib.hid t1; have HRS := Lib.hid t2
    clear t0 t1 t2
    clear hb9
    revert hHeld HB HQ HRS
    generalize w1.drew = w0
    intro hHeld HB HQ HRS
    (refine wpAnyL_take (n := 0) (i := 0) (oi := ?ox1) (v := ?vx1) ?hix1 ?k1x1 ?k2x1 ?k3x1 ?k4x1 ?k5x1 ?k6x1 ?hQx1 ?hYx1 ?hSx1 ?restx1; (case hix1 => (simp only [List.getElem?_toArray, List.getElem?_cons_succ, List.getElem?_cons_zero]; exact rfl)); (case k1x1 => kernel_rfl); (case k2x1 => kernel_rfl); (case k3x1 => kernel_rfl); (case k4x1 => kernel_rfl); (case k5x1 => kernel_rfl); (case k6x1 => kernel_rfl); (case hSx1 => assumption); (case hYx1 => (refine Or.inl ⟨rfl, ?hyx1⟩; intro w hSw; (try dsimp only at hSw); go_simp; (try with_reducible rfl))); (case hQx1 => exact (fun _ _ _ h => h)); (try simp only [Act.put, List.setIfInBounds_toArray, List.set_cons_zero, List.set_cons_succ]))
    (refine wpAnyL_take (n := 0) (i := 2) (oi := ?ox2) (v := ?vx2) ?hix2 ?k1x2 ?k2x2 ?k3x2 ?k4x2 ?k5x2 ?k6x2 ?hQx2 ?hYx2 ?hSx2 ?restx2; (case hix2 => (simp only [List.getElem?_toArray, List.getElem?_cons_succ, List.getElem?_cons_zero]; exact rfl)); (case k1x2 => kernel_rfl); (case k2x2 => kernel_rfl); (case k3x2 => kernel_rfl); (case k4x2 => kernel_rfl); (case k5x2 => kernel_rfl); (case k6x2 => kernel_rfl); (case hSx2 => assumption); (case hYx2 => (refine Or.inl ⟨rfl, ?hyx2⟩; intro w hSw; (try dsimp only at hSw); go_simp; (try with_reducible rfl))); (case hQx2 => exact (fun _ _ _ h => h)); (try simp only [Act.put, List.setIfInBounds_toArray, List.set_cons_zero, List.set_cons_succ]))
    (refine wpAnyL_take (n := 0) (i := 4) (oi := ?ox3) (v := ?vx3) ?hix3 ?k1x3 ?k2x3 ?k3x3 ?k4x3 ?k5x3 ?k6x3 ?hQx3 ?hYx3 ?hSx3 ?restx3; (case hix3 => (simp only [List.getElem?_toArray, List.getElem?_cons_succ, List.getElem?_cons_zero]; exact rfl)); (case k1x3 => kernel_rfl); (case k2x3 => kernel_rfl); (case k3x3 => kernel_rfl); (case k4x3 => kernel_rfl); (case k5x3 => kernel_rfl); (case k6x3 => kernel_rfl); (case hSx3 => assumption); (case hYx3 => (refine Or.inl ⟨rfl, ?hyx3⟩; intro w hSw; (try dsimp only at hSw); go_simp; (try with_reducible rfl))); (case hQx3 => exact (fun _ _ _ h => h)); (try simp only [Act.put, List.setIfInBounds_toArray, List.set_cons_zero, List.set_cons_succ]))
    (refine wpAnyL_take (n := 0) (i := 6) (oi := ?ox4) (v := ?vx4) ?hix4 ?k1x4 ?k2x4 ?k3x4 ?k4x4 ?k5x4 ?k6x4 ?hQx4 ?hYx4 ?hSx4 ?restx4; (case hix4 => (simp only [List.getElem?_toArray, List.getElem?_cons_succ, List.getElem?_cons_zero]; exact rfl)); (case k1x4 => kernel_rfl); (case k2x4 => kernel_rfl); (case k3x4 => kernel_rfl); (case k4x4 => kernel_rfl); (case k5x4 => kernel_rfl); (case k6x4 => kernel_rfl); (case hSx4 => assumption); (case hYx4 => (refine Or.inl ⟨rfl, ?hyx4⟩; intro w hSw; (try dsimp only at hSw); go_simp; (try with_reducible rfl))); (case hQx4 => exact (fun _ _ _ h => h)); (try simp only [Act.put, List.setIfInBounds_toArray, List.set_cons_zero, List.set_cons_succ]))
    (refine wpAnyL_take (n := 0) (i := 7) (oi := ?ox5) (v := ?vx5) ?hix5 ?k1x5 ?k2x5 ?k3x5 ?k4x5 ?k5x5 ?k6x5 ?hQx5 ?hYx5 ?hSx5 ?restx5; (case hix5 => (simp only [List.getElem?_toArray, List.getElem?_cons_succ, List.getElem?_cons_zero]; exact rfl)); (case k1x5 => kernel_rfl); (case k2x5 => kernel_rfl); (case k3x5 => kernel_rfl); (case k4x5 => kernel_rfl); (case k5x5 => kernel_rfl); (case k6x5 => kernel_rfl); (case hSx5 => assumption); (case hYx5 => (refine Or.inl ⟨rfl, ?hyx5⟩; intro w hSw; (try dsimp only at hSw); go_simp; (try with_reducible rfl))); (case hQx5 => exact (fun _ _ _ h => h)); (try simp only [Act.put, List.setIfInBounds_toArray, List.set_cons_zero, List.set_cons_succ]))
    refine wpAnyL_ready (rs := [1]) (by kernel_rfl) (by simp) ?_
    refine AllReadyL.cons (o := ?o1x6) ?hi1x6 (fun K hK => ?_) AllReadyL.nil
    (case hi1x6 => (simp only [List.getElem?_toArray, List.getElem?_cons_succ, List.getElem?_cons_zero]; exact rfl))
    go_simp
    go_at_call 20
    refine (HLK.out _ HB.out).mono ?_
    rintro e w1 ⟨VA', cV', IA', cI', rfl, hcv, hci, hrl, hb9⟩
    have t0 := below_tr HB.out hb9; have t1 := below_tr HQ.out hb9; have t2 := HRS.out.below hb9
    clear HB HQ HRS
    have HB := Lib.hid t0; have HQ := Lib.hid t1; have HRS := Lib.hid t2
    clear t0 t1 t2
    have HRL := Lib.hid hrl
    have HCV := Lib.hid hcv
    have HCI := Lib.hid hci
    clear hb9 hrl hcv hci
    (try go_wp2_with fail)
    (try clear hHeld)
    refine hK.out _ _ (by (try dsimp only); exact HXX.out _ HQ.out) (fun hHeld => ?_)
    clear hK K
    (try simp only [Act.put, List.setIfInBounds_toArray, List.set_cons_zero, List.set_cons_succ])
    refine wpAnyL_ready (rs := [3]) (by kernel_rfl) (by simp) ?_
    refine AllReadyL.cons (o := ?o3x7) ?hi3x7 (fun K hK => ?_) AllReadyL.nil
    (case hi3x7 => (simp only [List.getElem?_toArray, List.getElem?_cons_succ, List.getElem?_cons_zero]; exact rfl))
    go_simp
    go_at_call 21
    refine (HWK.out _ HB.out).mono ?_
    rintro e w1 ⟨WA', cW', rfl, hcw, hrw, hb9⟩
    have t0 := below_tr HB.out hb9; have t1 := below_tr HQ.out hb9; have t2 := HRS.out.below hb9; have t3 := HRL.out.below hb9
    clear HB HQ HRS HRL
    have HB := Lib.hid t0; have HQ := Lib.hid t1; have HRS := Lib.hid t2; have HRL := Lib.hid t3
    clear t0 t1 t2 t3
    have HRW := Lib.hid hrw
    have HCW := Lib.hid hcw
    clear hb9 hrw hcw
    (try go_wp2_with fail)
    (try clear hHeld)
    refine hK.out _ _ (by (try dsimp only); exact HXX.out _ HQ.out) (fun hHeld => ?_)
    clear hK K
    (try simp only [Act.put, List.setIfInBounds_toArray, List.set_cons_zero, List.set_cons_succ])
    refine wpAnyL_ready (rs := [5]) (by kernel_rfl) (by simp) ?_
    refine AllReadyL.cons (o := ?o5x8) ?hi5x8 (fun K hK => ?_) AllReadyL.nil
    (case hi5x8 => (simp only [List.getElem?_toArray, List.getElem?_cons_succ, List.getElem?_cons_zero]; exact rfl))
    go_simp
    go_at_call 27
    refine (HLI.out _ HB.out).mono ?_
    rintro e w1 ⟨CA', cC', rfl, hcc, hrc, hb9⟩
    have t0 := below_tr HB.out hb9; have t1 := below_tr HQ.out hb9; have t2 := HRS.out.below hb9; have t3 := HRL.out.below hb9; have t4 := HRW.out.below hb9
    clear HB HQ HRS HRL HRW
    have HB := Lib.hid t0; have HQ := Lib.hid t1; have HRS := Lib.hid t2; have HRL := Lib.hid t3; have HRW := Lib.hid t4
    clear t0 t1 t2 t3 t4
    have HRC := Lib.hid hrc
    have HCC := Lib.hid hcc
    clear hb9 hrc hcc
    (try go_wp2_with fail)
    (try clear hHeld)
    refine hK.out _ _ (by (try dsimp only); exact HXX.out _ HQ.out) (fun hHeld => ?_)
    clear hK K
    (try simp only [Act.put, List.setIfInBounds_toArray, List.set_cons_zero, List.set_cons_succ])
    refine wpAnyL_ready (rs := [8]) (by kernel_rfl) (by simp) ?_
    refine AllReadyL.cons (o := ?o8x9) ?hi8x9 (fun K hK => ?_) AllReadyL.nil
    (case hi8x9 => (simp only [List.getElem?_toArray, List.getElem?_cons_succ, List.getElem?_cons_zero]; exact rfl))
    go_simp
    go_at_call 49
    refine (HHP.out _ HB.out).mono ?_
    rintro e w1 ⟨FA, cF, EA, cE, x, rfl, hrx, hcf, hce, hft, hb9⟩
    have t0 := below_tr HB.out hb9; have t1 := below_tr HQ.out hb9; have t2 := HRS.out.below hb9; have t3 := HRL.out.below hb9; have t4 := HRW.out.below hb9; have t5 := HRC.out.below hb9
    clear HB HQ HRS HRL HRW HRC
    have HB := Lib.hid t0; have HQ := Lib.hid t1; have HRS := Lib.hid t2; have HRL := Lib.hid t3; have HRW := Lib.hid t4; have HRC := Lib.hid t5
    clear t0 t1 t2 t3 t4 t5
    have HRX := Lib.hid hrx
    have HFT := Lib.hid hft
    clear hb9 hrx hft
    clear hcf hce
    (try go_wp2_with fail)
    (try clear hHeld)
    refine hK.out _ _ (by (try dsimp only); exact HXX.out _ HQ.out) (fun hHeld => ?_)
    clear hK K
    (try simp only [Act.put, List.setIfInBounds_toArray, List.set_cons_zero, List.set_cons_succ])
    refine wpAnyL_ready (rs := [9]) (by kernel_rfl) (by simp) ?_
    refine AllReadyL.cons (o := ?o9x10) ?hi9x10 (fun K hK => ?_) AllReadyL.nil
    (case hi9x10 => (simp only [List.getElem?_toArray, List.getElem?_cons_succ, List.getElem?_cons_zero]; exact rfl))
    go_simp
    go_at_call 40
    refine (Real_c HRX.out (by omega) (by omega)).mono ?_
    rintro e w1 ⟨FA', cF', EA', cE', rfl, hrx, hcf, hce, hb9⟩
    have t0 := below_tr HB.out hb9; have t1 := below_tr HQ.out hb9; have t2 := HRS.out.below hb9; have t3 := HRL.out.below hb9; have t4 := HRW.out.below hb9; have t5 := HRC.out.below hb9; have t6 := HRX.out.below hb9
    clear HB HQ HRS HRL HRW HRC HRX
    have HB := Lib.hid t0; have HQ := Lib.hid t1; have HRS := Lib.hid t2; have HRL := Lib.hid t3; have HRW := Lib.hid t4; have HRC := Lib.hid t5; have HRX := Lib.hid t6
    clear t0 t1 t2 t3 t4 t5 t6
    have HRY2 := Lib.hid hrx
    clear hb9 hrx
    clear hcf hce
    (try go_wp2_with fail)
    (try clear hHeld)
    refine hK.out _ _ (by (try dsimp only); exact HXX.out _ HQ.out) (fun hHeld => ?_)
    clear hK K
    (try simp only [Act.put, List.setIfInBounds_toArray, List.set_cons_zero, List.set_cons_succ])
    refine wpAnyL_ready (rs := [10]) (by kernel_rfl) (by simp) ?_
    refine AllReadyL.cons (o := ?o10x11) ?hi10x11 (fun K hK => ?_) AllReadyL.nil
    (case hi10x11 => (simp only [List.getElem?_toArray, List.getElem?_cons_succ, List.getElem?_cons_zero]; exact rfl))
    go_simp
    go_at_call 39
    refine (Fill_3 HRL.out HRW.out HRC.out HRY2.out HCV.out HCI.out HOK.out HWO.out HCO.out HFT.out).mono ?_
    rintro e w1 ⟨RA, cR, N, B, FV, rfl, hcr, hrr, hff, hb9⟩
    have t0 := below_tr HB.out hb9; have t1 := below_tr HQ.out hb9; have t2 := HRS.out.below hb9; have t3 := HRL.out.below hb9; have t4 := HRW.out.below hb9; have t5 := HRC.out.below hb9; have t6 := HRX.out.below hb9; have t7 := HRY2.out.below hb9
    clear HB HQ HRS HRL HRW HRC HRX HRY2
    have HB := Lib.hid t0; have HQ := Lib.hid t1; have HRS := Lib.hid t2; have HRL := Lib.hid t3; have HRW := Lib.hid t4; have HRC := Lib.hid t5; have HRX := Lib.hid t6; have HRY2 := Lib.hid t7
    clear t0 t1 t2 t3 t4 t5 t6 t7
    have HRR := Lib.hid hrr
    have HCR := Lib.hid hcr
    have HFF := Lib.hid hff
    clear hb9 hrr hcr hff
    clear HRL HRW HRC HRX HRY2 HCV HCI HCW HCC
    (try go_wp2_with fail)
    (try clear hHeld)
    refine hK.out _ _ (by (try dsimp only); exact HXX.out _ HQ.out) (fun hHeld => ?_)
    clear hK K
    (try simp only [Act.put, List.setIfInBounds_toArray, List.set_cons_zero, List.set_cons_succ])
    (refine wpAnyL_take (n := 0) (i := 11) (oi := ?ox12) (v := ?vx12) ?hix12 ?k1x12 ?k2x12 ?k3x12 ?k4x12 ?k5x12 ?k6x12 ?hQx12 ?hYx12 ?hSx12 ?restx12; (case hix12 => (simp only [List.getElem?_toArray, List.getElem?_cons_succ, List.getElem?_cons_zero]; exact rfl)); (case k1x12 => kernel_rfl); (case k2x12 => kernel_rfl); (case k3x12 => kernel_rfl); (case k4x12 => kernel_rfl); (case k5x12 => kernel_rfl); (case k6x12 => kernel_rfl); (case hSx12 => assumption); (case hYx12 => (refine Or.inl ⟨rfl, ?hyx12⟩; intro w hSw; (try dsimp only at hSw); go_simp; (try with_reducible rfl))); (case hQx12 => exact (fun _ _ _ h => h)); (try simp only [Act.put, List.setIfInBounds_toArray, List.set_cons_zero, List.set_cons_succ]))
    (refine wpAnyL_take (n := 0) (i := 12) (oi := ?ox13) (v := ?vx13) ?hix13 ?k1x13 ?k2x13 ?k3x13 ?k4x13 ?k5x13 ?k6x13 ?hQx13 ?hYx13 ?hSx13 ?restx13; (case hix13 => (simp only [List.getElem?_toArray, List.getElem?_cons_succ, List.getElem?_cons_zero]; exact rfl)); (case k1x13 => kernel_rfl); (case k2x13 => kernel_rfl); (case k3x13 => kernel_rfl); (case k4x13 => kernel_rfl); (case k5x13 => kernel_rfl); (case k6x13 => kernel_rfl); (case hSx13 => assumption); (case hYx13 => (refine Or.inl ⟨rfl, ?hyx13⟩; intro w hSw; (try dsimp only at hSw); go_simp; (try with_reducible rfl))); (case hQx13 => exact (fun _ _ _ h => h)); (try simp only [Act.put, List.setIfInBounds_toArray, List.set_cons_zero, List.set_cons_succ]))
    (refine wpAnyL_take (n := 0) (i := 13) (oi := ?ox14) (v := ?vx14) ?hix14 ?k1x14 ?k2x14 ?k3x14 ?k4x14 ?k5x14 ?k6x14 ?hQx14 ?hYx14 ?hSx14 ?restx14; (case hix14 => (simp only [List.getElem?_toArray, List.getElem?_cons_succ, List.getElem?_cons_zero]; exact rfl)); (case k1x14 => kernel_rfl); (case k2x14 => kernel_rfl); (case k3x14 => kernel_rfl); (case k4x14 => kernel_rfl); (case k5x14 => kernel_rfl); (case k6x14 => kernel_rfl); (case hSx14 => assumption); (case hYx14 => (refine Or.inl ⟨rfl, ?hyx14⟩; intro w hSw; (try dsimp only at hSw); go_simp; (try with_reducible rfl))); (case hQx14 => exact (fun _ _ _ h => h)); (try simp only [Act.put, List.setIfInBounds_toArray, List.set_cons_zero, List.set_cons_succ]))
    (refine wpAnyL_take (n := 0) (i := 14) (oi := ?ox15) (v := ?vx15) ?hix15 ?k1x15 ?k2x15 ?k3x15 ?k4x15 ?k5x15 ?k6x15 ?hQx15 ?hYx15 ?hSx15 ?restx15; (case hix15 => (simp only [List.getElem?_toArray, List.getElem?_cons_succ, List.getElem?_cons_zero]; exact rfl)); (case k1x15 => kernel_rfl); (case k2x15 => kernel_rfl); (case k3x15 => kernel_rfl); (case k4x15 => kernel_rfl); (case k5x15 => kernel_rfl); (case k6x15 => kernel_rfl); (case hSx15 => assumption); (case hYx15 => (refine Or.inl ⟨rfl, ?hyx15⟩; intro w hSw; (try dsimp only at hSw); go_simp; (try with_reducible rfl))); (case hQx15 => exact (fun _ _ _ h => h)); (try simp only [Act.put, List.setIfInBounds_toArray, List.set_cons_zero, List.set_cons_succ]))
    (refine wpAnyL_take (n := 0) (i := 15) (oi := ?ox16) (v := ?vx16) ?hix16 ?k1x16 ?k2x16 ?k3x16 ?k4x16 ?k5x16 ?k6x16 ?hQx16 ?hYx16 ?hSx16 ?restx16; (case hix16 => (simp only [List.getElem?_toArray, List.getElem?_cons_succ, List.getElem?_cons_zero]; exact rfl)); (case k1x16 => kernel_rfl); (case k2x16 => kernel_rfl); (case k3x16 => kernel_rfl); (case k4x16 => kernel_rfl); (case k5x16 => kernel_rfl); (case k6x16 => kernel_rfl); (case hSx16 => assumption); (case hYx16 => (refine Or.inl ⟨rfl, ?hyx16⟩; intro w hSw; (try dsimp only at hSw); go_simp; (try with_reducible rfl))); (case hQx16 => exact (fun _ _ _ h => h)); (try simp only [Act.put, List.setIfInBounds_toArray, List.set_cons_zero, List.set_cons_succ]))
    (refine wpAnyL_take (n := 0) (i := 16) (oi := ?ox17) (v := ?vx17) ?hix17 ?k1x17 ?k2x17 ?k3x17 ?k4x17 ?k5x17 ?k6x17 ?hQx17 ?hYx17 ?hSx17 ?restx17; (case hix17 => (simp only [List.getElem?_toArray, List.getElem?_cons_succ, List.getElem?_cons_zero]; exact rfl)); (case k1x17 => kernel_rfl); (case k2x17 => kernel_rfl); (case k3x17 => kernel_rfl); (case k4x17 => kernel_rfl); (case k5x17 => kernel_rfl); (case k6x17 => kernel_rfl); (case hSx17 => assumption); (case hYx17 => (refine Or.inl ⟨rfl, ?hyx17⟩; intro w hSw; (try dsimp only at hSw); go_simp; (try with_reducible rfl))); (case hQx17 => exact (fun _ _ _ h => h)); (try simp only [Act.put, List.setIfInBounds_toArray, List.set_cons_zero, List.set_cons_succ]))
    (refine wpAnyL_take (n := 0) (i := 17) (oi := ?ox18) (v := ?vx18) ?hix18 ?k1x18 ?k2x18 ?k3x18 ?k4x18 ?k5x18 ?k6x18 ?hQx18 ?hYx18 ?hSx18 ?restx18; (case hix18 => (simp only [List.getElem?_toArray, List.getElem?_cons_succ, List.getElem?_cons_zero]; exact rfl)); (case k1x18 => kernel_rfl); (case k2x18 => kernel_rfl); (case k3x18 => kernel_rfl); (case k4x18 => kernel_rfl); (case k5x18 => kernel_rfl); (case k6x18 => kernel_rfl); (case hSx18 => assumption); (case hYx18 => (refine Or.inl ⟨rfl, ?hyx18⟩; intro w hSw; (try dsimp only at hSw); go_simp; (try with_reducible rfl))); (case hQx18 => exact (fun _ _ _ h => h)); (try simp only [Act.put, List.setIfInBounds_toArray, List.set_cons_zero, List.set_cons_succ]))
    (refine wpAnyL_done (by kernel_rfl) ?_ _)
    obtain ⟨H, hwf, hhr⟩ := what_f (ws := ws) (c := c) HOK.out HFT.out
    rw [HFF.out.1, HFF.out.2.1] at hwf
    rw [HFF.out.2.2] at hhr
    have HWF := Lib.hid hwf; have HHR := Lib.hid hhr
    clear hwf hhr
    obtain ⟨x0, x1, x2, x3, x4, x5, x6, x7, x8, x9⟩ := HXX.out _ HQ.out
    go_wp2_with fail
    go_at_call 20
    refine (HLK.out _ HB.out).mono ?_
    rintro e w1 ⟨VA', cV', IA', cI', rfl, hcv, hci, hrl, hb9⟩
    have t0 := below_tr HB.out hb9; have t1 := below_tr HQ.out hb9; have t2 := HRS.out.below hb9; have t3 := HRR.out.below hb9
    clear HB HQ HRS HRR
    have HB := Lib.hid t0; have HQ := Lib.hid t1; have HRS := Lib.hid t2; have HRR := Lib.hid t3
    clear t0 t1 t2 t3
    have HRL := Lib.hid hrl
    have HCV := Lib.hid hcv
    have HCI := Lib.hid hci
    clear hb9 hrl hcv hci
    clear x0 x1 x2 x3 x4 x5 x6 x7 x8 x9
    go_wp2_with fail
    go_at_call 21
    refine (HWK.out _ HB.out).mono ?_
    rintro e w1 ⟨WA', cW', rfl, hcw, hrw, hb9⟩
    have t0 := below_tr HB.out hb9; have t1 := below_tr HQ.out hb9; have t2 := HRS.out.below hb9; have t3 := HRR.out.below hb9; have t4 := HRL.out.below hb9
    clear HB HQ HRS HRR HRL
    have HB := Lib.hid t0; have HQ := Lib.hid t1; have HRS := Lib.hid t2; have HRR := Lib.hid t3; have HRL := Lib.hid t4
    clear t0 t1 t2 t3 t4
    have HRW := Lib.hid hrw
    have HCW := Lib.hid hcw
    clear hb9 hrw hcw
    go_wp2_with fail
    go_at_call 27
    refine (HLI.out _ HB.out).mono ?_
    rintro e w1 ⟨CA', cC', rfl, hcc, hrc, hb9⟩
    have t0 := below_tr HB.out hb9; have t1 := below_tr HQ.out hb9; have t2 := HRS.out.below hb9; have t3 := HRR.out.below hb9; have t4 := HRL.out.below hb9; have t5 := HRW.out.below hb9
    clear HB HQ HRS HRR HRL HRW
    have HB := Lib.hid t0; have HQ := Lib.hid t1; have HRS := Lib.hid t2; have HRR := Lib.hid t3; have HRL := Lib.hid t4; have HRW := Lib.hid t5
    clear t0 t1 t2 t3 t4 t5
    have HRC := Lib.hid hrc
    have HCC := Lib.hid hcc
    clear hb9 hrc hcc
    go_wp2_with fail
    go_at_call 26
    refine (Prove_3 HEB.out HRL.out HRW.out HRC.out HCV.out HCI.out HOK.out HWO.out HCO.out).mono ?_
    rintro e w1 ⟨rfl, hb9⟩
    have t0 := below_tr HB.out hb9; have t1 := below_tr HQ.out hb9; have t2 := HRS.out.below hb9; have t3 := HRR.out.below hb9; have t4 := HRL.out.below hb9; have t5 := HRW.out.below hb9; have t6 := HRC.out.below hb9
    clear HB HQ HRS HRR HRL HRW HRC
    have HB := Lib.hid t0; have HQ := Lib.hid t1; have HRS := Lib.hid t2; have HRR := Lib.hid t3; have HRL := Lib.hid t4; have HRW := Lib.hid t5; have HRC := Lib.hid t6
    clear t0 t1 t2 t3 t4 t5 t6
    clear hb9 
    clear HRL HRW HRC HCV HCI HCW HCC
    go_upto_if 86 with (fail)
    go_cut [18] (fun v wx => v = .int .i64 H ∧ wx = w1)
    case first =>
      have hil := HIL.out; have hen := HEN.out; have heb := HEB.out
      rw [heb] at hen
      rcases HWF.out with ⟨rfl, e2, rfl, h4⟩ | ⟨k, hk, rfl, rfl, rfl, f1, f2, f3⟩
      · rw [hil] at e2
        subst e2
        rcases HBR.out with ⟨g1, g2⟩ | ⟨g1, g2⟩
        · obtain ⟨rfl, rfl, rfl⟩ : F1 = 0 ∧ F2 = 0 ∧ F3 = 7 := by simpa using g2
          obtain rfl := hen.2 g1
          clear h4 hil g1 g2 hen heb
          obtain ⟨x0, x1, x2, x3, x4, x5, x6, x7, x8, x9⟩ := HXX.out _ HQ.out
          go_wp2_with fail
          go_meet
          exact ⟨rfl, rfl⟩
        · obtain rfl : EN = false := by
            cases EN
            · rfl
            · have := hen.1 rfl; omega
          have h5 : brkE (aftL l (netL l ws c)) = -1 := by omega
          rw [h5] at g2
          obtain ⟨_, rfl, rfl⟩ : F1 = brkF (aftL l (netL l ws c)) ∧ F2 = -1 ∧ F3 = 0 := by simpa using g2
          clear h4 hil g1 g2 hen heb h5
          obtain ⟨x0, x1, x2, x3, x4, x5, x6, x7, x8, x9⟩ := HXX.out _ HQ.out
          go_wp2_with fail
          go_meet
          exact ⟨rfl, rfl⟩
      · rcases HBR.out with ⟨g1, g2⟩ | ⟨g1, g2⟩
        · omega
        · obtain rfl : EN = false := by
            cases EN
            · rfl
            · have := hen.1 rfl; omega
          obtain ⟨g3, g4, rfl⟩ : F1 = brkF (aftL l (netL l ws c)) ∧ F2 = brkE (aftL l (netL l ws c)) ∧ F3 = 0 := by simpa using g2
          rw [← g3] at f1 f2
          rw [← g4] at f3
          have hk60 : (H : Int) < 60 := by omega
          clear hil g1 g2 hen heb g3 g4
          have hn1 : ((H : Int) + 1 != (H : Int) + 1) = false := by simp
          by_cases h0 : 0 ≤ F2
          · have h1 : ¬ (H : Int) > F2 := by omega
            clear f3
            obtain ⟨x0, x1, x2, x3, x4, x5, x6, x7, x8, x9⟩ := HXX.out _ HQ.out
            go_wp2_with fail
            go_meet
            exact ⟨rfl, rfl⟩
          · clear f3
            obtain ⟨x0, x1, x2, x3, x4, x5, x6, x7, x8, x9⟩ := HXX.out _ HQ.out
            go_wp2_with fail
            go_meet
            exact ⟨rfl, rfl⟩
    case rest =>
      obtain ⟨rfl, rfl⟩ := hcut
      have hen := HEN.out; have heb := HEB.out
      rw [heb] at hen
      have hor : (EN = true ∧ F3 = 7) ∨ (EN = false ∧ F3 = 0) := by
        rcases HBR.out with ⟨g1, g2⟩ | ⟨g1, g2⟩
        · exact .inl ⟨hen.2 g1, by simpa using congrArg (·.2.2) g2⟩
        · refine .inr ⟨?_, by simpa using congrArg (·.2.2) g2⟩
          cases EN
          · rfl
          · have := hen.1 rfl; omega
      have hHn : H ≤ nI ∧ H ≤ N := by
        have hil := HIL.out
        rcases HWF.out with ⟨_, e2, e3, _⟩ | ⟨k, hk, _, e2, e3, _⟩ <;> omega
      have HEND := Lib.hid hHn
      clear hen heb hHn
      go_upto_if 143 with (fail)
      go_cut [] (fun wx => wx = wc)
      case first =>
        rcases hor with ⟨rfl, rfl⟩ | ⟨rfl, rfl⟩
        · go_wp2_with fail
          go_meet
          exact rfl
        · go_wp2_with fail
          go_meet
          exact rfl
      case rest =>
        obtain rfl := hcut
        clear hor
        go_wp2_with fail
        go_loopw [19] (fun i wr => ∃ k : Nat, k ≤ H ∧ i = .int .i64 k ∧ Below wc.heap.size wc wr) (fun i _ => H - (intOf i).toNat)
        case atStart => exact ⟨0, Nat.zero_le _, rfl, Below.refl _ _⟩
        case round =>
          obtain ⟨k, hk, rfl, hbr⟩ := hrel
          have hend := HEND.out
          obtain ⟨W2, hW2⟩ : ∃ W2, W2 = wr := ⟨_, rfl⟩
          rw [← hW2] at hbr ⊢
          clear hW2
          by_cases hlt : k < H
          · obtain ⟨bs, os, s, rfl, hbs, hs, s0, s1, s2, s3⟩ := (HRS.out.below hbr).atT (i := k) (by omega)
            obtain ⟨bv, ov, v, rfl, hbv, hv, v0⟩ := (HRR.out.below hbr).at1 (i := k) (by omega)
            obtain ⟨g1, g2, g3, g4, g5⟩ := HHR.out k s v hlt hs hv
            obtain ⟨sh, sl, si, sv⟩ := s
            simp only at g1 g2 g3 g4 g5 s0 s1 s2 s3
            subst g1
            have HLV2 := Lib.hid (HLV.out · · si g5)
            obtain ⟨x0, x1, x2, x3, x4, x5, x6, x7, x8, x9⟩ := HXX.out _ (below_tr HQ.out hbr)
            have hkH : (k : Int) < (H : Int) := by omega
            have hkn : (k : Int) < (nI : Int) := by omega
            have hkN : (k : Int) < (N : Int) := by omega
            have hk0 : (0 : Int) ≤ (k : Int) := by omega
            have d1 : decide (v < sl) = false := by simp; omega
            have d2 : decide (si < v) = false := by simp; omega
            obtain ⟨LV, hLV⟩ : ∃ LV, LV = levOf l.vols si := ⟨_, rfl⟩
            rw [← hLV] at HLV2 g4
            subst g4
            have d3 : (sv != sv) = false := by simp
            have HS9 := Lib.hid (fun (U : World) (hU : Below W2.heap.size W2 U) => show U.cell? ⟨w.heap.size, 0, none⟩ = some (.slice VA nV cV) ∧ U.cell? ⟨w.heap.size, 1, none⟩ = some (.int .i64 l.crest) ∧ U.cell? ⟨w.heap.size, 2, none⟩ = some (.int .i64 l.weak) ∧ U.cell? ⟨w.heap.size, 3, none⟩ = some (.int .i64 l.soft.1) ∧ U.cell? ⟨w.heap.size, 4, none⟩ = some (.int .i64 l.soft.2) ∧ U.cell? ⟨w.heap.size, 5, none⟩ = some (.int .i64 l.start.1) ∧ U.cell? ⟨w.heap.size, 6, none⟩ = some (.int .i64 l.start.2) ∧ U.cell? ⟨w.heap.size, 7, none⟩ = some (.int .i64 l.seep.1) ∧ U.cell? ⟨w.heap.size, 8, none⟩ = some (.int .i64 l.seep.2) ∧ U.cell? ⟨w.heap.size, 9, none⟩ = some (.slice IA nI cI) ∧ U.cell? ⟨bs, os + k * 4, none⟩ = some (.bool true) ∧ U.cell? ⟨bs, os + k * 4 + 1, none⟩ = some (.int .i64 sl) ∧ U.cell? ⟨bs, os + k * 4 + 2, none⟩ = some (.int .i64 si) ∧ U.cell? ⟨bs, os + k * 4 + 3, none⟩ = some (.int .i64 sv) ∧ U.cell? ⟨bv, ov + k, none⟩ = some (.int .i64 v) from
              ⟨bel_keep hU x0, bel_keep hU x1, bel_keep hU x2, bel_keep hU x3, bel_keep hU x4, bel_keep hU x5, bel_keep hU x6, bel_keep hU x7, bel_keep hU x8, bel_keep hU x9, bel_keep hU s0, bel_keep hU s1, bel_keep hU s2, bel_keep hU s3, bel_keep hU v0⟩)
            have HB2 := Lib.hid (below_tr HB.out hbr); have HB3 := Lib.hid hbr
            have HB4 := Lib.hid (Below.refl W2.heap.size W2)
            have HLT := Lib.hid hlt
            clear x0 x1 x2 x3 x4 x5 x6 x7 x8 x9 s0 s1 s2 s3 v0 hs hv hbr hlt g2 g3 hLV
            go_upto_region 21 with fail
            refine wp_region_till [] (fun U => U.cell? ⟨w.heap.size, 0, none⟩ = some (.slice VA nV cV) ∧ U.cell? ⟨w.heap.size, 1, none⟩ = some (.int .i64 l.crest) ∧ U.cell? ⟨w.heap.size, 2, none⟩ = some (.int .i64 l.weak) ∧ U.cell? ⟨w.heap.size, 3, none⟩ = some (.int .i64 l.soft.1) ∧ U.cell? ⟨w.heap.size, 4, none⟩ = some (.int .i64 l.soft.2) ∧ U.cell? ⟨w.heap.size, 5, none⟩ = some (.int .i64 l.start.1) ∧ U.cell? ⟨w.heap.size, 6, none⟩ = some (.int .i64 l.start.2) ∧ U.cell? ⟨w.heap.size, 7, none⟩ = some (.int .i64 l.seep.1) ∧ U.cell? ⟨w.heap.size, 8, none⟩ = some (.int .i64 l.seep.2) ∧ U.cell? ⟨w.heap.size, 9, none⟩ = some (.slice IA nI cI) ∧ U.cell? ⟨bs, os + k * 4, none⟩ = some (.bool true) ∧ U.cell? ⟨bs, os + k * 4 + 1, none⟩ = some (.int .i64 sl) ∧ U.cell? ⟨bs, os + k * 4 + 2, none⟩ = some (.int .i64 si) ∧ U.cell? ⟨bs, os + k * 4 + 3, none⟩ = some (.int .i64 sv) ∧ U.cell? ⟨bv, ov + k, none⟩ = some (.int .i64 v)) (by kernel_rfl) (by exact HS9.out _ HB4.out.drew) (fun hHeld => ?_)
            have hb9 := (Below.refl W2.heap.size W2).drew
            have t0 := below_tr HB2.out hb9; have t1 := below_tr HB3.out hb9; have t2 := below_tr HB4.out hb9
            clear HB2 HB3 HB4
            have HB2 := Lib.hid t0; have HB3 := Lib.hid t1; have HB4 := Lib.hid t2
            clear t0 t1 t2
            clear hb9
            revert hHeld HB2 HB3 HB4
            generalize W2.drew = w0
            intro hHeld HB2 HB3 HB4
            (refine wpAnyL_take (n := 0) (i := 0) (oi := ?ox19) (v := ?vx19) ?hix19 ?k1x19 ?k2x19 ?k3x19 ?k4x19 ?k5x19 ?k6x19 ?hQx19 ?hYx19 ?hSx19 ?restx19; (case hix19 => (simp only [List.getElem?_toArray, List.getElem?_cons_succ, List.getElem?_cons_zero]; exact rfl)); (case k1x19 => kernel_rfl); (case k2x19 => kernel_rfl); (case k3x19 => kernel_rfl); (case k4x19 => kernel_rfl); (case k5x19 => kernel_rfl); (case k6x19 => kernel_rfl); (case hSx19 => assumption); (case hYx19 => (refine Or.inl ⟨rfl, ?hyx19⟩; intro w hSw; (try dsimp only at hSw); go_simp; (try with_reducible rfl))); (case hQx19 => exact (fun _ _ _ h => h)); (try simp only [Act.put, List.setIfInBounds_toArray, List.set_cons_zero, List.set_cons_succ]))
            (refine wpAnyL_take (n := 0) (i := 1) (oi := ?ox20) (v := ?vx20) ?hix20 ?k1x20 ?k2x20 ?k3x20 ?k4x20 ?k5x20 ?k6x20 ?hQx20 ?hYx20 ?hSx20 ?restx20; (case hix20 => (simp only [List.getElem?_toArray, List.getElem?_cons_succ, List.getElem?_cons_zero]; exact rfl)); (case k1x20 => kernel_rfl); (case k2x20 => kernel_rfl); (case k3x20 => kernel_rfl); (case k4x20 => kernel_rfl); (case k5x20 => kernel_rfl); (case k6x20 => kernel_rfl); (case hSx20 => assumption); (case hYx20 => (refine Or.inl ⟨rfl, ?hyx20⟩; intro w hSw; (try dsimp only at hSw); go_simp; (try with_reducible rfl))); (case hQx20 => exact (fun _ _ _ h => h)); (try simp only [Act.put, List.setIfInBounds_toArray, List.set_cons_zero, List.set_cons_succ]))
            (refine wpAnyL_take (n := 0) (i := 2) (oi := ?ox21) (v := ?vx21) ?hix21 ?k1x21 ?k2x21 ?k3x21 ?k4x21 ?k5x21 ?k6x21 ?hQx21 ?hYx21 ?hSx21 ?restx21; (case hix21 => (simp only [List.getElem?_toArray, List.getElem?_cons_succ, List.getElem?_cons_zero]; exact rfl)); (case k1x21 => kernel_rfl); (case k2x21 => kernel_rfl); (case k3x21 => kernel_rfl); (case k4x21 => kernel_rfl); (case k5x21 => kernel_rfl); (case k6x21 => kernel_rfl); (case hSx21 => assumption); (case hYx21 => (refine Or.inl ⟨rfl, ?hyx21⟩; intro w hSw; (try dsimp only at hSw); go_simp; (try with_reducible rfl))); (case hQx21 => exact (fun _ _ _ h => h)); (try simp only [Act.put, List.setIfInBounds_toArray, List.set_cons_zero, List.set_cons_succ]))
            (refine wpAnyL_take (n := 0) (i := 3) (oi := ?ox22) (v := ?vx22) ?hix22 ?k1x22 ?k2x22 ?k3x22 ?k4x22 ?k5x22 ?k6x22 ?hQx22 ?hYx22 ?hSx22 ?restx22; (case hix22 => (simp only [List.getElem?_toArray, List.getElem?_cons_succ, List.getElem?_cons_zero]; exact rfl)); (case k1x22 => kernel_rfl); (case k2x22 => kernel_rfl); (case k3x22 => kernel_rfl); (case k4x22 => kernel_rfl); (case k5x22 => kernel_rfl); (case k6x22 => kernel_rfl); (case hSx22 => assumption); (case hYx22 => (refine Or.inl ⟨rfl, ?hyx22⟩; intro w hSw; (try dsimp only at hSw); go_simp; (try with_reducible rfl))); (case hQx22 => exact (fun _ _ _ h => h)); (try simp only [Act.put, List.setIfInBounds_toArray, List.set_cons_zero, List.set_cons_succ]))
            (refine wpAnyL_take (n := 0) (i := 4) (oi := ?ox23) (v := ?vx23) ?hix23 ?k1x23 ?k2x23 ?k3x23 ?k4x23 ?k5x23 ?k6x23 ?hQx23 ?hYx23 ?hSx23 ?restx23; (case hix23 => (simp only [List.getElem?_toArray, List.getElem?_cons_succ, List.getElem?_cons_zero]; exact rfl)); (case k1x23 => kernel_rfl); (case k2x23 => kernel_rfl); (case k3x23 => kernel_rfl); (case k4x23 => kernel_rfl); (case k5x23 => kernel_rfl); (case k6x23 => kernel_rfl); (case hSx23 => assumption); (case hYx23 => (refine Or.inl ⟨rfl, ?hyx23⟩; intro w hSw; (try dsimp only at hSw); go_simp; (try with_reducible rfl))); (case hQx23 => exact (fun _ _ _ h => h)); (try simp only [Act.put, List.setIfInBounds_toArray, List.set_cons_zero, List.set_cons_succ]))
            (refine wpAnyL_take (n := 0) (i := 5) (oi := ?ox24) (v := ?vx24) ?hix24 ?k1x24 ?k2x24 ?k3x24 ?k4x24 ?k5x24 ?k6x24 ?hQx24 ?hYx24 ?hSx24 ?restx24; (case hix24 => (simp only [List.getElem?_toArray, List.getElem?_cons_succ, List.getElem?_cons_zero]; exact rfl)); (case k1x24 => kernel_rfl); (case k2x24 => kernel_rfl); (case k3x24 => kernel_rfl); (case k4x24 => kernel_rfl); (case k5x24 => kernel_rfl); (case k6x24 => kernel_rfl); (case hSx24 => assumption); (case hYx24 => (refine Or.inl ⟨rfl, ?hyx24⟩; intro w hSw; (try dsimp only at hSw); go_simp; (try with_reducible rfl))); (case hQx24 => exact (fun _ _ _ h => h)); (try simp only [Act.put, List.setIfInBounds_toArray, List.set_cons_zero, List.set_cons_succ]))
            (refine wpAnyL_take (n := 0) (i := 6) (oi := ?ox25) (v := ?vx25) ?hix25 ?k1x25 ?k2x25 ?k3x25 ?k4x25 ?k5x25 ?k6x25 ?hQx25 ?hYx25 ?hSx25 ?restx25; (case hix25 => (simp only [List.getElem?_toArray, List.getElem?_cons_succ, List.getElem?_cons_zero]; exact rfl)); (case k1x25 => kernel_rfl); (case k2x25 => kernel_rfl); (case k3x25 => kernel_rfl); (case k4x25 => kernel_rfl); (case k5x25 => kernel_rfl); (case k6x25 => kernel_rfl); (case hSx25 => assumption); (case hYx25 => (refine Or.inl ⟨rfl, ?hyx25⟩; intro w hSw; (try dsimp only at hSw); go_simp; (try with_reducible rfl))); (case hQx25 => exact (fun _ _ _ h => h)); (try simp only [Act.put, List.setIfInBounds_toArray, List.set_cons_zero, List.set_cons_succ]))
            (refine wpAnyL_take (n := 0) (i := 7) (oi := ?ox26) (v := ?vx26) ?hix26 ?k1x26 ?k2x26 ?k3x26 ?k4x26 ?k5x26 ?k6x26 ?hQx26 ?hYx26 ?hSx26 ?restx26; (case hix26 => (simp only [List.getElem?_toArray, List.getElem?_cons_succ, List.getElem?_cons_zero]; exact rfl)); (case k1x26 => kernel_rfl); (case k2x26 => kernel_rfl); (case k3x26 => kernel_rfl); (case k4x26 => kernel_rfl); (case k5x26 => kernel_rfl); (case k6x26 => kernel_rfl); (case hSx26 => assumption); (case hYx26 => (refine Or.inl ⟨rfl, ?hyx26⟩; intro w hSw; (try dsimp only at hSw); go_simp; (try with_reducible rfl))); (case hQx26 => exact (fun _ _ _ h => h)); (try simp only [Act.put, List.setIfInBounds_toArray, List.set_cons_zero, List.set_cons_succ]))
            (refine wpAnyL_take (n := 0) (i := 8) (oi := ?ox27) (v := ?vx27) ?hix27 ?k1x27 ?k2x27 ?k3x27 ?k4x27 ?k5x27 ?k6x27 ?hQx27 ?hYx27 ?hSx27 ?restx27; (case hix27 => (simp only [List.getElem?_toArray, List.getElem?_cons_succ, List.getElem?_cons_zero]; exact rfl)); (case k1x27 => kernel_rfl); (case k2x27 => kernel_rfl); (case k3x27 => kernel_rfl); (case k4x27 => kernel_rfl); (case k5x27 => kernel_rfl); (case k6x27 => kernel_rfl); (case hSx27 => assumption); (case hYx27 => (refine Or.inl ⟨rfl, ?hyx27⟩; intro w hSw; (try dsimp only at hSw); go_simp; (try with_reducible rfl))); (case hQx27 => exact (fun _ _ _ h => h)); (try simp only [Act.put, List.setIfInBounds_toArray, List.set_cons_zero, List.set_cons_succ]))
            (refine wpAnyL_take (n := 0) (i := 9) (oi := ?ox28) (v := ?vx28) ?hix28 ?k1x28 ?k2x28 ?k3x28 ?k4x28 ?k5x28 ?k6x28 ?hQx28 ?hYx28 ?hSx28 ?restx28; (case hix28 => (simp only [List.getElem?_toArray, List.getElem?_cons_succ, List.getElem?_cons_zero]; exact rfl)); (case k1x28 => kernel_rfl); (case k2x28 => kernel_rfl); (case k3x28 => kernel_rfl); (case k4x28 => kernel_rfl); (case k5x28 => kernel_rfl); (case k6x28 => kernel_rfl); (case hSx28 => assumption); (case hYx28 => (refine Or.inl ⟨rfl, ?hyx28⟩; intro w hSw; (try dsimp only at hSw); go_simp; (try with_reducible rfl))); (case hQx28 => exact (fun _ _ _ h => h)); (try simp only [Act.put, List.setIfInBounds_toArray, List.set_cons_zero, List.set_cons_succ]))
            (refine wpAnyL_take (n := 0) (i := 10) (oi := ?ox29) (v := ?vx29) ?hix29 ?k1x29 ?k2x29 ?k3x29 ?k4x29 ?k5x29 ?k6x29 ?hQx29 ?hYx29 ?hSx29 ?restx29; (case hix29 => (simp only [List.getElem?_toArray, List.getElem?_cons_succ, List.getElem?_cons_zero]; exact rfl)); (case k1x29 => kernel_rfl); (case k2x29 => kernel_rfl); (case k3x29 => kernel_rfl); (case k4x29 => kernel_rfl); (case k5x29 => kernel_rfl); (case k6x29 => kernel_rfl); (case hSx29 => assumption); (case hYx29 => (refine Or.inl ⟨rfl, ?hyx29⟩; intro w hSw; (try dsimp only at hSw); go_simp; (try with_reducible rfl))); (case hQx29 => exact (fun _ _ _ h => h)); (try simp only [Act.put, List.setIfInBounds_toArray, List.set_cons_zero, List.set_cons_succ]))
            (refine wpAnyL_take (n := 0) (i := 11) (oi := ?ox30) (v := ?vx30) ?hix30 ?k1x30 ?k2x30 ?k3x30 ?k4x30 ?k5x30 ?k6x30 ?hQx30 ?hYx30 ?hSx30 ?restx30; (case hix30 => (simp only [List.getElem?_toArray, List.getElem?_cons_succ, List.getElem?_cons_zero]; exact rfl)); (case k1x30 => kernel_rfl); (case k2x30 => kernel_rfl); (case k3x30 => kernel_rfl); (case k4x30 => kernel_rfl); (case k5x30 => kernel_rfl); (case k6x30 => kernel_rfl); (case hSx30 => assumption); (case hYx30 => (refine Or.inl ⟨rfl, ?hyx30⟩; intro w hSw; (try dsimp only at hSw); go_simp; (try with_reducible rfl))); (case hQx30 => exact (fun _ _ _ h => h)); (try simp only [Act.put, List.setIfInBounds_toArray, List.set_cons_zero, List.set_cons_succ]))
            (refine wpAnyL_take (n := 0) (i := 12) (oi := ?ox31) (v := ?vx31) ?hix31 ?k1x31 ?k2x31 ?k3x31 ?k4x31 ?k5x31 ?k6x31 ?hQx31 ?hYx31 ?hSx31 ?restx31; (case hix31 => (simp only [List.getElem?_toArray, List.getElem?_cons_succ, List.getElem?_cons_zero]; exact rfl)); (case k1x31 => kernel_rfl); (case k2x31 => kernel_rfl); (case k3x31 => kernel_rfl); (case k4x31 => kernel_rfl); (case k5x31 => kernel_rfl); (case k6x31 => kernel_rfl); (case hSx31 => assumption); (case hYx31 => (refine Or.inl ⟨rfl, ?hyx31⟩; intro w hSw; (try dsimp only at hSw); go_simp; (try with_reducible rfl))); (case hQx31 => exact (fun _ _ _ h => h)); (try simp only [Act.put, List.setIfInBounds_toArray, List.set_cons_zero, List.set_cons_succ]))
            (refine wpAnyL_take (n := 0) (i := 13) (oi := ?ox32) (v := ?vx32) ?hix32 ?k1x32 ?k2x32 ?k3x32 ?k4x32 ?k5x32 ?k6x32 ?hQx32 ?hYx32 ?hSx32 ?restx32; (case hix32 => (simp only [List.getElem?_toArray, List.getElem?_cons_succ, List.getElem?_cons_zero]; exact rfl)); (case k1x32 => kernel_rfl); (case k2x32 => kernel_rfl); (case k3x32 => kernel_rfl); (case k4x32 => kernel_rfl); (case k5x32 => kernel_rfl); (case k6x32 => kernel_rfl); (case hSx32 => assumption); (case hYx32 => (refine Or.inl ⟨rfl, ?hyx32⟩; intro w hSw; (try dsimp only at hSw); go_simp; (try with_reducible rfl))); (case hQx32 => exact (fun _ _ _ h => h)); (try simp only [Act.put, List.setIfInBounds_toArray, List.set_cons_zero, List.set_cons_succ]))
            (refine wpAnyL_take (n := 0) (i := 14) (oi := ?ox33) (v := ?vx33) ?hix33 ?k1x33 ?k2x33 ?k3x33 ?k4x33 ?k5x33 ?k6x33 ?hQx33 ?hYx33 ?hSx33 ?restx33; (case hix33 => (simp only [List.getElem?_toArray, List.getElem?_cons_succ, List.getElem?_cons_zero]; exact rfl)); (case k1x33 => kernel_rfl); (case k2x33 => kernel_rfl); (case k3x33 => kernel_rfl); (case k4x33 => kernel_rfl); (case k5x33 => kernel_rfl); (case k6x33 => kernel_rfl); (case hSx33 => assumption); (case hYx33 => (refine Or.inl ⟨rfl, ?hyx33⟩; intro w hSw; (try dsimp only at hSw); go_simp; (try with_reducible rfl))); (case hQx33 => exact (fun _ _ _ h => h)); (try simp only [Act.put, List.setIfInBounds_toArray, List.set_cons_zero, List.set_cons_succ]))
            (refine wpAnyL_take (n := 0) (i := 15) (oi := ?ox34) (v := ?vx34) ?hix34 ?k1x34 ?k2x34 ?k3x34 ?k4x34 ?k5x34 ?k6x34 ?hQx34 ?hYx34 ?hSx34 ?restx34; (case hix34 => (simp only [List.getElem?_toArray, List.getElem?_cons_succ, List.getElem?_cons_zero]; exact rfl)); (case k1x34 => kernel_rfl); (case k2x34 => kernel_rfl); (case k3x34 => kernel_rfl); (case k4x34 => kernel_rfl); (case k5x34 => kernel_rfl); (case k6x34 => kernel_rfl); (case hSx34 => assumption); (case hYx34 => (refine Or.inl ⟨rfl, ?hyx34⟩; intro w hSw; (try dsimp only at hSw); go_simp; (try with_reducible rfl))); (case hQx34 => exact (fun _ _ _ h => h)); (try simp only [Act.put, List.setIfInBounds_toArray, List.set_cons_zero, List.set_cons_succ]))
            (refine wpAnyL_take (n := 0) (i := 16) (oi := ?ox35) (v := ?vx35) ?hix35 ?k1x35 ?k2x35 ?k3x35 ?k4x35 ?k5x35 ?k6x35 ?hQx35 ?hYx35 ?hSx35 ?restx35; (case hix35 => (simp only [List.getElem?_toArray, List.getElem?_cons_succ, List.getElem?_cons_zero]; exact rfl)); (case k1x35 => kernel_rfl); (case k2x35 => kernel_rfl); (case k3x35 => kernel_rfl); (case k4x35 => kernel_rfl); (case k5x35 => kernel_rfl); (case k6x35 => kernel_rfl); (case hSx35 => assumption); (case hYx35 => (refine Or.inl ⟨rfl, ?hyx35⟩; intro w hSw; (try dsimp only at hSw); go_simp; (try with_reducible rfl))); (case hQx35 => exact (fun _ _ _ h => h)); (try simp only [Act.put, List.setIfInBounds_toArray, List.set_cons_zero, List.set_cons_succ]))
            (refine wpAnyL_take (n := 0) (i := 17) (oi := ?ox36) (v := ?vx36) ?hix36 ?k1x36 ?k2x36 ?k3x36 ?k4x36 ?k5x36 ?k6x36 ?hQx36 ?hYx36 ?hSx36 ?restx36; (case hix36 => (simp only [List.getElem?_toArray, List.getElem?_cons_succ, List.getElem?_cons_zero]; exact rfl)); (case k1x36 => kernel_rfl); (case k2x36 => kernel_rfl); (case k3x36 => kernel_rfl); (case k4x36 => kernel_rfl); (case k5x36 => kernel_rfl); (case k6x36 => kernel_rfl); (case hSx36 => assumption); (case hYx36 => (refine Or.inl ⟨rfl, ?hyx36⟩; intro w hSw; (try dsimp only at hSw); go_simp; (try with_reducible rfl))); (case hQx36 => exact (fun _ _ _ h => h)); (try simp only [Act.put, List.setIfInBounds_toArray, List.set_cons_zero, List.set_cons_succ]))
            (refine wpAnyL_take (n := 0) (i := 18) (oi := ?ox37) (v := ?vx37) ?hix37 ?k1x37 ?k2x37 ?k3x37 ?k4x37 ?k5x37 ?k6x37 ?hQx37 ?hYx37 ?hSx37 ?restx37; (case hix37 => (simp only [List.getElem?_toArray, List.getElem?_cons_succ, List.getElem?_cons_zero]; exact rfl)); (case k1x37 => kernel_rfl); (case k2x37 => kernel_rfl); (case k3x37 => kernel_rfl); (case k4x37 => kernel_rfl); (case k5x37 => kernel_rfl); (case k6x37 => kernel_rfl); (case hSx37 => assumption); (case hYx37 => (refine Or.inl ⟨rfl, ?hyx37⟩; intro w hSw; (try dsimp only at hSw); go_simp; (try with_reducible rfl))); (case hQx37 => exact (fun _ _ _ h => h)); (try simp only [Act.put, List.setIfInBounds_toArray, List.set_cons_zero, List.set_cons_succ]))
            (refine wpAnyL_take (n := 0) (i := 19) (oi := ?ox38) (v := ?vx38) ?hix38 ?k1x38 ?k2x38 ?k3x38 ?k4x38 ?k5x38 ?k6x38 ?hQx38 ?hYx38 ?hSx38 ?restx38; (case hix38 => (simp only [List.getElem?_toArray, List.getElem?_cons_succ, List.getElem?_cons_zero]; exact rfl)); (case k1x38 => kernel_rfl); (case k2x38 => kernel_rfl); (case k3x38 => kernel_rfl); (case k4x38 => kernel_rfl); (case k5x38 => kernel_rfl); (case k6x38 => kernel_rfl); (case hSx38 => assumption); (case hYx38 => (refine Or.inl ⟨rfl, ?hyx38⟩; intro w hSw; (try dsimp only at hSw); go_simp; (try with_reducible rfl))); (case hQx38 => exact (fun _ _ _ h => h)); (try simp only [Act.put, List.setIfInBounds_toArray, List.set_cons_zero, List.set_cons_succ]))
            (refine wpAnyL_take (n := 0) (i := 20) (oi := ?ox39) (v := ?vx39) ?hix39 ?k1x39 ?k2x39 ?k3x39 ?k4x39 ?k5x39 ?k6x39 ?hQx39 ?hYx39 ?hSx39 ?restx39; (case hix39 => (simp only [List.getElem?_toArray, List.getElem?_cons_succ, List.getElem?_cons_zero]; exact rfl)); (case k1x39 => kernel_rfl); (case k2x39 => kernel_rfl); (case k3x39 => kernel_rfl); (case k4x39 => kernel_rfl); (case k5x39 => kernel_rfl); (case k6x39 => kernel_rfl); (case hSx39 => assumption); (case hYx39 => (refine Or.inl ⟨rfl, ?hyx39⟩; intro w hSw; (try dsimp only at hSw); go_simp; (try with_reducible rfl))); (case hQx39 => exact (fun _ _ _ h => h)); (try simp only [Act.put, List.setIfInBounds_toArray, List.set_cons_zero, List.set_cons_succ]))
            (refine wpAnyL_take (n := 0) (i := 21) (oi := ?ox40) (v := ?vx40) ?hix40 ?k1x40 ?k2x40 ?k3x40 ?k4x40 ?k5x40 ?k6x40 ?hQx40 ?hYx40 ?hSx40 ?restx40; (case hix40 => (simp only [List.getElem?_toArray, List.getElem?_cons_succ, List.getElem?_cons_zero]; exact rfl)); (case k1x40 => kernel_rfl); (case k2x40 => kernel_rfl); (case k3x40 => kernel_rfl); (case k4x40 => kernel_rfl); (case k5x40 => kernel_rfl); (case k6x40 => kernel_rfl); (case hSx40 => assumption); (case hYx40 => (refine Or.inl ⟨rfl, ?hyx40⟩; intro w hSw; (try dsimp only at hSw); go_simp; (try with_reducible rfl))); (case hQx40 => exact (fun _ _ _ h => h)); (try simp only [Act.put, List.setIfInBounds_toArray, List.set_cons_zero, List.set_cons_succ]))
            (refine wpAnyL_take (n := 0) (i := 22) (oi := ?ox41) (v := ?vx41) ?hix41 ?k1x41 ?k2x41 ?k3x41 ?k4x41 ?k5x41 ?k6x41 ?hQx41 ?hYx41 ?hSx41 ?restx41; (case hix41 => (simp only [List.getElem?_toArray, List.getElem?_cons_succ, List.getElem?_cons_zero]; exact rfl)); (case k1x41 => kernel_rfl); (case k2x41 => kernel_rfl); (case k3x41 => kernel_rfl); (case k4x41 => kernel_rfl); (case k5x41 => kernel_rfl); (case k6x41 => kernel_rfl); (case hSx41 => assumption); (case hYx41 => (refine Or.inl ⟨rfl, ?hyx41⟩; intro w hSw; (try dsimp only at hSw); go_simp; (try with_reducible rfl))); (case hQx41 => exact (fun _ _ _ h => h)); (try simp only [Act.put, List.setIfInBounds_toArray, List.set_cons_zero, List.set_cons_succ]))
            (refine wpAnyL_take (n := 0) (i := 23) (oi := ?ox42) (v := ?vx42) ?hix42 ?k1x42 ?k2x42 ?k3x42 ?k4x42 ?k5x42 ?k6x42 ?hQx42 ?hYx42 ?hSx42 ?restx42; (case hix42 => (simp only [List.getElem?_toArray, List.getElem?_cons_succ, List.getElem?_cons_zero]; exact rfl)); (case k1x42 => kernel_rfl); (case k2x42 => kernel_rfl); (case k3x42 => kernel_rfl); (case k4x42 => kernel_rfl); (case k5x42 => kernel_rfl); (case k6x42 => kernel_rfl); (case hSx42 => assumption); (case hYx42 => (refine Or.inl ⟨rfl, ?hyx42⟩; intro w hSw; (try dsimp only at hSw); go_simp; (try with_reducible rfl))); (case hQx42 => exact (fun _ _ _ h => h)); (try simp only [Act.put, List.setIfInBounds_toArray, List.set_cons_zero, List.set_cons_succ]))
            (refine wpAnyL_take (n := 0) (i := 24) (oi := ?ox43) (v := ?vx43) ?hix43 ?k1x43 ?k2x43 ?k3x43 ?k4x43 ?k5x43 ?k6x43 ?hQx43 ?hYx43 ?hSx43 ?restx43; (case hix43 => (simp only [List.getElem?_toArray, List.getElem?_cons_succ, List.getElem?_cons_zero]; exact rfl)); (case k1x43 => kernel_rfl); (case k2x43 => kernel_rfl); (case k3x43 => kernel_rfl); (case k4x43 => kernel_rfl); (case k5x43 => kernel_rfl); (case k6x43 => kernel_rfl); (case hSx43 => assumption); (case hYx43 => (refine Or.inl ⟨rfl, ?hyx43⟩; intro w hSw; (try dsimp only at hSw); go_simp; (try with_reducible rfl))); (case hQx43 => exact (fun _ _ _ h => h)); (try simp only [Act.put, List.setIfInBounds_toArray, List.set_cons_zero, List.set_cons_succ]))
            (refine wpAnyL_take (n := 0) (i := 25) (oi := ?ox44) (v := ?vx44) ?hix44 ?k1x44 ?k2x44 ?k3x44 ?k4x44 ?k5x44 ?k6x44 ?hQx44 ?hYx44 ?hSx44 ?restx44; (case hix44 => (simp only [List.getElem?_toArray, List.getElem?_cons_succ, List.getElem?_cons_zero]; exact rfl)); (case k1x44 => kernel_rfl); (case k2x44 => kernel_rfl); (case k3x44 => kernel_rfl); (case k4x44 => kernel_rfl); (case k5x44 => kernel_rfl); (case k6x44 => kernel_rfl); (case hSx44 => assumption); (case hYx44 => (refine Or.inl ⟨rfl, ?hyx44⟩; intro w hSw; (try dsimp only at hSw); go_simp; (try with_reducible rfl))); (case hQx44 => exact (fun _ _ _ h => h)); (try simp only [Act.put, List.setIfInBounds_toArray, List.set_cons_zero, List.set_cons_succ]))
            (refine wpAnyL_take (n := 0) (i := 26) (oi := ?ox45) (v := ?vx45) ?hix45 ?k1x45 ?k2x45 ?k3x45 ?k4x45 ?k5x45 ?k6x45 ?hQx45 ?hYx45 ?hSx45 ?restx45; (case hix45 => (simp only [List.getElem?_toArray, List.getElem?_cons_succ, List.getElem?_cons_zero]; exact rfl)); (case k1x45 => kernel_rfl); (case k2x45 => kernel_rfl); (case k3x45 => kernel_rfl); (case k4x45 => kernel_rfl); (case k5x45 => kernel_rfl); (case k6x45 => kernel_rfl); (case hSx45 => assumption); (case hYx45 => (refine Or.inl ⟨rfl, ?hyx45⟩; intro w hSw; (try dsimp only at hSw); go_simp; (try with_reducible rfl))); (case hQx45 => exact (fun _ _ _ h => h)); (try simp only [Act.put, List.setIfInBounds_toArray, List.set_cons_zero, List.set_cons_succ]))
            (refine wpAnyL_take (n := 0) (i := 27) (oi := ?ox46) (v := ?vx46) ?hix46 ?k1x46 ?k2x46 ?k3x46 ?k4x46 ?k5x46 ?k6x46 ?hQx46 ?hYx46 ?hSx46 ?restx46; (case hix46 => (simp only [List.getElem?_toArray, List.getElem?_cons_succ, List.getElem?_cons_zero]; exact rfl)); (case k1x46 => kernel_rfl); (case k2x46 => kernel_rfl); (case k3x46 => kernel_rfl); (case k4x46 => kernel_rfl); (case k5x46 => kernel_rfl); (case k6x46 => kernel_rfl); (case hSx46 => assumption); (case hYx46 => (refine Or.inl ⟨rfl, ?hyx46⟩; intro w hSw; (try dsimp only at hSw); go_simp; (try with_reducible rfl))); (case hQx46 => exact (fun _ _ _ h => h)); (try simp only [Act.put, List.setIfInBounds_toArray, List.set_cons_zero, List.set_cons_succ]))
            (refine wpAnyL_take (n := 0) (i := 28) (oi := ?ox47) (v := ?vx47) ?hix47 ?k1x47 ?k2x47 ?k3x47 ?k4x47 ?k5x47 ?k6x47 ?hQx47 ?hYx47 ?hSx47 ?restx47; (case hix47 => (simp only [List.getElem?_toArray, List.getElem?_cons_succ, List.getElem?_cons_zero]; exact rfl)); (case k1x47 => kernel_rfl); (case k2x47 => kernel_rfl); (case k3x47 => kernel_rfl); (case k4x47 => kernel_rfl); (case k5x47 => kernel_rfl); (case k6x47 => kernel_rfl); (case hSx47 => assumption); (case hYx47 => (refine Or.inl ⟨rfl, ?hyx47⟩; intro w hSw; (try dsimp only at hSw); go_simp; (try with_reducible rfl))); (case hQx47 => exact (fun _ _ _ h => h)); (try simp only [Act.put, List.setIfInBounds_toArray, List.set_cons_zero, List.set_cons_succ]))
            (refine wpAnyL_take (n := 0) (i := 29) (oi := ?ox48) (v := ?vx48) ?hix48 ?k1x48 ?k2x48 ?k3x48 ?k4x48 ?k5x48 ?k6x48 ?hQx48 ?hYx48 ?hSx48 ?restx48; (case hix48 => (simp only [List.getElem?_toArray, List.getElem?_cons_succ, List.getElem?_cons_zero]; exact rfl)); (case k1x48 => kernel_rfl); (case k2x48 => kernel_rfl); (case k3x48 => kernel_rfl); (case k4x48 => kernel_rfl); (case k5x48 => kernel_rfl); (case k6x48 => kernel_rfl); (case hSx48 => assumption); (case hYx48 => (refine Or.inl ⟨rfl, ?hyx48⟩; intro w hSw; (try dsimp only at hSw); go_simp; (try with_reducible rfl))); (case hQx48 => exact (fun _ _ _ h => h)); (try simp only [Act.put, List.setIfInBounds_toArray, List.set_cons_zero, List.set_cons_succ]))
            (refine wpAnyL_take (n := 0) (i := 30) (oi := ?ox49) (v := ?vx49) ?hix49 ?k1x49 ?k2x49 ?k3x49 ?k4x49 ?k5x49 ?k6x49 ?hQx49 ?hYx49 ?hSx49 ?restx49; (case hix49 => (simp only [List.getElem?_toArray, List.getElem?_cons_succ, List.getElem?_cons_zero]; exact rfl)); (case k1x49 => kernel_rfl); (case k2x49 => kernel_rfl); (case k3x49 => kernel_rfl); (case k4x49 => kernel_rfl); (case k5x49 => kernel_rfl); (case k6x49 => kernel_rfl); (case hSx49 => assumption); (case hYx49 => (refine Or.inl ⟨rfl, ?hyx49⟩; intro w hSw; (try dsimp only at hSw); go_simp; (try with_reducible rfl))); (case hQx49 => exact (fun _ _ _ h => h)); (try simp only [Act.put, List.setIfInBounds_toArray, List.set_cons_zero, List.set_cons_succ]))
            (refine wpAnyL_take (n := 0) (i := 31) (oi := ?ox50) (v := ?vx50) ?hix50 ?k1x50 ?k2x50 ?k3x50 ?k4x50 ?k5x50 ?k6x50 ?hQx50 ?hYx50 ?hSx50 ?restx50; (case hix50 => (simp only [List.getElem?_toArray, List.getElem?_cons_succ, List.getElem?_cons_zero]; exact rfl)); (case k1x50 => kernel_rfl); (case k2x50 => kernel_rfl); (case k3x50 => kernel_rfl); (case k4x50 => kernel_rfl); (case k5x50 => kernel_rfl); (case k6x50 => kernel_rfl); (case hSx50 => assumption); (case hYx50 => (refine Or.inl ⟨rfl, ?hyx50⟩; intro w hSw; (try dsimp only at hSw); go_simp; (try with_reducible rfl))); (case hQx50 => exact (fun _ _ _ h => h)); (try simp only [Act.put, List.setIfInBounds_toArray, List.set_cons_zero, List.set_cons_succ]))
            (refine wpAnyL_take (n := 0) (i := 32) (oi := ?ox51) (v := ?vx51) ?hix51 ?k1x51 ?k2x51 ?k3x51 ?k4x51 ?k5x51 ?k6x51 ?hQx51 ?hYx51 ?hSx51 ?restx51; (case hix51 => (simp only [List.getElem?_toArray, List.getElem?_cons_succ, List.getElem?_cons_zero]; exact rfl)); (case k1x51 => kernel_rfl); (case k2x51 => kernel_rfl); (case k3x51 => kernel_rfl); (case k4x51 => kernel_rfl); (case k5x51 => kernel_rfl); (case k6x51 => kernel_rfl); (case hSx51 => assumption); (case hYx51 => (refine Or.inl ⟨rfl, ?hyx51⟩; intro w hSw; (try dsimp only at hSw); go_simp; (try with_reducible rfl))); (case hQx51 => exact (fun _ _ _ h => h)); (try simp only [Act.put, List.setIfInBounds_toArray, List.set_cons_zero, List.set_cons_succ]))
            (refine wpAnyL_take (n := 0) (i := 33) (oi := ?ox52) (v := ?vx52) ?hix52 ?k1x52 ?k2x52 ?k3x52 ?k4x52 ?k5x52 ?k6x52 ?hQx52 ?hYx52 ?hSx52 ?restx52; (case hix52 => (simp only [List.getElem?_toArray, List.getElem?_cons_succ, List.getElem?_cons_zero]; exact rfl)); (case k1x52 => kernel_rfl); (case k2x52 => kernel_rfl); (case k3x52 => kernel_rfl); (case k4x52 => kernel_rfl); (case k5x52 => kernel_rfl); (case k6x52 => kernel_rfl); (case hSx52 => assumption); (case hYx52 => (refine Or.inl ⟨rfl, ?hyx52⟩; intro w hSw; (try dsimp only at hSw); go_simp; (try with_reducible rfl))); (case hQx52 => exact (fun _ _ _ h => h)); (try simp only [Act.put, List.setIfInBounds_toArray, List.set_cons_zero, List.set_cons_succ]))
            (refine wpAnyL_take (n := 0) (i := 34) (oi := ?ox53) (v := ?vx53) ?hix53 ?k1x53 ?k2x53 ?k3x53 ?k4x53 ?k5x53 ?k6x53 ?hQx53 ?hYx53 ?hSx53 ?restx53; (case hix53 => (simp only [List.getElem?_toArray, List.getElem?_cons_succ, List.getElem?_cons_zero]; exact rfl)); (case k1x53 => kernel_rfl); (case k2x53 => kernel_rfl); (case k3x53 => kernel_rfl); (case k4x53 => kernel_rfl); (case k5x53 => kernel_rfl); (case k6x53 => kernel_rfl); (case hSx53 => assumption); (case hYx53 => (refine Or.inl ⟨rfl, ?hyx53⟩; intro w hSw; (try dsimp only at hSw); go_simp; (try with_reducible rfl))); (case hQx53 => exact (fun _ _ _ h => h)); (try simp only [Act.put, List.setIfInBounds_toArray, List.set_cons_zero, List.set_cons_succ]))
            (refine wpAnyL_take (n := 0) (i := 35) (oi := ?ox54) (v := ?vx54) ?hix54 ?k1x54 ?k2x54 ?k3x54 ?k4x54 ?k5x54 ?k6x54 ?hQx54 ?hYx54 ?hSx54 ?restx54; (case hix54 => (simp only [List.getElem?_toArray, List.getElem?_cons_succ, List.getElem?_cons_zero]; exact rfl)); (case k1x54 => kernel_rfl); (case k2x54 => kernel_rfl); (case k3x54 => kernel_rfl); (case k4x54 => kernel_rfl); (case k5x54 => kernel_rfl); (case k6x54 => kernel_rfl); (case hSx54 => assumption); (case hYx54 => (refine Or.inl ⟨rfl, ?hyx54⟩; intro w hSw; (try dsimp only at hSw); go_simp; (try with_reducible rfl))); (case hQx54 => exact (fun _ _ _ h => h)); (try simp only [Act.put, List.setIfInBounds_toArray, List.set_cons_zero, List.set_cons_succ]))
            (refine wpAnyL_take (n := 0) (i := 36) (oi := ?ox55) (v := ?vx55) ?hix55 ?k1x55 ?k2x55 ?k3x55 ?k4x55 ?k5x55 ?k6x55 ?hQx55 ?hYx55 ?hSx55 ?restx55; (case hix55 => (simp only [List.getElem?_toArray, List.getElem?_cons_succ, List.getElem?_cons_zero]; exact rfl)); (case k1x55 => kernel_rfl); (case k2x55 => kernel_rfl); (case k3x55 => kernel_rfl); (case k4x55 => kernel_rfl); (case k5x55 => kernel_rfl); (case k6x55 => kernel_rfl); (case hSx55 => assumption); (case hYx55 => (refine Or.inl ⟨rfl, ?hyx55⟩; intro w hSw; (try dsimp only at hSw); go_simp; (try with_reducible rfl))); (case hQx55 => exact (fun _ _ _ h => h)); (try simp only [Act.put, List.setIfInBounds_toArray, List.set_cons_zero, List.set_cons_succ]))
            (refine wpAnyL_take (n := 0) (i := 37) (oi := ?ox56) (v := ?vx56) ?hix56 ?k1x56 ?k2x56 ?k3x56 ?k4x56 ?k5x56 ?k6x56 ?hQx56 ?hYx56 ?hSx56 ?restx56; (case hix56 => (simp only [List.getElem?_toArray, List.getElem?_cons_succ, List.getElem?_cons_zero]; exact rfl)); (case k1x56 => kernel_rfl); (case k2x56 => kernel_rfl); (case k3x56 => kernel_rfl); (case k4x56 => kernel_rfl); (case k5x56 => kernel_rfl); (case k6x56 => kernel_rfl); (case hSx56 => assumption); (case hYx56 => (refine Or.inl ⟨rfl, ?hyx56⟩; intro w hSw; (try dsimp only at hSw); go_simp; (try with_reducible rfl))); (case hQx56 => exact (fun _ _ _ h => h)); (try simp only [Act.put, List.setIfInBounds_toArray, List.set_cons_zero, List.set_cons_succ]))
            (refine wpAnyL_take (n := 0) (i := 38) (oi := ?ox57) (v := ?vx57) ?hix57 ?k1x57 ?k2x57 ?k3x57 ?k4x57 ?k5x57 ?k6x57 ?hQx57 ?hYx57 ?hSx57 ?restx57; (case hix57 => (simp only [List.getElem?_toArray, List.getElem?_cons_succ, List.getElem?_cons_zero]; exact rfl)); (case k1x57 => kernel_rfl); (case k2x57 => kernel_rfl); (case k3x57 => kernel_rfl); (case k4x57 => kernel_rfl); (case k5x57 => kernel_rfl); (case k6x57 => kernel_rfl); (case hSx57 => assumption); (case hYx57 => (refine Or.inl ⟨rfl, ?hyx57⟩; intro w hSw; (try dsimp only at hSw); go_simp; (try with_reducible rfl))); (case hQx57 => exact (fun _ _ _ h => h)); (try simp only [Act.put, List.setIfInBounds_toArray, List.set_cons_zero, List.set_cons_succ]))
            (refine wpAnyL_take (n := 0) (i := 39) (oi := ?ox58) (v := ?vx58) ?hix58 ?k1x58 ?k2x58 ?k3x58 ?k4x58 ?k5x58 ?k6x58 ?hQx58 ?hYx58 ?hSx58 ?restx58; (case hix58 => (simp only [List.getElem?_toArray, List.getElem?_cons_succ, List.getElem?_cons_zero]; exact rfl)); (case k1x58 => kernel_rfl); (case k2x58 => kernel_rfl); (case k3x58 => kernel_rfl); (case k4x58 => kernel_rfl); (case k5x58 => kernel_rfl); (case k6x58 => kernel_rfl); (case hSx58 => assumption); (case hYx58 => (refine Or.inl ⟨rfl, ?hyx58⟩; intro w hSw; (try dsimp only at hSw); go_simp; (try with_reducible rfl))); (case hQx58 => exact (fun _ _ _ h => h)); (try simp only [Act.put, List.setIfInBounds_toArray, List.set_cons_zero, List.set_cons_succ]))
            (refine wpAnyL_take (n := 0) (i := 40) (oi := ?ox59) (v := ?vx59) ?hix59 ?k1x59 ?k2x59 ?k3x59 ?k4x59 ?k5x59 ?k6x59 ?hQx59 ?hYx59 ?hSx59 ?restx59; (case hix59 => (simp only [List.getElem?_toArray, List.getElem?_cons_succ, List.getElem?_cons_zero]; exact rfl)); (case k1x59 => kernel_rfl); (case k2x59 => kernel_rfl); (case k3x59 => kernel_rfl); (case k4x59 => kernel_rfl); (case k5x59 => kernel_rfl); (case k6x59 => kernel_rfl); (case hSx59 => assumption); (case hYx59 => (refine Or.inl ⟨rfl, ?hyx59⟩; intro w hSw; (try dsimp only at hSw); go_simp; (try with_reducible rfl))); (case hQx59 => exact (fun _ _ _ h => h)); (try simp only [Act.put, List.setIfInBounds_toArray, List.set_cons_zero, List.set_cons_succ]))
            (refine wpAnyL_take (n := 0) (i := 41) (oi := ?ox60) (v := ?vx60) ?hix60 ?k1x60 ?k2x60 ?k3x60 ?k4x60 ?k5x60 ?k6x60 ?hQx60 ?hYx60 ?hSx60 ?restx60; (case hix60 => (simp only [List.getElem?_toArray, List.getElem?_cons_succ, List.getElem?_cons_zero]; exact rfl)); (case k1x60 => kernel_rfl); (case k2x60 => kernel_rfl); (case k3x60 => kernel_rfl); (case k4x60 => kernel_rfl); (case k5x60 => kernel_rfl); (case k6x60 => kernel_rfl); (case hSx60 => assumption); (case hYx60 => (refine Or.inl ⟨rfl, ?hyx60⟩; intro w hSw; (try dsimp only at hSw); go_simp; (try with_reducible rfl))); (case hQx60 => exact (fun _ _ _ h => h)); (try simp only [Act.put, List.setIfInBounds_toArray, List.set_cons_zero, List.set_cons_succ]))
            refine wpAnyL_ready (rs := [42]) (by kernel_rfl) (by simp) ?_
            refine AllReadyL.cons (o := ?o42x61) ?hi42x61 (fun K hK => ?_) AllReadyL.nil
            (case hi42x61 => (simp only [List.getElem?_toArray, List.getElem?_cons_succ, List.getElem?_cons_zero]; exact rfl))
            go_simp
            go_at_call 50
            refine (HLV2.out _ HB2.out).mono ?_
            rintro e w1 ⟨rfl, hb9⟩
            have t0 := below_tr HB2.out hb9; have t1 := below_tr HB3.out hb9; have t2 := below_tr HB4.out hb9
            clear HB2 HB3 HB4
            have HB2 := Lib.hid t0; have HB3 := Lib.hid t1; have HB4 := Lib.hid t2
            clear t0 t1 t2
            clear hb9 
            (try go_wp2_with fail)
            (try clear hHeld)
            refine hK.out _ _ (by (try dsimp only); exact HS9.out _ HB4.out) (fun hHeld => ?_)
            clear hK K
            (try simp only [Act.put, List.setIfInBounds_toArray, List.set_cons_zero, List.set_cons_succ])
            (refine wpAnyL_take (n := 0) (i := 43) (oi := ?ox62) (v := ?vx62) ?hix62 ?k1x62 ?k2x62 ?k3x62 ?k4x62 ?k5x62 ?k6x62 ?hQx62 ?hYx62 ?hSx62 ?restx62; (case hix62 => (simp only [List.getElem?_toArray, List.getElem?_cons_succ, List.getElem?_cons_zero]; exact rfl)); (case k1x62 => kernel_rfl); (case k2x62 => kernel_rfl); (case k3x62 => kernel_rfl); (case k4x62 => kernel_rfl); (case k5x62 => kernel_rfl); (case k6x62 => kernel_rfl); (case hSx62 => assumption); (case hYx62 => (refine Or.inl ⟨rfl, ?hyx62⟩; intro w hSw; (try dsimp only at hSw); go_simp; (try with_reducible rfl))); (case hQx62 => exact (fun _ _ _ h => h)); (try simp only [Act.put, List.setIfInBounds_toArray, List.set_cons_zero, List.set_cons_succ]))
            (refine wpAnyL_take (n := 0) (i := 44) (oi := ?ox63) (v := ?vx63) ?hix63 ?k1x63 ?k2x63 ?k3x63 ?k4x63 ?k5x63 ?k6x63 ?hQx63 ?hYx63 ?hSx63 ?restx63; (case hix63 => (simp only [List.getElem?_toArray, List.getElem?_cons_succ, List.getElem?_cons_zero]; exact rfl)); (case k1x63 => kernel_rfl); (case k2x63 => kernel_rfl); (case k3x63 => kernel_rfl); (case k4x63 => kernel_rfl); (case k5x63 => kernel_rfl); (case k6x63 => kernel_rfl); (case hSx63 => assumption); (case hYx63 => (refine Or.inl ⟨rfl, ?hyx63⟩; intro w hSw; (try dsimp only at hSw); go_simp; (try with_reducible rfl))); (case hQx63 => exact (fun _ _ _ h => h)); (try simp only [Act.put, List.setIfInBounds_toArray, List.set_cons_zero, List.set_cons_succ]))
            (refine wpAnyL_done (by kernel_rfl) ?_ _)
            clear d1 d2 d3
            go_wp2_with fail
            go_roundw
            case rel => exact ⟨k + 1, by have := HLT.out; omega, by go_num, HB3.out⟩
            case measure => have := HLT.out; simp [intOf] <;> omega
          · have HB2 := Lib.hid (below_tr HB.out hbr)
            obtain rfl : k = H := by omega
            clear hbr hlt
            go_wp2_with fail
            go_at_call 18
            refine (HAW.out _).mono ?_
            rintro e w1 ⟨rfl, hb9⟩
            have t0 := below_tr HB2.out hb9
            clear HB2
            have HB2 := Lib.hid t0
            clear t0
            clear hb9 
            go_wp2_with fail
            go_ret
            exact ⟨rfl, HB2.out⟩
end
end Go.Proofs.Ytpijmfbpdglchaa
