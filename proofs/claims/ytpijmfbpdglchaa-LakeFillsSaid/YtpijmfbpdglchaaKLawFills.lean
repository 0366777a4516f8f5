/- THE WALK of LakeFills. -/
import Derived.Test.YtpijmfbpdglchaaKReady
import Derived.Test.YtpijmfbpdglchaaKConv
import Derived.Test.YtpijmfbpdglchaaKAwake
import Derived.Test.YtpijmfbpdglchaaKReal
import Derived.Test.YtpijmfbpdglchaaKValid
import Derived.Test.YtpijmfbpdglchaaKInts
import Derived.Test.YtpijmfbpdglchaaKRef7
namespace Go.Proofs.Ytpijmfbpdglchaa
open Go.RowKit Go.Proofs
attribute [local go_sem ↓] Go.wp_at_zero Go.wp_at_succ
theorem fault_err (l : Lak) (ws : List Wrk) (c : List Int) : faultA l ws c = errA l ws c := by
  unfold faultA errA
  by_cases h1 : errL l = 0
  · by_cases h2 : errW ws = 0 <;> simp [h1, h2]
  · simp [h1]
theorem ints_t {l l' : List Int} {A A' : Option Addr} {n c n' c' : Nat} {w : World} (h : Rd enc1 1 w A n l) (h' : Rd enc1 1 w A' n' l') (hn : n ≤ 1000000000) (he : l = l') :
    Calls Try.prog 23 #[.slice A n c, .slice A' n' c'] w fun e w' => e = .returned (.bool true) ∧ Below w.heap.size w w' := by
  have := ints_c (c := c) (c' := c') h h' hn
  rwa [decide_eq_true he] at this
def FillBad (w : World) (E : Int) (e : Ending) (w' : World) : Prop := ∃ A cp, e = .returned (.tuple #[.slice A 0 cp, .int .i64 0, .int .i64 E]) ∧ Below w.heap.size w w'
theorem Fill_bad {VA IA WA CA FA SA : Option Addr} {nV nI nW nC nF nS cV cI cW cC cF cS : Nat} {l : Lak} {ws : List Wrk} {c : List Int} {x : Rel} {w : World} {E : Int} (hE : fillE l ws c x = E) (hne : E ≠ 0) (hL : RdL w VA nV IA nI l) (hW : Rd encW 3 w WA nW ws) (hC : Rd enc1 1 w CA nC c) (hX : RdX w FA nF SA nS x) (hcV : nV ≤ cV) (hcI : nI ≤ cI) (hnV : nV ≤ 100) (hnI : nI ≤ 100) (hnW : nW ≤ 100) (hnC : nC ≤ 100) (hnF : nF ≤ 100) (hnS : nS ≤ 100) :
    Calls Try.prog 39 #[.agg (lA VA nV cV IA nI cI l), .slice WA nW cW, .slice CA nC cC, .agg (xA FA nF cF SA nS cS x)] w (FillBad w E) := by
  refine (Fill_c ⟨hL, hW, hC⟩ hcV hcI (by unfold maxLen; omega) (by unfold maxLen; omega) (by unfold maxLen; omega) (by unfold maxLen; omega) hX (by unfold maxLen; omega) (by unfold maxLen; omega)).mono ?_
  rintro e w' ⟨A, n, cp, rfl, hn, h0, hr, hb⟩
  rw [hE] at h0 ⊢
  obtain rfl := h0 hne
  rw [if_neg hne]
  exact ⟨A, cp, rfl, hb⟩
theorem thinA_iff {l : Lak} {ws : List Wrk} {c : List Int} : thinA l ws c = true ↔ l.vols.length ≤ 35 ∧ l.inflow.length ≤ 65 ∧ ws.length ≤ 15 ∧ c.length ≤ 15 := by simp [thinA]
section
variable {VA IA WA CA FA SA : Option Addr} {nV nI cV cI nW cW nC cC nF cF nS cS : Nat} {l : Lak} {ws : List Wrk} {c : List Int} {x : Rel} {w : World}
set_option maxRecDepth 100000 in
set_option maxHeartbeats 8000000 in
theorem LakeFills_w (h : RdL w VA nV IA nI l) (hw : Rd encW 3 w WA nW ws) (hc : Rd enc1 1 w CA nC c) (hx : RdX w FA nF SA nS x) (hnV : nV ≤ maxLen) (hnI : nI ≤ maxLen) (hnW : nW ≤ maxLen) (hnC : nC ≤ maxLen) (hnF : nF ≤ maxLen) (hnS : nS ≤ maxLen) :
    Calls Try.prog 8 #[.agg (lA VA nV cV IA nI cI l), .slice WA nW cW, .slice CA nC cC, .agg (xA FA nF cF SA nS cS x)] w fun e w' => e = .returned (.bool true) ∧ Below w.heap.size w w' := by
  obtain ⟨W, hW⟩ : ∃ W, W = ((w.alloc (.cells (lA VA nV cV IA nI cI l) 27)).alloc (.cells (xA FA nF cF SA nS cS x) 75)) := ⟨_, rfl⟩
  have hb : Below w.heap.size w W := by rw [hW]; exact ((Below.refl _ _).alloc (Nat.le_refl _) _).alloc (by simp) _
  have hB1 := (Blk.new w 27 (lA VA nV cV IA nI cI l)).alloc (.cells (xA FA nF cF SA nS cS x) 75)
  have hB2 := Blk.new (w.alloc (.cells (lA VA nV cV IA nI cI l) 27)) 75 (xA FA nF cF SA nS cS x)
  simp only [World.size_alloc] at hB2
  rw [← hW] at hB1 hB2
  have HW := Lib.hid hW; have HB := Lib.hid hb
  have HQ := Lib.hid (Below.refl W.heap.size W)
  have HXL := Lib.hid (fun (U : World) (hU : Below W.heap.size W U) => blk_lA (hB1.below hU hB1.lt))
  have HXR := Lib.hid (fun (U : World) (hU : Below W.heap.size W U) => blk_xA (hB2.below hU hB2.lt))
  have HL := Lib.hid h; have HWk := Lib.hid hw; have HC := Lib.hid hc; have HX := Lib.hid hx
  have HAW := Lib.hid (fun (U : World) => awake_c U)
  have HTH := Lib.hid (fun (U : World) => Thin_c (w := U) (VA := VA) (IA := IA) (WA := WA) (CA := CA) (cV := cV) (cI := cI) (cW := cW) (cC := cC) h.vols.len h.infl.len hw.len hc.len)
  have HFA := Lib.hid (fun (U : World) (hU : Below w.heap.size w U) => fault_c (cV := cV) (cI := cI) (cW := cW) (cC := cC) (h.below hU) (hw.below hU) (hc.below hU) hnV hnI hnW hnC)
  have hvl := h.vols.len; have hil := h.infl.len; have hwl := hw.len; have hcl := hc.len
  have HLEN := Lib.hid (And.intro hvl (And.intro hil (And.intro hwl hcl)))
  clear h hw hc hx hb hB1 hB2 hW hvl hil hwl hcl
  unfold maxLen at hnF hnS
  cases hth : thinA l ws c
  · rw [hth] at HTH
    clear hth
    go_enter Try.func8, Try.ntmps8
    go_upto_region 1 with fail
    rw [← HW.out]
    obtain ⟨x0, x1, x2, x3, x4, x5, x6, x7, x8, x9⟩ := HXL.out _ HQ.out
    go_wp2_with fail
    go_at_call 38
    refine (HTH.out _).mono ?_
    rintro e w1 ⟨rfl, hb9⟩
    have t0 := below_tr HB.out hb9
    clear HB
    have HB := Lib.hid t0
    clear t0
    clear hb9 
    go_wp2_with fail
    go_at_call 18
    refine (HAW.out _).mono ?_
    rintro e w1 ⟨rfl, hb9⟩
    have t0 := below_tr HB.out hb9
    clear HB
    have HB := Lib.hid t0
    clear t0
    clear hb9 
    go_wp2_with fail
    go_ret
    exact ⟨rfl, HB.out⟩
  · obtain ⟨t1, t2, t3, t4⟩ := thinA_iff.1 hth
    rw [hth] at HTH
    have hv35 : nV ≤ 35 := by have := HLEN.out; omega
    have hi65 : nI ≤ 65 := by have := HLEN.out; omega
    have hw15 : nW ≤ 15 := by have := HLEN.out; omega
    have hc15 : nC ≤ 15 := by have := HLEN.out; omega
    clear hth t1 t2 t3 t4 hnV hnI hnW hnC
    by_cases hF : nF ≤ 65
    · by_cases hS : nS ≤ 65
      · skip
        have HLK := Lib.hid (fun (U : World) (hU : Below w.heap.size w U) => LakeR_c (cV := cV) (cI := cI) (HL.out.below hU) (by omega) (by omega))
        have HWK := Lib.hid (fun (U : World) (hU : Below w.heap.size w U) => WorksR_c (c := cW) (HWk.out.below hU) (by omega))
        have HLI := Lib.hid (fun (U : World) (hU : Below w.heap.size w U) => listR_c (c := cC) (HC.out.below hU) (by omega))
        have HRE := Lib.hid (fun (U : World) (hU : Below w.heap.size w U) => Real_c (cF := cF) (cS := cS) (HX.out.below hU) (by omega) (by omega))
        have hF2 : ¬ (65 : Int) < (nF : Int) := by omega
        have hS2 : ¬ (65 : Int) < (nS : Int) := by omega
        rw [fault_err] at HFA
        by_cases ha : errA l ws c = 0
        · have hok := errA_zero.1 ha
          have hE0 := fillE_f (x := x) ha
          rw [ha] at HFA
          have HRF := Lib.hid (fun (U : World) (hU : Below w.heap.size w U) => rRealFits_c (cV := cV) (cI := cI) (cF := cF) (cS := cS) (HL.out.below hU) (HX.out.below hU) (by unfold maxLen; omega) (by unfold maxLen; omega) (by unfold maxLen; omega))
          have HOK := Lib.hid hok.l; have HWO := Lib.hid hok.w; have HCO := Lib.hid hok.c
          cases hf : fitsB l x
          · rw [hf] at hE0 HRF
            have HE0 := Lib.hid hE0
            clear hE0 ha hok hf
            go_enter Try.func8, Try.ntmps8
            go_upto_region 1 with fail
            rw [← HW.out]
            obtain ⟨x0, x1, x2, x3, x4, x5, x6, x7, x8, x9⟩ := HXL.out _ HQ.out
            go_wp2_with fail
            go_at_call 38
            refine (HTH.out _).mono ?_
            rintro e w1 ⟨rfl, hb9⟩
            have t0 := below_tr HB.out hb9; have t1 := below_tr HQ.out hb9
            clear HB HQ
            have HB := Lib.hid t0; have HQ := Lib.hid t1
            clear t0 t1
            clear hb9 
            obtain ⟨y0, y1, y2, y3⟩ := HXR.out _ HQ.out
            clear x0 x1 x2 x3 x4 x5 x6 x7 x8 x9
            go_upto_region 3 with fail
            clear y0 y1 y2 y3
            refine wp_region_till [] (fun U => U.cell? ⟨w.heap.size, 0, none⟩ = some (.slice VA nV cV) ∧ U.cell? ⟨w.heap.size, 1, none⟩ = some (.int .i64 l.crest) ∧ U.cell? ⟨w.heap.size, 2, none⟩ = some (.int .i64 l.weak) ∧ U.cell? ⟨w.heap.size, 3, none⟩ = some (.int .i64 l.soft.1) ∧ U.cell? ⟨w.heap.size, 4, none⟩ = some (.int .i64 l.soft.2) ∧ U.cell? ⟨w.heap.size, 5, none⟩ = some (.int .i64 l.start.1) ∧ U.cell? ⟨w.heap.size, 6, none⟩ = some (.int .i64 l.start.2) ∧ U.cell? ⟨w.heap.size, 7, none⟩ = some (.int .i64 l.seep.1) ∧ U.cell? ⟨w.heap.size, 8, none⟩ = some (.int .i64 l.seep.2) ∧ U.cell? ⟨w.heap.size, 9, none⟩ = some (.slice IA nI cI) ∧ U.cell? ⟨w.heap.size + 1, 0, none⟩ = some (.slice FA nF cF) ∧ U.cell? ⟨w.heap.size + 1, 1, none⟩ = some (.slice SA nS cS) ∧ U.cell? ⟨w.heap.size + 1, 2, none⟩ = some (.int .i64 x.start) ∧ U.cell? ⟨w.heap.size + 1, 3, none⟩ = some (.int .i64 x.soft)) (by kernel_rfl) (by exact and10 (HXL.out _ HQ.out.drew) (HXR.out _ HQ.out.drew)) (fun hHeld => ?_)
            have hb9 := (Below.refl w1.heap.size w1).drew
            have t0 := below_tr HB.out hb9; have t1 := below_tr HQ.out hb9
            clear HB HQ
            have HB := Lib.hid t0; have HQ := Lib.hid t1
            clear t0 t1
            clear hb9
            revert hHeld HB HQ
            generalize w1.drew = w0
            intro hHeld HB HQ
            (refine wpAnyL_take (n := 0) (i := 0) (oi := ?ox1) (v := ?vx1) ?hix1 ?k1x1 ?k2x1 ?k3x1 ?k4x1 ?k5x1 ?k6x1 ?hQx1 ?hYx1 ?hSx1 ?restx1; (case hix1 => (simp only [List.getElem?_toArray, List.getElem?_cons_succ, List.getElem?_cons_zero]; exact rfl)); (case k1x1 => kernel_rfl); (case k2x1 => kernel_rfl); (case k3x1 => kernel_rfl); (case k4x1 => kernel_rfl); (case k5x1 => kernel_rfl); (case k6x1 => kernel_rfl); (case hSx1 => assumption); (case hYx1 => (refine Or.inl ⟨rfl, ?hyx1⟩; intro w hSw; (try dsimp only at hSw); go_simp; (try with_reducible rfl))); (case hQx1 => exact (fun _ _ _ h => h)); (try simp only [Act.put, List.setIfInBounds_toArray, List.set_cons_zero, List.set_cons_succ]))
            (refine wpAnyL_take (n := 0) (i := 2) (oi := ?ox2) (v := ?vx2) ?hix2 ?k1x2 ?k2x2 ?k3x2 ?k4x2 ?k5x2 ?k6x2 ?hQx2 ?hYx2 ?hSx2 ?restx2; (case hix2 => (simp only [List.getElem?_toArray, List.getElem?_cons_succ, List.getElem?_cons_zero]; exact rfl)); (case k1x2 => kernel_rfl); (case k2x2 => kernel_rfl); (case k3x2 => kernel_rfl); (case k4x2 => kernel_rfl); (case k5x2 => kernel_rfl); (case k6x2 => kernel_rfl); (case hSx2 => assumption); (case hYx2 => (refine Or.inl ⟨rfl, ?hyx2⟩; intro w hSw; (try dsimp only at hSw); go_simp; (try with_reducible rfl))); (case hQx2 => exact (fun _ _ _ h => h)); (try simp only [Act.put, List.setIfInBounds_toArray, List.set_cons_zero, List.set_cons_succ]))
            (refine wpAnyL_take (n := 0) (i := 4) (oi := ?ox3) (v := ?vx3) ?hix3 ?k1x3 ?k2x3 ?k3x3 ?k4x3 ?k5x3 ?k6x3 ?hQx3 ?hYx3 ?hSx3 ?restx3; (case hix3 => (simp only [List.getElem?_toArray, List.getElem?_cons_succ, List.getElem?_cons_zero]; exact rfl)); (case k1x3 => kernel_rfl); (case k2x3 => kernel_rfl); (case k3x3 => kernel_rfl); (case k4x3 => kernel_rfl); (case k5x3 => kernel_rfl); (case k6x3 => kernel_rfl); (case hSx3 => assumption); (case hYx3 => (refine Or.inl ⟨rfl, ?hyx3⟩; intro w hSw; (try dsimp only at hSw); go_simp; (try with_reducible rfl))); (case hQx3 => exact (fun _ _ _ h => h)); (try simp only [Act.put, List.setIfInBounds_toArray, List.set_cons_zero, List.set_cons_succ]))
            (refine wpAnyL_take (n := 0) (i := 6) (oi := ?ox4) (v := ?vx4) ?hix4 ?k1x4 ?k2x4 ?k3x4 ?k4x4 ?k5x4 ?k6x4 ?hQx4 ?hYx4 ?hSx4 ?restx4; (case hix4 => (simp only [List.getElem?_toArray, List.getElem?_cons_succ, List.getElem?_cons_zero]; exact rfl)); (case k1x4 => kernel_rfl); (case k2x4 => kernel_rfl); (case k3x4 => kernel_rfl); (case k4x4 => kernel_rfl); (case k5x4 => kernel_rfl); (case k6x4 => kernel_rfl); (case hSx4 => assumption); (case hYx4 => (refine Or.inl ⟨rfl, ?hyx4⟩; intro w hSw; (try dsimp only at hSw); go_simp; (try with_reducible rfl))); (case hQx4 => exact (fun _ _ _ h => h)); (try simp only [Act.put, List.setIfInBounds_toArray, List.set_cons_zero, List.set_cons_succ]))
            refine wpAnyL_ready (rs := [1]) (by kernel_rfl) (by simp) ?_
            refine AllReadyL.cons (o := ?o1x5) ?hi1x5 (fun K hK => ?_) AllReadyL.nil
            (case hi1x5 => (simp only [List.getElem?_toArray, List.getElem?_cons_succ, List.getElem?_cons_zero]; exact rfl))
            go_simp
            go_at_call 20
            refine (HLK.out _ HB.out).mono ?_
            rintro e w1 ⟨VA', cV', IA', cI', rfl, hcv, hci, hrl, hb9⟩
            have t0 := below_tr HB.out hb9; have t1 := below_tr HQ.out hb9
            clear HB HQ
            have HB := Lib.hid t0; have HQ := Lib.hid t1
            clear t0 t1
            have HRL := Lib.hid hrl
            have HCV := Lib.hid hcv
            have HCI := Lib.hid hci
            clear hb9 hrl hcv hci
            (try go_wp2_with fail)
            (try clear hHeld)
            refine hK.out _ _ (by (try dsimp only); exact and10 (HXL.out _ HQ.out) (HXR.out _ HQ.out)) (fun hHeld => ?_)
            clear hK K
            (try simp only [Act.put, List.setIfInBounds_toArray, List.set_cons_zero, List.set_cons_succ])
            refine wpAnyL_ready (rs := [3]) (by kernel_rfl) (by simp) ?_
            refine AllReadyL.cons (o := ?o3x6) ?hi3x6 (fun K hK => ?_) AllReadyL.nil
            (case hi3x6 => (simp only [List.getElem?_toArray, List.getElem?_cons_succ, List.getElem?_cons_zero]; exact rfl))
            go_simp
            go_at_call 21
            refine (HWK.out _ HB.out).mono ?_
            rintro e w1 ⟨WA', cW', rfl, hcw, hrw, hb9⟩
            have t0 := below_tr HB.out hb9; have t1 := below_tr HQ.out hb9; have t2 := HRL.out.below hb9
            clear HB HQ HRL
            have HB := Lib.hid t0; have HQ := Lib.hid t1; have HRL := Lib.hid t2
            clear t0 t1 t2
            have HRW := Lib.hid hrw
            have HCW := Lib.hid hcw
            clear hb9 hrw hcw
            (try go_wp2_with fail)
            (try clear hHeld)
            refine hK.out _ _ (by (try dsimp only); exact and10 (HXL.out _ HQ.out) (HXR.out _ HQ.out)) (fun hHeld => ?_)
            clear hK K
            (try simp only [Act.put, List.setIfInBounds_toArray, List.set_cons_zero, List.set_cons_succ])
            refine wpAnyL_ready (rs := [5]) (by kernel_rfl) (by simp) ?_
            refine AllReadyL.cons (o := ?o5x7) ?hi5x7 (fun K hK => ?_) AllReadyL.nil
            (case hi5x7 => (simp only [List.getElem?_toArray, List.getElem?_cons_succ, List.getElem?_cons_zero]; exact rfl))
            go_simp
            go_at_call 27
            refine (HLI.out _ HB.out).mono ?_
            rintro e w1 ⟨CA', cC', rfl, hcc, hrc, hb9⟩
            have t0 := below_tr HB.out hb9; have t1 := below_tr HQ.out hb9; have t2 := HRL.out.below hb9; have t3 := HRW.out.below hb9
            clear HB HQ HRL HRW
            have HB := Lib.hid t0; have HQ := Lib.hid t1; have HRL := Lib.hid t2; have HRW := Lib.hid t3
            clear t0 t1 t2 t3
            have HRC := Lib.hid hrc
            have HCC := Lib.hid hcc
            clear hb9 hrc hcc
            (try go_wp2_with fail)
            (try clear hHeld)
            refine hK.out _ _ (by (try dsimp only); exact and10 (HXL.out _ HQ.out) (HXR.out _ HQ.out)) (fun hHeld => ?_)
            clear hK K
            (try simp only [Act.put, List.setIfInBounds_toArray, List.set_cons_zero, List.set_cons_succ])
            refine wpAnyL_ready (rs := [7]) (by kernel_rfl) (by simp) ?_
            refine AllReadyL.cons (o := ?o7x8) ?hi7x8 (fun K hK => ?_) AllReadyL.nil
            (case hi7x8 => (simp only [List.getElem?_toArray, List.getElem?_cons_succ, List.getElem?_cons_zero]; exact rfl))
            go_simp
            go_at_call 40
            refine (HRE.out _ HB.out).mono ?_
            rintro e w1 ⟨FA', cF', EA', cE', rfl, hrx, hcf, hce, hb9⟩
            have t0 := below_tr HB.out hb9; have t1 := below_tr HQ.out hb9; have t2 := HRL.out.below hb9; have t3 := HRW.out.below hb9; have t4 := HRC.out.below hb9
            clear HB HQ HRL HRW HRC
            have HB := Lib.hid t0; have HQ := Lib.hid t1; have HRL := Lib.hid t2; have HRW := Lib.hid t3; have HRC := Lib.hid t4
            clear t0 t1 t2 t3 t4
            have HRX := Lib.hid hrx
            clear hb9 hrx
            clear hcf hce
            (try go_wp2_with fail)
            (try clear hHeld)
            refine hK.out _ _ (by (try dsimp only); exact and10 (HXL.out _ HQ.out) (HXR.out _ HQ.out)) (fun hHeld => ?_)
            clear hK K
            (try simp only [Act.put, List.setIfInBounds_toArray, List.set_cons_zero, List.set_cons_succ])
            refine wpAnyL_ready (rs := [8]) (by kernel_rfl) (by simp) ?_
            refine AllReadyL.cons (o := ?o8x9) ?hi8x9 (fun K hK => ?_) AllReadyL.nil
            (case hi8x9 => (simp only [List.getElem?_toArray, List.getElem?_cons_succ, List.getElem?_cons_zero]; exact rfl))
            go_simp
            go_at_call 39
            refine (Fill_bad HE0.out (by decide) HRL.out HRW.out HRC.out HRX.out HCV.out HCI.out (by omega) (by omega) (by omega) (by omega) (by omega) (by omega)).mono ?_
            rintro e w1 ⟨QA, cQ, rfl, hb9⟩
            have t0 := below_tr HB.out hb9; have t1 := below_tr HQ.out hb9; have t2 := HRL.out.below hb9; have t3 := HRW.out.below hb9; have t4 := HRC.out.below hb9; have t5 := HRX.out.below hb9
            clear HB HQ HRL HRW HRC HRX
            have HB := Lib.hid t0; have HQ := Lib.hid t1; have HRL := Lib.hid t2; have HRW := Lib.hid t3; have HRC := Lib.hid t4; have HRX := Lib.hid t5
            clear t0 t1 t2 t3 t4 t5
            clear hb9 
            clear HRL HRW HRC HRX HCV HCI HCW HCC
            (try go_wp2_with fail)
            (try clear hHeld)
            refine hK.out _ _ (by (try dsimp only); exact and10 (HXL.out _ HQ.out) (HXR.out _ HQ.out)) (fun hHeld => ?_)
            clear hK K
            (try simp only [Act.put, List.setIfInBounds_toArray, List.set_cons_zero, List.set_cons_succ])
            (refine wpAnyL_take (n := 0) (i := 9) (oi := ?ox10) (v := ?vx10) ?hix10 ?k1x10 ?k2x10 ?k3x10 ?k4x10 ?k5x10 ?k6x10 ?hQx10 ?hYx10 ?hSx10 ?restx10; (case hix10 => (simp only [List.getElem?_toArray, List.getElem?_cons_succ, List.getElem?_cons_zero]; exact rfl)); (case k1x10 => kernel_rfl); (case k2x10 => kernel_rfl); (case k3x10 => kernel_rfl); (case k4x10 => kernel_rfl); (case k5x10 => kernel_rfl); (case k6x10 => kernel_rfl); (case hSx10 => assumption); (case hYx10 => (refine Or.inl ⟨rfl, ?hyx10⟩; intro w hSw; (try dsimp only at hSw); go_simp; (try with_reducible rfl))); (case hQx10 => exact (fun _ _ _ h => h)); (try simp only [Act.put, List.setIfInBounds_toArray, List.set_cons_zero, List.set_cons_succ]))
            (refine wpAnyL_take (n := 0) (i := 10) (oi := ?ox11) (v := ?vx11) ?hix11 ?k1x11 ?k2x11 ?k3x11 ?k4x11 ?k5x11 ?k6x11 ?hQx11 ?hYx11 ?hSx11 ?restx11; (case hix11 => (simp only [List.getElem?_toArray, List.getElem?_cons_succ, List.getElem?_cons_zero]; exact rfl)); (case k1x11 => kernel_rfl); (case k2x11 => kernel_rfl); (case k3x11 => kernel_rfl); (case k4x11 => kernel_rfl); (case k5x11 => kernel_rfl); (case k6x11 => kernel_rfl); (case hSx11 => assumption); (case hYx11 => (refine Or.inl ⟨rfl, ?hyx11⟩; intro w hSw; (try dsimp only at hSw); go_simp; (try with_reducible rfl))); (case hQx11 => exact (fun _ _ _ h => h)); (try simp only [Act.put, List.setIfInBounds_toArray, List.set_cons_zero, List.set_cons_succ]))
            (refine wpAnyL_take (n := 0) (i := 11) (oi := ?ox12) (v := ?vx12) ?hix12 ?k1x12 ?k2x12 ?k3x12 ?k4x12 ?k5x12 ?k6x12 ?hQx12 ?hYx12 ?hSx12 ?restx12; (case hix12 => (simp only [List.getElem?_toArray, List.getElem?_cons_succ, List.getElem?_cons_zero]; exact rfl)); (case k1x12 => kernel_rfl); (case k2x12 => kernel_rfl); (case k3x12 => kernel_rfl); (case k4x12 => kernel_rfl); (case k5x12 => kernel_rfl); (case k6x12 => kernel_rfl); (case hSx12 => assumption); (case hYx12 => (refine Or.inl ⟨rfl, ?hyx12⟩; intro w hSw; (try dsimp only at hSw); go_simp; (try with_reducible rfl))); (case hQx12 => exact (fun _ _ _ h => h)); (try simp only [Act.put, List.setIfInBounds_toArray, List.set_cons_zero, List.set_cons_succ]))
            (refine wpAnyL_take (n := 0) (i := 12) (oi := ?ox13) (v := ?vx13) ?hix13 ?k1x13 ?k2x13 ?k3x13 ?k4x13 ?k5x13 ?k6x13 ?hQx13 ?hYx13 ?hSx13 ?restx13; (case hix13 => (simp only [List.getElem?_toArray, List.getElem?_cons_succ, List.getElem?_cons_zero]; exact rfl)); (case k1x13 => kernel_rfl); (case k2x13 => kernel_rfl); (case k3x13 => kernel_rfl); (case k4x13 => kernel_rfl); (case k5x13 => kernel_rfl); (case k6x13 => kernel_rfl); (case hSx13 => assumption); (case hYx13 => (refine Or.inl ⟨rfl, ?hyx13⟩; intro w hSw; (try dsimp only at hSw); go_simp; (try with_reducible rfl))); (case hQx13 => exact (fun _ _ _ h => h)); (try simp only [Act.put, List.setIfInBounds_toArray, List.set_cons_zero, List.set_cons_succ]))
            (refine wpAnyL_take (n := 0) (i := 13) (oi := ?ox14) (v := ?vx14) ?hix14 ?k1x14 ?k2x14 ?k3x14 ?k4x14 ?k5x14 ?k6x14 ?hQx14 ?hYx14 ?hSx14 ?restx14; (case hix14 => (simp only [List.getElem?_toArray, List.getElem?_cons_succ, List.getElem?_cons_zero]; exact rfl)); (case k1x14 => kernel_rfl); (case k2x14 => kernel_rfl); (case k3x14 => kernel_rfl); (case k4x14 => kernel_rfl); (case k5x14 => kernel_rfl); (case k6x14 => kernel_rfl); (case hSx14 => assumption); (case hYx14 => (refine Or.inl ⟨rfl, ?hyx14⟩; intro w hSw; (try dsimp only at hSw); go_simp; (try with_reducible rfl))); (case hQx14 => exact (fun _ _ _ h => h)); (try simp only [Act.put, List.setIfInBounds_toArray, List.set_cons_zero, List.set_cons_succ]))
            (refine wpAnyL_take (n := 0) (i := 14) (oi := ?ox15) (v := ?vx15) ?hix15 ?k1x15 ?k2x15 ?k3x15 ?k4x15 ?k5x15 ?k6x15 ?hQx15 ?hYx15 ?hSx15 ?restx15; (case hix15 => (simp only [List.getElem?_toArray, List.getElem?_cons_succ, List.getElem?_cons_zero]; exact rfl)); (case k1x15 => kernel_rfl); (case k2x15 => kernel_rfl); (case k3x15 => kernel_rfl); (case k4x15 => kernel_rfl); (case k5x15 => kernel_rfl); (case k6x15 => kernel_rfl); (case hSx15 => assumption); (case hYx15 => (refine Or.inl ⟨rfl, ?hyx15⟩; intro w hSw; (try dsimp only at hSw); go_simp; (try with_reducible rfl))); (case hQx15 => exact (fun _ _ _ h => h)); (try simp only [Act.put, List.setIfInBounds_toArray, List.set_cons_zero, List.set_cons_succ]))
            (refine wpAnyL_take (n := 0) (i := 15) (oi := ?ox16) (v := ?vx16) ?hix16 ?k1x16 ?k2x16 ?k3x16 ?k4x16 ?k5x16 ?k6x16 ?hQx16 ?hYx16 ?hSx16 ?restx16; (case hix16 => (simp only [List.getElem?_toArray, List.getElem?_cons_succ, List.getElem?_cons_zero]; exact rfl)); (case k1x16 => kernel_rfl); (case k2x16 => kernel_rfl); (case k3x16 => kernel_rfl); (case k4x16 => kernel_rfl); (case k5x16 => kernel_rfl); (case k6x16 => kernel_rfl); (case hSx16 => assumption); (case hYx16 => (refine Or.inl ⟨rfl, ?hyx16⟩; intro w hSw; (try dsimp only at hSw); go_simp; (try with_reducible rfl))); (case hQx16 => exact (fun _ _ _ h => h)); (try simp only [Act.put, List.setIfInBounds_toArray, List.set_cons_zero, List.set_cons_succ]))
            (refine wpAnyL_done (by kernel_rfl) ?_ _)
            obtain ⟨x0, x1, x2, x3, x4, x5, x6, x7, x8, x9⟩ := HXL.out _ HQ.out
            go_wp2_with fail
            go_at_call 17
            refine (HFA.out _ HB.out).mono ?_
            rintro e w1 ⟨rfl, hb9⟩
            have t0 := below_tr HB.out hb9; have t1 := below_tr HQ.out hb9
            clear HB HQ
            have HB := Lib.hid t0; have HQ := Lib.hid t1
            clear t0 t1
            clear hb9 
            clear x0 x1 x2 x3 x4 x5 x6 x7 x8 x9
            obtain ⟨x0, x1, x2, x3, x4, x5, x6, x7, x8, x9⟩ := HXL.out _ HQ.out
            obtain ⟨y0, y1, y2, y3⟩ := HXR.out _ HQ.out
            go_wp2_with fail
            go_at_call 41
            refine (HRF.out _ HB.out).mono ?_
            rintro e w1 ⟨rfl, hb9⟩
            have t0 := below_tr HB.out hb9; have t1 := below_tr HQ.out hb9
            clear HB HQ
            have HB := Lib.hid t0; have HQ := Lib.hid t1
            clear t0 t1
            clear hb9 
            go_wp2_with fail
            go_at_call 18
            refine (HAW.out _).mono ?_
            rintro e w1 ⟨rfl, hb9⟩
            have t0 := below_tr HB.out hb9; have t1 := below_tr HQ.out hb9
            clear HB HQ
            have HB := Lib.hid t0; have HQ := Lib.hid t1
            clear t0 t1
            clear hb9 
            go_wp2_with fail
            go_ret
            exact ⟨rfl, HB.out⟩
          · rw [hf] at HRF
            have HFT := Lib.hid (fitsB_iff.1 hf)
            have HRI := Lib.hid (fun (U : World) (hU : Below w.heap.size w U) => rFill_c (cV := cV) (cI := cI) (cW := cW) (cC := cC) (cF := cF) (cS := cS) (HL.out.below hU) (HWk.out.below hU) (HC.out.below hU) (HX.out.below hU) HOK.out HWO.out HCO.out HFT.out)
            clear hE0 ha hok hf
            go_enter Try.func8, Try.ntmps8
            go_upto_region 1 with fail
            rw [← HW.out]
            obtain ⟨x0, x1, x2, x3, x4, x5, x6, x7, x8, x9⟩ := HXL.out _ HQ.out
            go_wp2_with fail
            go_at_call 38
            refine (HTH.out _).mono ?_
            rintro e w1 ⟨rfl, hb9⟩
            have t0 := below_tr HB.out hb9; have t1 := below_tr HQ.out hb9
            clear HB HQ
            have HB := Lib.hid t0; have HQ := Lib.hid t1
            clear t0 t1
            clear hb9 
            obtain ⟨y0, y1, y2, y3⟩ := HXR.out _ HQ.out
            clear x0 x1 x2 x3 x4 x5 x6 x7 x8 x9
            go_upto_region 3 with fail
            clear y0 y1 y2 y3
            refine wp_region_till [] (fun U => U.cell? ⟨w.heap.size, 0, none⟩ = some (.slice VA nV cV) ∧ U.cell? ⟨w.heap.size, 1, none⟩ = some (.int .i64 l.crest) ∧ U.cell? ⟨w.heap.size, 2, none⟩ = some (.int .i64 l.weak) ∧ U.cell? ⟨w.heap.size, 3, none⟩ = some (.int .i64 l.soft.1) ∧ U.cell? ⟨w.heap.size, 4, none⟩ = some (.int .i64 l.soft.2) ∧ U.cell? ⟨w.heap.size, 5, none⟩ = some (.int .i64 l.start.1) ∧ U.cell? ⟨w.heap.size, 6, none⟩ = some (.int .i64 l.start.2) ∧ U.cell? ⟨w.heap.size, 7, none⟩ = some (.int .i64 l.seep.1) ∧ U.cell? ⟨w.heap.size, 8, none⟩ = some (.int .i64 l.seep.2) ∧ U.cell? ⟨w.heap.size, 9, none⟩ = some (.slice IA nI cI) ∧ U.cell? ⟨w.heap.size + 1, 0, none⟩ = some (.slice FA nF cF) ∧ U.cell? ⟨w.heap.size + 1, 1, none⟩ = some (.slice SA nS cS) ∧ U.cell? ⟨w.heap.size + 1, 2, none⟩ = some (.int .i64 x.start) ∧ U.cell? ⟨w.heap.size + 1, 3, none⟩ = some (.int .i64 x.soft)) (by kernel_rfl) (by exact and10 (HXL.out _ HQ.out.drew) (HXR.out _ HQ.out.drew)) (fun hHeld => ?_)
            have hb9 := (Below.refl w1.heap.size w1).drew
            have t0 := below_tr HB.out hb9; have t1 := below_tr HQ.out hb9
            clear HB HQ
            have HB := Lib.hid t0; have HQ := Lib.hid t1
            clear t0 t1
            clear hb9
            revert hHeld HB HQ
            generalize w1.drew = w0
            intro hHeld HB HQ
            (refine wpAnyL_take (n := 0) (i := 0) (oi := ?ox17) (v := ?vx17) ?hix17 ?k1x17 ?k2x17 ?k3x17 ?k4x17 ?k5x17 ?k6x17 ?hQx17 ?hYx17 ?hSx17 ?restx17; (case hix17 => (simp only [List.getElem?_toArray, List.getElem?_cons_succ, List.getElem?_cons_zero]; exact rfl)); (case k1x17 => kernel_rfl); (case k2x17 => kernel_rfl); (case k3x17 => kernel_rfl); (case k4x17 => kernel_rfl); (case k5x17 => kernel_rfl); (case k6x17 => kernel_rfl); (case hSx17 => assumption); (case hYx17 => (refine Or.inl ⟨rfl, ?hyx17⟩; intro w hSw; (try dsimp only at hSw); go_simp; (try with_reducible rfl))); (case hQx17 => exact (fun _ _ _ h => h)); (try simp only [Act.put, List.setIfInBounds_toArray, List.set_cons_zero, List.set_cons_succ]))
            (refine wpAnyL_take (n := 0) (i := 2) (oi := ?ox18) (v := ?vx18) ?hix18 ?k1x18 ?k2x18 ?k3x18 ?k4x18 ?k5x18 ?k6x18 ?hQx18 ?hYx18 ?hSx18 ?restx18; (case hix18 => (simp only [List.getElem?_toArray, List.getElem?_cons_succ, List.getElem?_cons_zero]; exact rfl)); (case k1x18 => kernel_rfl); (case k2x18 => kernel_rfl); (case k3x18 => kernel_rfl); (case k4x18 => kernel_rfl); (case k5x18 => kernel_rfl); (case k6x18 => kernel_rfl); (case hSx18 => assumption); (case hYx18 => (refine Or.inl ⟨rfl, ?hyx18⟩; intro w hSw; (try dsimp only at hSw); go_simp; (try with_reducible rfl))); (case hQx18 => exact (fun _ _ _ h => h)); (try simp only [Act.put, List.setIfInBounds_toArray, List.set_cons_zero, List.set_cons_succ]))
            (refine wpAnyL_take (n := 0) (i := 4) (oi := ?ox19) (v := ?vx19) ?hix19 ?k1x19 ?k2x19 ?k3x19 ?k4x19 ?k5x19 ?k6x19 ?hQx19 ?hYx19 ?hSx19 ?restx19; (case hix19 => (simp only [List.getElem?_toArray, List.getElem?_cons_succ, List.getElem?_cons_zero]; exact rfl)); (case k1x19 => kernel_rfl); (case k2x19 => kernel_rfl); (case k3x19 => kernel_rfl); (case k4x19 => kernel_rfl); (case k5x19 => kernel_rfl); (case k6x19 => kernel_rfl); (case hSx19 => assumption); (case hYx19 => (refine Or.inl ⟨rfl, ?hyx19⟩; intro w hSw; (try dsimp only at hSw); go_simp; (try with_reducible rfl))); (case hQx19 => exact (fun _ _ _ h => h)); (try simp only [Act.put, List.setIfInBounds_toArray, List.set_cons_zero, List.set_cons_succ]))
            (refine wpAnyL_take (n := 0) (i := 6) (oi := ?ox20) (v := ?vx20) ?hix20 ?k1x20 ?k2x20 ?k3x20 ?k4x20 ?k5x20 ?k6x20 ?hQx20 ?hYx20 ?hSx20 ?restx20; (case hix20 => (simp only [List.getElem?_toArray, List.getElem?_cons_succ, List.getElem?_cons_zero]; exact rfl)); (case k1x20 => kernel_rfl); (case k2x20 => kernel_rfl); (case k3x20 => kernel_rfl); (case k4x20 => kernel_rfl); (case k5x20 => kernel_rfl); (case k6x20 => kernel_rfl); (case hSx20 => assumption); (case hYx20 => (refine Or.inl ⟨rfl, ?hyx20⟩; intro w hSw; (try dsimp only at hSw); go_simp; (try with_reducible rfl))); (case hQx20 => exact (fun _ _ _ h => h)); (try simp only [Act.put, List.setIfInBounds_toArray, List.set_cons_zero, List.set_cons_succ]))
            refine wpAnyL_ready (rs := [1]) (by kernel_rfl) (by simp) ?_
            refine AllReadyL.cons (o := ?o1x21) ?hi1x21 (fun K hK => ?_) AllReadyL.nil
            (case hi1x21 => (simp only [List.getElem?_toArray, List.getElem?_cons_succ, List.getElem?_cons_zero]; exact rfl))
            go_simp
            go_at_call 20
            refine (HLK.out _ HB.out).mono ?_
            rintro e w1 ⟨VA', cV', IA', cI', rfl, hcv, hci, hrl, hb9⟩
            have t0 := below_tr HB.out hb9; have t1 := below_tr HQ.out hb9
            clear HB HQ
            have HB := Lib.hid t0; have HQ := Lib.hid t1
            clear t0 t1
            have HRL := Lib.hid hrl
            have HCV := Lib.hid hcv
            have HCI := Lib.hid hci
            clear hb9 hrl hcv hci
            (try go_wp2_with fail)
            (try clear hHeld)
            refine hK.out _ _ (by (try dsimp only); exact and10 (HXL.out _ HQ.out) (HXR.out _ HQ.out)) (fun hHeld => ?_)
            clear hK K
            (try simp only [Act.put, List.setIfInBounds_toArray, List.set_cons_zero, List.set_cons_succ])
            refine wpAnyL_ready (rs := [3]) (by kernel_rfl) (by simp) ?_
            refine AllReadyL.cons (o := ?o3x22) ?hi3x22 (fun K hK => ?_) AllReadyL.nil
            (case hi3x22 => (simp only [List.getElem?_toArray, List.getElem?_cons_succ, List.getElem?_cons_zero]; exact rfl))
            go_simp
            go_at_call 21
            refine (HWK.out _ HB.out).mono ?_
            rintro e w1 ⟨WA', cW', rfl, hcw, hrw, hb9⟩
            have t0 := below_tr HB.out hb9; have t1 := below_tr HQ.out hb9; have t2 := HRL.out.below hb9
            clear HB HQ HRL
            have HB := Lib.hid t0; have HQ := Lib.hid t1; have HRL := Lib.hid t2
            clear t0 t1 t2
            have HRW := Lib.hid hrw
            have HCW := Lib.hid hcw
            clear hb9 hrw hcw
            (try go_wp2_with fail)
            (try clear hHeld)
            refine hK.out _ _ (by (try dsimp only); exact and10 (HXL.out _ HQ.out) (HXR.out _ HQ.out)) (fun hHeld => ?_)
            clear hK K
            (try simp only [Act.put, List.setIfInBounds_toArray, List.set_cons_zero, List.set_cons_succ])
            refine wpAnyL_ready (rs := [5]) (by kernel_rfl) (by simp) ?_
            refine AllReadyL.cons (o := ?o5x23) ?hi5x23 (fun K hK => ?_) AllReadyL.nil
            (case hi5x23 => (simp only [List.getElem?_toArray, List.getElem?_cons_succ, List.getElem?_cons_zero]; exact rfl))
            go_simp
            go_at_call 27
            refine (HLI.out _ HB.out).mono ?_
            rintro e w1 ⟨CA', cC', rfl, hcc, hrc, hb9⟩
            have t0 := below_tr HB.out hb9; have t1 := below_tr HQ.out hb9; have t2 := HRL.out.below hb9; have t3 := HRW.out.below hb9
            clear HB HQ HRL HRW
            have HB := Lib.hid t0; have HQ := Lib.hid t1; have HRL := Lib.hid t2; have HRW := Lib.hid t3
            clear t0 t1 t2 t3
            have HRC := Lib.hid hrc
            have HCC := Lib.hid hcc
            clear hb9 hrc hcc
            (try go_wp2_with fail)
            (try clear hHeld)
            refine hK.out _ _ (by (try dsimp only); exact and10 (HXL.out _ HQ.out) (HXR.out _ HQ.out)) (fun hHeld => ?_)
            clear hK K
            (try simp only [Act.put, List.setIfInBounds_toArray, List.set_cons_zero, List.set_cons_succ])
            refine wpAnyL_ready (rs := [7]) (by kernel_rfl) (by simp) ?_
            refine AllReadyL.cons (o := ?o7x24) ?hi7x24 (fun K hK => ?_) AllReadyL.nil
            (case hi7x24 => (simp only [List.getElem?_toArray, List.getElem?_cons_succ, List.getElem?_cons_zero]; exact rfl))
            go_simp
            go_at_call 40
            refine (HRE.out _ HB.out).mono ?_
            rintro e w1 ⟨FA', cF', EA', cE', rfl, hrx, hcf, hce, hb9⟩
            have t0 := below_tr HB.out hb9; have t1 := below_tr HQ.out hb9; have t2 := HRL.out.below hb9; have t3 := HRW.out.below hb9; have t4 := HRC.out.below hb9
            clear HB HQ HRL HRW HRC
            have HB := Lib.hid t0; have HQ := Lib.hid t1; have HRL := Lib.hid t2; have HRW := Lib.hid t3; have HRC := Lib.hid t4
            clear t0 t1 t2 t3 t4
            have HRX := Lib.hid hrx
            clear hb9 hrx
            clear hcf hce
            (try go_wp2_with fail)
            (try clear hHeld)
            refine hK.out _ _ (by (try dsimp only); exact and10 (HXL.out _ HQ.out) (HXR.out _ HQ.out)) (fun hHeld => ?_)
            clear hK K
            (try simp only [Act.put, List.setIfInBounds_toArray, List.set_cons_zero, List.set_cons_succ])
            refine wpAnyL_ready (rs := [8]) (by kernel_rfl) (by simp) ?_
            refine AllReadyL.cons (o := ?o8x25) ?hi8x25 (fun K hK => ?_) AllReadyL.nil
            (case hi8x25 => (simp only [List.getElem?_toArray, List.getElem?_cons_succ, List.getElem?_cons_zero]; exact rfl))
            go_simp
            go_at_call 39
            refine (Fill_3 HRL.out HRW.out HRC.out HRX.out HCV.out HCI.out HOK.out HWO.out HCO.out HFT.out).mono ?_
            rintro e w1 ⟨QA, cQ, N, B, FV, rfl, hcq, hrq, hff, hb9⟩
            have t0 := below_tr HB.out hb9; have t1 := below_tr HQ.out hb9; have t2 := HRL.out.below hb9; have t3 := HRW.out.below hb9; have t4 := HRC.out.below hb9; have t5 := HRX.out.below hb9
            clear HB HQ HRL HRW HRC HRX
            have HB := Lib.hid t0; have HQ := Lib.hid t1; have HRL := Lib.hid t2; have HRW := Lib.hid t3; have HRC := Lib.hid t4; have HRX := Lib.hid t5
            clear t0 t1 t2 t3 t4 t5
            have HRQ := Lib.hid hrq
            have HFF := Lib.hid hff
            have HCQ := Lib.hid hcq
            clear hb9 hrq hff hcq
            clear HRL HRW HRC HRX HCV HCI HCW HCC
            (try go_wp2_with fail)
            (try clear hHeld)
            refine hK.out _ _ (by (try dsimp only); exact and10 (HXL.out _ HQ.out) (HXR.out _ HQ.out)) (fun hHeld => ?_)
            clear hK K
            (try simp only [Act.put, List.setIfInBounds_toArray, List.set_cons_zero, List.set_cons_succ])
            (refine wpAnyL_take (n := 0) (i := 9) (oi := ?ox26) (v := ?vx26) ?hix26 ?k1x26 ?k2x26 ?k3x26 ?k4x26 ?k5x26 ?k6x26 ?hQx26 ?hYx26 ?hSx26 ?restx26; (case hix26 => (simp only [List.getElem?_toArray, List.getElem?_cons_succ, List.getElem?_cons_zero]; exact rfl)); (case k1x26 => kernel_rfl); (case k2x26 => kernel_rfl); (case k3x26 => kernel_rfl); (case k4x26 => kernel_rfl); (case k5x26 => kernel_rfl); (case k6x26 => kernel_rfl); (case hSx26 => assumption); (case hYx26 => (refine Or.inl ⟨rfl, ?hyx26⟩; intro w hSw; (try dsimp only at hSw); go_simp; (try with_reducible rfl))); (case hQx26 => exact (fun _ _ _ h => h)); (try simp only [Act.put, List.setIfInBounds_toArray, List.set_cons_zero, List.set_cons_succ]))
            (refine wpAnyL_take (n := 0) (i := 10) (oi := ?ox27) (v := ?vx27) ?hix27 ?k1x27 ?k2x27 ?k3x27 ?k4x27 ?k5x27 ?k6x27 ?hQx27 ?hYx27 ?hSx27 ?restx27; (case hix27 => (simp only [List.getElem?_toArray, List.getElem?_cons_succ, List.getElem?_cons_zero]; exact rfl)); (case k1x27 => kernel_rfl); (case k2x27 => kernel_rfl); (case k3x27 => kernel_rfl); (case k4x27 => kernel_rfl); (case k5x27 => kernel_rfl); (case k6x27 => kernel_rfl); (case hSx27 => assumption); (case hYx27 => (refine Or.inl ⟨rfl, ?hyx27⟩; intro w hSw; (try dsimp only at hSw); go_simp; (try with_reducible rfl))); (case hQx27 => exact (fun _ _ _ h => h)); (try simp only [Act.put, List.setIfInBounds_toArray, List.set_cons_zero, List.set_cons_succ]))
            (refine wpAnyL_take (n := 0) (i := 11) (oi := ?ox28) (v := ?vx28) ?hix28 ?k1x28 ?k2x28 ?k3x28 ?k4x28 ?k5x28 ?k6x28 ?hQx28 ?hYx28 ?hSx28 ?restx28; (case hix28 => (simp only [List.getElem?_toArray, List.getElem?_cons_succ, List.getElem?_cons_zero]; exact rfl)); (case k1x28 => kernel_rfl); (case k2x28 => kernel_rfl); (case k3x28 => kernel_rfl); (case k4x28 => kernel_rfl); (case k5x28 => kernel_rfl); (case k6x28 => kernel_rfl); (case hSx28 => assumption); (case hYx28 => (refine Or.inl ⟨rfl, ?hyx28⟩; intro w hSw; (try dsimp only at hSw); go_simp; (try with_reducible rfl))); (case hQx28 => exact (fun _ _ _ h => h)); (try simp only [Act.put, List.setIfInBounds_toArray, List.set_cons_zero, List.set_cons_succ]))
            (refine wpAnyL_take (n := 0) (i := 12) (oi := ?ox29) (v := ?vx29) ?hix29 ?k1x29 ?k2x29 ?k3x29 ?k4x29 ?k5x29 ?k6x29 ?hQx29 ?hYx29 ?hSx29 ?restx29; (case hix29 => (simp only [List.getElem?_toArray, List.getElem?_cons_succ, List.getElem?_cons_zero]; exact rfl)); (case k1x29 => kernel_rfl); (case k2x29 => kernel_rfl); (case k3x29 => kernel_rfl); (case k4x29 => kernel_rfl); (case k5x29 => kernel_rfl); (case k6x29 => kernel_rfl); (case hSx29 => assumption); (case hYx29 => (refine Or.inl ⟨rfl, ?hyx29⟩; intro w hSw; (try dsimp only at hSw); go_simp; (try with_reducible rfl))); (case hQx29 => exact (fun _ _ _ h => h)); (try simp only [Act.put, List.setIfInBounds_toArray, List.set_cons_zero, List.set_cons_succ]))
            (refine wpAnyL_take (n := 0) (i := 13) (oi := ?ox30) (v := ?vx30) ?hix30 ?k1x30 ?k2x30 ?k3x30 ?k4x30 ?k5x30 ?k6x30 ?hQx30 ?hYx30 ?hSx30 ?restx30; (case hix30 => (simp only [List.getElem?_toArray, List.getElem?_cons_succ, List.getElem?_cons_zero]; exact rfl)); (case k1x30 => kernel_rfl); (case k2x30 => kernel_rfl); (case k3x30 => kernel_rfl); (case k4x30 => kernel_rfl); (case k5x30 => kernel_rfl); (case k6x30 => kernel_rfl); (case hSx30 => assumption); (case hYx30 => (refine Or.inl ⟨rfl, ?hyx30⟩; intro w hSw; (try dsimp only at hSw); go_simp; (try with_reducible rfl))); (case hQx30 => exact (fun _ _ _ h => h)); (try simp only [Act.put, List.setIfInBounds_toArray, List.set_cons_zero, List.set_cons_succ]))
            (refine wpAnyL_take (n := 0) (i := 14) (oi := ?ox31) (v := ?vx31) ?hix31 ?k1x31 ?k2x31 ?k3x31 ?k4x31 ?k5x31 ?k6x31 ?hQx31 ?hYx31 ?hSx31 ?restx31; (case hix31 => (simp only [List.getElem?_toArray, List.getElem?_cons_succ, List.getElem?_cons_zero]; exact rfl)); (case k1x31 => kernel_rfl); (case k2x31 => kernel_rfl); (case k3x31 => kernel_rfl); (case k4x31 => kernel_rfl); (case k5x31 => kernel_rfl); (case k6x31 => kernel_rfl); (case hSx31 => assumption); (case hYx31 => (refine Or.inl ⟨rfl, ?hyx31⟩; intro w hSw; (try dsimp only at hSw); go_simp; (try with_reducible rfl))); (case hQx31 => exact (fun _ _ _ h => h)); (try simp only [Act.put, List.setIfInBounds_toArray, List.set_cons_zero, List.set_cons_succ]))
            (refine wpAnyL_take (n := 0) (i := 15) (oi := ?ox32) (v := ?vx32) ?hix32 ?k1x32 ?k2x32 ?k3x32 ?k4x32 ?k5x32 ?k6x32 ?hQx32 ?hYx32 ?hSx32 ?restx32; (case hix32 => (simp only [List.getElem?_toArray, List.getElem?_cons_succ, List.getElem?_cons_zero]; exact rfl)); (case k1x32 => kernel_rfl); (case k2x32 => kernel_rfl); (case k3x32 => kernel_rfl); (case k4x32 => kernel_rfl); (case k5x32 => kernel_rfl); (case k6x32 => kernel_rfl); (case hSx32 => assumption); (case hYx32 => (refine Or.inl ⟨rfl, ?hyx32⟩; intro w hSw; (try dsimp only at hSw); go_simp; (try with_reducible rfl))); (case hQx32 => exact (fun _ _ _ h => h)); (try simp only [Act.put, List.setIfInBounds_toArray, List.set_cons_zero, List.set_cons_succ]))
            (refine wpAnyL_done (by kernel_rfl) ?_ _)
            obtain ⟨x0, x1, x2, x3, x4, x5, x6, x7, x8, x9⟩ := HXL.out _ HQ.out
            go_wp2_with fail
            go_at_call 17
            refine (HFA.out _ HB.out).mono ?_
            rintro e w1 ⟨rfl, hb9⟩
            have t0 := below_tr HB.out hb9; have t1 := below_tr HQ.out hb9; have t2 := HRQ.out.below hb9
            clear HB HQ HRQ
            have HB := Lib.hid t0; have HQ := Lib.hid t1; have HRQ := Lib.hid t2
            clear t0 t1 t2
            clear hb9 
            clear x0 x1 x2 x3 x4 x5 x6 x7 x8 x9
            obtain ⟨x0, x1, x2, x3, x4, x5, x6, x7, x8, x9⟩ := HXL.out _ HQ.out
            obtain ⟨y0, y1, y2, y3⟩ := HXR.out _ HQ.out
            go_wp2_with fail
            go_at_call 41
            refine (HRF.out _ HB.out).mono ?_
            rintro e w1 ⟨rfl, hb9⟩
            have t0 := below_tr HB.out hb9; have t1 := below_tr HQ.out hb9; have t2 := HRQ.out.below hb9
            clear HB HQ HRQ
            have HB := Lib.hid t0; have HQ := Lib.hid t1; have HRQ := Lib.hid t2
            clear t0 t1 t2
            clear hb9 
            clear x0 x1 x2 x3 x4 x5 x6 x7 x8 x9 y0 y1 y2 y3
            obtain ⟨x0, x1, x2, x3, x4, x5, x6, x7, x8, x9⟩ := HXL.out _ HQ.out
            obtain ⟨y0, y1, y2, y3⟩ := HXR.out _ HQ.out
            go_wp2_with fail
            go_at_call 42
            refine (HRI.out _ HB.out).mono ?_
            rintro e w1 ⟨TA, cT, N2, rfl, hct, hrt, hb9⟩
            have t0 := below_tr HB.out hb9; have t1 := below_tr HQ.out hb9; have t2 := HRQ.out.below hb9
            clear HB HQ HRQ
            have HB := Lib.hid t0; have HQ := Lib.hid t1; have HRQ := Lib.hid t2
            clear t0 t1 t2
            have HRT := Lib.hid hrt
            clear hb9 hrt
            clear hct x0 x1 x2 x3 x4 x5 x6 x7 x8 x9 y0 y1 y2 y3
            rw [HFF.out.2.1]
            have hNl := HRQ.out.len
            have HNN := Lib.hid (show N ≤ 1000 by
              have e1 := HFF.out.2.2; have e2 := HLEN.out.2.1
              have : (fillV l ws c x).length ≤ l.inflow.length := by
                rw [fillV_len]; unfold fillN; split
                · have : fillB l ws c x < (l.inflow.length : Int) := (firstN_lt _ _).2
                  omega
                · omega
              rw [e1] at this; omega)
            clear hNl
            have hbb : (B == B) = true := by simp
            go_wp2_with fail
            go_at_call 23
            refine (ints_t HRQ.out HRT.out (by have := HNN.out; omega) HFF.out.2.2.symm).mono ?_
            rintro e w1 ⟨rfl, hb9⟩
            have t0 := below_tr HB.out hb9; have t1 := below_tr HQ.out hb9; have t2 := HRQ.out.below hb9; have t3 := HRT.out.below hb9
            clear HB HQ HRQ HRT
            have HB := Lib.hid t0; have HQ := Lib.hid t1; have HRQ := Lib.hid t2; have HRT := Lib.hid t3
            clear t0 t1 t2 t3
            clear hb9 
            go_wp2_with fail
            go_at_call 18
            refine (HAW.out _).mono ?_
            rintro e w1 ⟨rfl, hb9⟩
            have t0 := below_tr HB.out hb9; have t1 := below_tr HQ.out hb9; have t2 := HRQ.out.below hb9; have t3 := HRT.out.below hb9
            clear HB HQ HRQ HRT
            have HB := Lib.hid t0; have HQ := Lib.hid t1; have HRQ := Lib.hid t2; have HRT := Lib.hid t3
            clear t0 t1 t2 t3
            clear hb9 
            go_wp2_with fail
            go_ret
            exact ⟨rfl, HB.out⟩
        · obtain ⟨E, hE⟩ : ∃ E, E = errA l ws c := ⟨_, rfl⟩
          have hE0 := fillE_a (x := x) ha
          rw [← hE] at ha HFA hE0
          have HE0 := Lib.hid hE0
          have HNE := Lib.hid ha
          have e1 : (E == 0) = false := by simpa using ha
          have e2 : (E != 0) = true := by simpa using ha
          have e3 : (E == E) = true := by simp
          clear ha hE hE0
          go_enter Try.func8, Try.ntmps8
          go_upto_region 1 with fail
          rw [← HW.out]
          obtain ⟨x0, x1, x2, x3, x4, x5, x6, x7, x8, x9⟩ := HXL.out _ HQ.out
          go_wp2_with fail
          go_at_call 38
          refine (HTH.out _).mono ?_
          rintro e w1 ⟨rfl, hb9⟩
          have t0 := below_tr HB.out hb9; have t1 := below_tr HQ.out hb9
          clear HB HQ
          have HB := Lib.hid t0; have HQ := Lib.hid t1
          clear t0 t1
          clear hb9 
          obtain ⟨y0, y1, y2, y3⟩ := HXR.out _ HQ.out
          clear x0 x1 x2 x3 x4 x5 x6 x7 x8 x9
          go_upto_region 3 with fail
          clear y0 y1 y2 y3
          refine wp_region_till [] (fun U => U.cell? ⟨w.heap.size, 0, none⟩ = some (.slice VA nV cV) ∧ U.cell? ⟨w.heap.size, 1, none⟩ = some (.int .i64 l.crest) ∧ U.cell? ⟨w.heap.size, 2, none⟩ = some (.int .i64 l.weak) ∧ U.cell? ⟨w.heap.size, 3, none⟩ = some (.int .i64 l.soft.1) ∧ U.cell? ⟨w.heap.size, 4, none⟩ = some (.int .i64 l.soft.2) ∧ U.cell? ⟨w.heap.size, 5, none⟩ = some (.int .i64 l.start.1) ∧ U.cell? ⟨w.heap.size, 6, none⟩ = some (.int .i64 l.start.2) ∧ U.cell? ⟨w.heap.size, 7, none⟩ = some (.int .i64 l.seep.1) ∧ U.cell? ⟨w.heap.size, 8, none⟩ = some (.int .i64 l.seep.2) ∧ U.cell? ⟨w.heap.size, 9, none⟩ = some (.slice IA nI cI) ∧ U.cell? ⟨w.heap.size + 1, 0, none⟩ = some (.slice FA nF cF) ∧ U.cell? ⟨w.heap.size + 1, 1, none⟩ = some (.slice SA nS cS) ∧ U.cell? ⟨w.heap.size + 1, 2, none⟩ = some (.int .i64 x.start) ∧ U.cell? ⟨w.heap.size + 1, 3, none⟩ = some (.int .i64 x.soft)) (by kernel_rfl) (by exact and10 (HXL.out _ HQ.out.drew) (HXR.out _ HQ.out.drew)) (fun hHeld => ?_)
          have hb9 := (Below.refl w1.heap.size w1).drew
          have t0 := below_tr HB.out hb9; have t1 := below_tr HQ.out hb9
          clear HB HQ
          have HB := Lib.hid t0; have HQ := Lib.hid t1
          clear t0 t1
          clear hb9
          revert hHeld HB HQ
          generalize w1.drew = w0
          intro hHeld HB HQ
          (refine wpAnyL_take (n := 0) (i := 0) (oi := ?ox33) (v := ?vx33) ?hix33 ?k1x33 ?k2x33 ?k3x33 ?k4x33 ?k5x33 ?k6x33 ?hQx33 ?hYx33 ?hSx33 ?restx33; (case hix33 => (simp only [List.getElem?_toArray, List.getElem?_cons_succ, List.getElem?_cons_zero]; exact rfl)); (case k1x33 => kernel_rfl); (case k2x33 => kernel_rfl); (case k3x33 => kernel_rfl); (case k4x33 => kernel_rfl); (case k5x33 => kernel_rfl); (case k6x33 => kernel_rfl); (case hSx33 => assumption); (case hYx33 => (refine Or.inl ⟨rfl, ?hyx33⟩; intro w hSw; (try dsimp only at hSw); go_simp; (try with_reducible rfl))); (case hQx33 => exact (fun _ _ _ h => h)); (try simp only [Act.put, List.setIfInBounds_toArray, List.set_cons_zero, List.set_cons_succ]))
          (refine wpAnyL_take (n := 0) (i := 2) (oi := ?ox34) (v := ?vx34) ?hix34 ?k1x34 ?k2x34 ?k3x34 ?k4x34 ?k5x34 ?k6x34 ?hQx34 ?hYx34 ?hSx34 ?restx34; (case hix34 => (simp only [List.getElem?_toArray, List.getElem?_cons_succ, List.getElem?_cons_zero]; exact rfl)); (case k1x34 => kernel_rfl); (case k2x34 => kernel_rfl); (case k3x34 => kernel_rfl); (case k4x34 => kernel_rfl); (case k5x34 => kernel_rfl); (case k6x34 => kernel_rfl); (case hSx34 => assumption); (case hYx34 => (refine Or.inl ⟨rfl, ?hyx34⟩; intro w hSw; (try dsimp only at hSw); go_simp; (try with_reducible rfl))); (case hQx34 => exact (fun _ _ _ h => h)); (try simp only [Act.put, List.setIfInBounds_toArray, List.set_cons_zero, List.set_cons_succ]))
          (refine wpAnyL_take (n := 0) (i := 4) (oi := ?ox35) (v := ?vx35) ?hix35 ?k1x35 ?k2x35 ?k3x35 ?k4x35 ?k5x35 ?k6x35 ?hQx35 ?hYx35 ?hSx35 ?restx35; (case hix35 => (simp only [List.getElem?_toArray, List.getElem?_cons_succ, List.getElem?_cons_zero]; exact rfl)); (case k1x35 => kernel_rfl); (case k2x35 => kernel_rfl); (case k3x35 => kernel_rfl); (case k4x35 => kernel_rfl); (case k5x35 => kernel_rfl); (case k6x35 => kernel_rfl); (case hSx35 => assumption); (case hYx35 => (refine Or.inl ⟨rfl, ?hyx35⟩; intro w hSw; (try dsimp only at hSw); go_simp; (try with_reducible rfl))); (case hQx35 => exact (fun _ _ _ h => h)); (try simp only [Act.put, List.setIfInBounds_toArray, List.set_cons_zero, List.set_cons_succ]))
          (refine wpAnyL_take (n := 0) (i := 6) (oi := ?ox36) (v := ?vx36) ?hix36 ?k1x36 ?k2x36 ?k3x36 ?k4x36 ?k5x36 ?k6x36 ?hQx36 ?hYx36 ?hSx36 ?restx36; (case hix36 => (simp only [List.getElem?_toArray, List.getElem?_cons_succ, List.getElem?_cons_zero]; exact rfl)); (case k1x36 => kernel_rfl); (case k2x36 => kernel_rfl); (case k3x36 => kernel_rfl); (case k4x36 => kernel_rfl); (case k5x36 => kernel_rfl); (case k6x36 => kernel_rfl); (case hSx36 => assumption); (case hYx36 => (refine Or.inl ⟨rfl, ?hyx36⟩; intro w hSw; (try dsimp only at hSw); go_simp; (try with_reducible rfl))); (case hQx36 => exact (fun _ _ _ h => h)); (try simp only [Act.put, List.setIfInBounds_toArray, List.set_cons_zero, List.set_cons_succ]))
          refine wpAnyL_ready (rs := [1]) (by kernel_rfl) (by simp) ?_
          refine AllReadyL.cons (o := ?o1x37) ?hi1x37 (fun K hK => ?_) AllReadyL.nil
          (case hi1x37 => (simp only [List.getElem?_toArray, List.getElem?_cons_succ, List.getElem?_cons_zero]; exact rfl))
          go_simp
          go_at_call 20
          refine (HLK.out _ HB.out).mono ?_
          rintro e w1 ⟨VA', cV', IA', cI', rfl, hcv, hci, hrl, hb9⟩
          have t0 := below_tr HB.out hb9; have t1 := below_tr HQ.out hb9
          clear HB HQ
          have HB := Lib.hid t0; have HQ := Lib.hid t1
          clear t0 t1
          have HRL := Lib.hid hrl
          have HCV := Lib.hid hcv
          have HCI := Lib.hid hci
          clear hb9 hrl hcv hci
          (try go_wp2_with fail)
          (try clear hHeld)
          refine hK.out _ _ (by (try dsimp only); exact and10 (HXL.out _ HQ.out) (HXR.out _ HQ.out)) (fun hHeld => ?_)
          clear hK K
          (try simp only [Act.put, List.setIfInBounds_toArray, List.set_cons_zero, List.set_cons_succ])
          refine wpAnyL_ready (rs := [3]) (by kernel_rfl) (by simp) ?_
          refine AllReadyL.cons (o := ?o3x38) ?hi3x38 (fun K hK => ?_) AllReadyL.nil
          (case hi3x38 => (simp only [List.getElem?_toArray, List.getElem?_cons_succ, List.getElem?_cons_zero]; exact rfl))
          go_simp
          go_at_call 21
          refine (HWK.out _ HB.out).mono ?_
          rintro e w1 ⟨WA', cW', rfl, hcw, hrw, hb9⟩
          have t0 := below_tr HB.out hb9; have t1 := below_tr HQ.out hb9; have t2 := HRL.out.below hb9
          clear HB HQ HRL
          have HB := Lib.hid t0; have HQ := Lib.hid t1; have HRL := Lib.hid t2
          clear t0 t1 t2
          have HRW := Lib.hid hrw
          have HCW := Lib.hid hcw
          clear hb9 hrw hcw
          (try go_wp2_with fail)
          (try clear hHeld)
          refine hK.out _ _ (by (try dsimp only); exact and10 (HXL.out _ HQ.out) (HXR.out _ HQ.out)) (fun hHeld => ?_)
          clear hK K
          (try simp only [Act.put, List.setIfInBounds_toArray, List.set_cons_zero, List.set_cons_succ])
          refine wpAnyL_ready (rs := [5]) (by kernel_rfl) (by simp) ?_
          refine AllReadyL.cons (o := ?o5x39) ?hi5x39 (fun K hK => ?_) AllReadyL.nil
          (case hi5x39 => (simp only [List.getElem?_toArray, List.getElem?_cons_succ, List.getElem?_cons_zero]; exact rfl))
          go_simp
          go_at_call 27
          refine (HLI.out _ HB.out).mono ?_
          rintro e w1 ⟨CA', cC', rfl, hcc, hrc, hb9⟩
          have t0 := below_tr HB.out hb9; have t1 := below_tr HQ.out hb9; have t2 := HRL.out.below hb9; have t3 := HRW.out.below hb9
          clear HB HQ HRL HRW
          have HB := Lib.hid t0; have HQ := Lib.hid t1; have HRL := Lib.hid t2; have HRW := Lib.hid t3
          clear t0 t1 t2 t3
          have HRC := Lib.hid hrc
          have HCC := Lib.hid hcc
          clear hb9 hrc hcc
          (try go_wp2_with fail)
          (try clear hHeld)
          refine hK.out _ _ (by (try dsimp only); exact and10 (HXL.out _ HQ.out) (HXR.out _ HQ.out)) (fun hHeld => ?_)
          clear hK K
          (try simp only [Act.put, List.setIfInBounds_toArray, List.set_cons_zero, List.set_cons_succ])
          refine wpAnyL_ready (rs := [7]) (by kernel_rfl) (by simp) ?_
          refine AllReadyL.cons (o := ?o7x40) ?hi7x40 (fun K hK => ?_) AllReadyL.nil
          (case hi7x40 => (simp only [List.getElem?_toArray, List.getElem?_cons_succ, List.getElem?_cons_zero]; exact rfl))
          go_simp
          go_at_call 40
          refine (HRE.out _ HB.out).mono ?_
          rintro e w1 ⟨FA', cF', EA', cE', rfl, hrx, hcf, hce, hb9⟩
          have t0 := below_tr HB.out hb9; have t1 := below_tr HQ.out hb9; have t2 := HRL.out.below hb9; have t3 := HRW.out.below hb9; have t4 := HRC.out.below hb9
          clear HB HQ HRL HRW HRC
          have HB := Lib.hid t0; have HQ := Lib.hid t1; have HRL := Lib.hid t2; have HRW := Lib.hid t3; have HRC := Lib.hid t4
          clear t0 t1 t2 t3 t4
          have HRX := Lib.hid hrx
          clear hb9 hrx
          clear hcf hce
          (try go_wp2_with fail)
          (try clear hHeld)
          refine hK.out _ _ (by (try dsimp only); exact and10 (HXL.out _ HQ.out) (HXR.out _ HQ.out)) (fun hHeld => ?_)
          clear hK K
          (try simp only [Act.put, List.setIfInBounds_toArray, List.set_cons_zero, List.set_cons_succ])
          refine wpAnyL_ready (rs := [8]) (by kernel_rfl) (by simp) ?_
          refine AllReadyL.cons (o := ?o8x41) ?hi8x41 (fun K hK => ?_) AllReadyL.nil
          (case hi8x41 => (simp only [List.getElem?_toArray, List.getElem?_cons_succ, List.getElem?_cons_zero]; exact rfl))
          go_simp
          go_at_call 39
          refine (Fill_bad HE0.out HNE.out HRL.out HRW.out HRC.out HRX.out HCV.out HCI.out (by omega) (by omega) (by omega) (by omega) (by omega) (by omega)).mono ?_
          rintro e w1 ⟨QA, cQ, rfl, hb9⟩
          have t0 := below_tr HB.out hb9; have t1 := below_tr HQ.out hb9; have t2 := HRL.out.below hb9; have t3 := HRW.out.below hb9; have t4 := HRC.out.below hb9; have t5 := HRX.out.below hb9
          clear HB HQ HRL HRW HRC HRX
          have HB := Lib.hid t0; have HQ := Lib.hid t1; have HRL := Lib.hid t2; have HRW := Lib.hid t3; have HRC := Lib.hid t4; have HRX := Lib.hid t5
          clear t0 t1 t2 t3 t4 t5
          clear hb9 
          clear HRL HRW HRC HRX HCV HCI HCW HCC
          (try go_wp2_with fail)
          (try clear hHeld)
          refine hK.out _ _ (by (try dsimp only); exact and10 (HXL.out _ HQ.out) (HXR.out _ HQ.out)) (fun hHeld => ?_)
          clear hK K
          (try simp only [Act.put, List.setIfInBounds_toArray, List.set_cons_zero, List.set_cons_succ])
          (refine wpAnyL_take (n := 0) (i := 9) (oi := ?ox42) (v := ?vx42) ?hix42 ?k1x42 ?k2x42 ?k3x42 ?k4x42 ?k5x42 ?k6x42 ?hQx42 ?hYx42 ?hSx42 ?restx42; (case hix42 => (simp only [List.getElem?_toArray, List.getElem?_cons_succ, List.getElem?_cons_zero]; exact rfl)); (case k1x42 => kernel_rfl); (case k2x42 => kernel_rfl); (case k3x42 => kernel_rfl); (case k4x42 => kernel_rfl); (case k5x42 => kernel_rfl); (case k6x42 => kernel_rfl); (case hSx42 => assumption); (case hYx42 => (refine Or.inl ⟨rfl, ?hyx42⟩; intro w hSw; (try dsimp only at hSw); go_simp; (try with_reducible rfl))); (case hQx42 => exact (fun _ _ _ h => h)); (try simp only [Act.put, List.setIfInBounds_toArray, List.set_cons_zero, List.set_cons_succ]))
          (refine wpAnyL_take (n := 0) (i := 10) (oi := ?ox43) (v := ?vx43) ?hix43 ?k1x43 ?k2x43 ?k3x43 ?k4x43 ?k5x43 ?k6x43 ?hQx43 ?hYx43 ?hSx43 ?restx43; (case hix43 => (simp only [List.getElem?_toArray, List.getElem?_cons_succ, List.getElem?_cons_zero]; exact rfl)); (case k1x43 => kernel_rfl); (case k2x43 => kernel_rfl); (case k3x43 => kernel_rfl); (case k4x43 => kernel_rfl); (case k5x43 => kernel_rfl); (case k6x43 => kernel_rfl); (case hSx43 => assumption); (case hYx43 => (refine Or.inl ⟨rfl, ?hyx43⟩; intro w hSw; (try dsimp only at hSw); go_simp; (try with_reducible rfl))); (case hQx43 => exact (fun _ _ _ h => h)); (try simp only [Act.put, List.setIfInBounds_toArray, List.set_cons_zero, List.set_cons_succ]))
          (refine wpAnyL_take (n := 0) (i := 11) (oi := ?ox44) (v := ?vx44) ?hix44 ?k1x44 ?k2x44 ?k3x44 ?k4x44 ?k5x44 ?k6x44 ?hQx44 ?hYx44 ?hSx44 ?restx44; (case hix44 => (simp only [List.getElem?_toArray, List.getElem?_cons_succ, List.getElem?_cons_zero]; exact rfl)); (case k1x44 => kernel_rfl); (case k2x44 => kernel_rfl); (case k3x44 => kernel_rfl); (case k4x44 => kernel_rfl); (case k5x44 => kernel_rfl); (case k6x44 => kernel_rfl); (case hSx44 => assumption); (case hYx44 => (refine Or.inl ⟨rfl, ?hyx44⟩; intro w hSw; (try dsimp only at hSw); go_simp; (try with_reducible rfl))); (case hQx44 => exact (fun _ _ _ h => h)); (try simp only [Act.put, List.setIfInBounds_toArray, List.set_cons_zero, List.set_cons_succ]))
          (refine wpAnyL_take (n := 0) (i := 12) (oi := ?ox45) (v := ?vx45) ?hix45 ?k1x45 ?k2x45 ?k3x45 ?k4x45 ?k5x45 ?k6x45 ?hQx45 ?hYx45 ?hSx45 ?restx45; (case hix45 => (simp only [List.getElem?_toArray, List.getElem?_cons_succ, List.getElem?_cons_zero]; exact rfl)); (case k1x45 => kernel_rfl); (case k2x45 => kernel_rfl); (case k3x45 => kernel_rfl); (case k4x45 => kernel_rfl); (case k5x45 => kernel_rfl); (case k6x45 => kernel_rfl); (case hSx45 => assumption); (case hYx45 => (refine Or.inl ⟨rfl, ?hyx45⟩; intro w hSw; (try dsimp only at hSw); go_simp; (try with_reducible rfl))); (case hQx45 => exact (fun _ _ _ h => h)); (try simp only [Act.put, List.setIfInBounds_toArray, List.set_cons_zero, List.set_cons_succ]))
          (refine wpAnyL_take (n := 0) (i := 13) (oi := ?ox46) (v := ?vx46) ?hix46 ?k1x46 ?k2x46 ?k3x46 ?k4x46 ?k5x46 ?k6x46 ?hQx46 ?hYx46 ?hSx46 ?restx46; (case hix46 => (simp only [List.getElem?_toArray, List.getElem?_cons_succ, List.getElem?_cons_zero]; exact rfl)); (case k1x46 => kernel_rfl); (case k2x46 => kernel_rfl); (case k3x46 => kernel_rfl); (case k4x46 => kernel_rfl); (case k5x46 => kernel_rfl); (case k6x46 => kernel_rfl); (case hSx46 => assumption); (case hYx46 => (refine Or.inl ⟨rfl, ?hyx46⟩; intro w hSw; (try dsimp only at hSw); go_simp; (try with_reducible rfl))); (case hQx46 => exact (fun _ _ _ h => h)); (try simp only [Act.put, List.setIfInBounds_toArray, List.set_cons_zero, List.set_cons_succ]))
          (refine wpAnyL_take (n := 0) (i := 14) (oi := ?ox47) (v := ?vx47) ?hix47 ?k1x47 ?k2x47 ?k3x47 ?k4x47 ?k5x47 ?k6x47 ?hQx47 ?hYx47 ?hSx47 ?restx47; (case hix47 => (simp only [List.getElem?_toArray, List.getElem?_cons_succ, List.getElem?_cons_zero]; exact rfl)); (case k1x47 => kernel_rfl); (case k2x47 => kernel_rfl); (case k3x47 => kernel_rfl); (case k4x47 => kernel_rfl); (case k5x47 => kernel_rfl); (case k6x47 => kernel_rfl); (case hSx47 => assumption); (case hYx47 => (refine Or.inl ⟨rfl, ?hyx47⟩; intro w hSw; (try dsimp only at hSw); go_simp; (try with_reducible rfl))); (case hQx47 => exact (fun _ _ _ h => h)); (try simp only [Act.put, List.setIfInBounds_toArray, List.set_cons_zero, List.set_cons_succ]))
          (refine wpAnyL_take (n := 0) (i := 15) (oi := ?ox48) (v := ?vx48) ?hix48 ?k1x48 ?k2x48 ?k3x48 ?k4x48 ?k5x48 ?k6x48 ?hQx48 ?hYx48 ?hSx48 ?restx48; (case hix48 => (simp only [List.getElem?_toArray, List.getElem?_cons_succ, List.getElem?_cons_zero]; exact rfl)); (case k1x48 => kernel_rfl); (case k2x48 => kernel_rfl); (case k3x48 => kernel_rfl); (case k4x48 => kernel_rfl); (case k5x48 => kernel_rfl); (case k6x48 => kernel_rfl); (case hSx48 => assumption); (case hYx48 => (refine Or.inl ⟨rfl, ?hyx48⟩; intro w hSw; (try dsimp only at hSw); go_simp; (try with_reducible rfl))); (case hQx48 => exact (fun _ _ _ h => h)); (try simp only [Act.put, List.setIfInBounds_toArray, List.set_cons_zero, List.set_cons_succ]))
          (refine wpAnyL_done (by kernel_rfl) ?_ _)
          obtain ⟨x0, x1, x2, x3, x4, x5, x6, x7, x8, x9⟩ := HXL.out _ HQ.out
          go_wp2_with fail
          go_at_call 17
          refine (HFA.out _ HB.out).mono ?_
          rintro e w1 ⟨rfl, hb9⟩
          have t0 := below_tr HB.out hb9; have t1 := below_tr HQ.out hb9
          clear HB HQ
          have HB := Lib.hid t0; have HQ := Lib.hid t1
          clear t0 t1
          clear hb9 
          clear x0 x1 x2 x3 x4 x5 x6 x7 x8 x9
          go_wp2_with fail
          go_at_call 18
          refine (HAW.out _).mono ?_
          rintro e w1 ⟨rfl, hb9⟩
          have t0 := below_tr HB.out hb9; have t1 := below_tr HQ.out hb9
          clear HB HQ
          have HB := Lib.hid t0; have HQ := Lib.hid t1
          clear t0 t1
          clear hb9 
          go_wp2_with fail
          go_ret
          exact ⟨rfl, HB.out⟩
      · have hS' : ¬ (nS : Int) ≤ 65 := by omega
        have hS2 : (65 : Int) < (nS : Int) := by omega
        have hF2 : ¬ (65 : Int) < (nF : Int) := by omega
        go_enter Try.func8, Try.ntmps8
        go_upto_region 1 with fail
        rw [← HW.out]
        obtain ⟨x0, x1, x2, x3, x4, x5, x6, x7, x8, x9⟩ := HXL.out _ HQ.out
        go_wp2_with fail
        go_at_call 38
        refine (HTH.out _).mono ?_
        rintro e w1 ⟨rfl, hb9⟩
        have t0 := below_tr HB.out hb9; have t1 := below_tr HQ.out hb9
        clear HB HQ
        have HB := Lib.hid t0; have HQ := Lib.hid t1
        clear t0 t1
        clear hb9 
        obtain ⟨y0, y1, y2, y3⟩ := HXR.out _ HQ.out
        go_wp2_with fail
        go_at_call 18
        refine (HAW.out _).mono ?_
        rintro e w1 ⟨rfl, hb9⟩
        have t0 := below_tr HB.out hb9; have t1 := below_tr HQ.out hb9
        clear HB HQ
        have HB := Lib.hid t0; have HQ := Lib.hid t1
        clear t0 t1
        clear hb9 
        go_wp2_with fail
        go_ret
        exact ⟨rfl, HB.out⟩
    · have hF2 : (65 : Int) < (nF : Int) := by omega
      go_enter Try.func8, Try.ntmps8
      go_upto_region 1 with fail
      rw [← HW.out]
      obtain ⟨x0, x1, x2, x3, x4, x5, x6, x7, x8, x9⟩ := HXL.out _ HQ.out
      go_wp2_with fail
      go_at_call 38
      refine (HTH.out _).mono ?_
      rintro e w1 ⟨rfl, hb9⟩
      have t0 := below_tr HB.out hb9; have t1 := below_tr HQ.out hb9
      clear HB HQ
      have HB := Lib.hid t0; have HQ := Lib.hid t1
      clear t0 t1
      clear hb9 
      obtain ⟨y0, y1, y2, y3⟩ := HXR.out _ HQ.out
      go_wp2_with fail
      go_at_call 18
      refine (HAW.out _).mono ?_
      rintro e w1 ⟨rfl, hb9⟩
      have t0 := below_tr HB.out hb9; have t1 := below_tr HQ.out hb9
      clear HB HQ
      have HB := Lib.hid t0; have HQ := Lib.hid t1
      clear t0 t1
      clear hb9 
      go_wp2_with fail
      go_ret
      exact ⟨rfl, HB.out⟩
end
end Go.Proofs.Ytpijmfbpdglchaa
