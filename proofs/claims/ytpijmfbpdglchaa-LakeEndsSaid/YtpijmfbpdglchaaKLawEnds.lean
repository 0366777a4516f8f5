/- THE WALK of LakeEnds. -/
import Derived.Test.YtpijmfbpdglchaaKReady
import Derived.Test.YtpijmfbpdglchaaKConv
import Derived.Test.YtpijmfbpdglchaaKAwake
import Derived.Test.YtpijmfbpdglchaaKValid
import Derived.Test.YtpijmfbpdglchaaKBack
import Derived.Test.YtpijmfbpdglchaaKReal
namespace Go.Proofs.Ytpijmfbpdglchaa
open Go.RowKit Go.Proofs
attribute [local go_sem ↓] Go.wp_at_zero Go.wp_at_succ
theorem fillB_ge (l : Lak) (ws : List Wrk) (c : List Int) (x : Rel) : -1 ≤ fillB l ws c x := by
  unfold fillB
  rcases firstN_cases (brkB l ws c x) l.inflow.length with ⟨h1, _⟩ | ⟨k, _, h2, _⟩ <;> omega
section
variable {VA IA WA CA : Option Addr} {nV nI cV cI nW cW nC cC : Nat} {l : Lak} {ws : List Wrk} {c : List Int} {w : World}
set_option maxRecDepth 100000 in
set_option maxHeartbeats 8000000 in
theorem LakeEnds_w (h : RdL w VA nV IA nI l) (hw : Rd encW 3 w WA nW ws) (hc : Rd enc1 1 w CA nC c) {at_ : Int} (hat : 0 ≤ at_ ∧ at_ ≤ 255) {low : Bool} (hnV : nV ≤ maxLen) (hnI : nI ≤ maxLen) (hnW : nW ≤ maxLen) (hnC : nC ≤ maxLen) :
    Calls Try.prog 11 #[.agg (lA VA nV cV IA nI cI l), .slice WA nW cW, .slice CA nC cC, .int .u8 at_, .bool low] w fun e w' => e = .returned (.bool true) ∧ Below w.heap.size w w' := by
  have hb0 := (Below.refl w.heap.size w).alloc (Nat.le_refl _) (.cells (lA VA nV cV IA nI cI l) 27)
  have HB := Lib.hid hb0
  have HRY := Lib.hid (fun (U : World) (hU : Below w.heap.size w U) => ready_c (cV := cV) (cI := cI) (cW := cW) (cC := cC) (h.below hU) (hw.below hU) (hc.below hU) hnV hnI hnW hnC)
  have HXX := Lib.hid (fun U hU => lA_cells (VA := VA) (IA := IA) (nV := nV) (nI := nI) (cV := cV) (cI := cI) (l := l) w (U := U) hU)
  have HL := Lib.hid h; have HW := Lib.hid hw; have HC := Lib.hid hc
  have HAW := Lib.hid (fun (U : World) => awake_c U)
  have HQ := Lib.hid (Below.refl (w.alloc (.cells (lA VA nV cV IA nI cI l) 27)).heap.size (w.alloc (.cells (lA VA nV cV IA nI cI l) 27)))
  clear h hw hc hb0
  cases hr : readyB l ws c
  · rw [hr] at HRY
    go_enter Try.func11, Try.ntmps11
    go_wp2_with fail
    go_at_call 28
    refine (HRY.out _ HB.out).mono ?_
    rintro e w1 ⟨rfl, hb9⟩
    have t0 := below_tr HB.out hb9; have t1 := below_tr HQ.out hb9
    clear HB HQ
    have HB := Lib.hid t0; have HQ := Lib.hid t1
    clear t0 t1
    clear hb9 
    go_wp2_with fail
    go_at_call 18
    refine (HAW.out _).mono ?_
    rintro e w1 ⟨rfl, hb9⟩
    have t0 := below_tr HB.out hb9; have t1 := below_tr HQ.out hb9
    clear HB HQ
    have HB := Lib.hid t0; have HQ := Lib.hid t1
    clear t0 t1
    clear hb9 
    go_wp2_with fail
    go_ret
    exact ⟨rfl, HB.out⟩
  · rw [hr] at HRY
    obtain ⟨hth, hok, hwk, hcho⟩ := readyB_iff.1 hr
    have h30 := hok.n; have h60 := hok.h; have h10 := hwk.n
    have hvl := HL.out.vols.len; have hil := HL.out.infl.len; have hwl := HW.out.len; have hcl := HC.out.len
    have hclen := cho_len hcho
    by_cases hn0 : nI = 0
    · subst hn0
      clear hat
      go_enter Try.func11, Try.ntmps11
      go_wp2_with fail
      go_at_call 28
      refine (HRY.out _ HB.out).mono ?_
      rintro e w1 ⟨rfl, hb9⟩
      have t0 := below_tr HB.out hb9; have t1 := below_tr HQ.out hb9
      clear HB HQ
      have HB := Lib.hid t0; have HQ := Lib.hid t1
      clear t0 t1
      clear hb9 
      obtain ⟨x0, x1, x2, x3, x4, x5, x6, x7, x8, x9⟩ := HXX.out _ HQ.out
      go_wp2_with fail
      go_at_call 18
      refine (HAW.out _).mono ?_
      rintro e w1 ⟨rfl, hb9⟩
      have t0 := below_tr HB.out hb9; have t1 := below_tr HQ.out hb9
      clear HB HQ
      have HB := Lib.hid t0; have HQ := Lib.hid t1
      clear t0 t1
      clear hb9 
      go_wp2_with fail
      go_ret
      exact ⟨rfl, HB.out⟩
    · have HLK := Lib.hid (fun (U : World) (hU : Below w.heap.size w U) => LakeR_c (cV := cV) (cI := cI) (HL.out.below hU) (by omega) (by omega))
      have HWK := Lib.hid (fun (U : World) (hU : Below w.heap.size w U) => WorksR_c (c := cW) (HW.out.below hU) (by omega))
      have HLI := Lib.hid (fun (U : World) (hU : Below w.heap.size w U) => listR_c (c := cC) (HC.out.below hU) (by omega))
      have HOK := Lib.hid hok; have HWO := Lib.hid hwk; have HCO := Lib.hid hcho
      have HIL := Lib.hid hil
      have hnI60 : nI ≤ 60 := by omega
      have hnp : 0 < nI := by omega
      obtain ⟨F1, F2, F3, hF⟩ : ∃ F1 F2 F3, brkRes l ws c = (F1, F2, F3) := ⟨_, _, _, rfl⟩
      have hbr := brkRes_v hok hwk hcho
      rw [hF] at hbr
      have HBR := Lib.hid hbr; have HF := Lib.hid hF
      obtain ⟨k, hk⟩ : ∃ k : Nat, (k : Int) = at_ % (nI : Int) := ⟨(at_ % (nI : Int)).toNat, by have := Int.emod_nonneg at_ (show (nI : Int) ≠ 0 by omega); omega⟩
      have hkn : k < nI := by have := Int.emod_lt_of_pos at_ (show (0 : Int) < (nI : Int) by omega); omega
      have HK := Lib.hid hk
      have hz1 : ((nI : Int) == 0) = false := by simp; omega
      clear hbr hF hr hth hok hwk hcho h30 h60 h10 hvl hil hwl hcl hclen hnV hnI hnW hnC hn0 hk
      go_enter Try.func11, Try.ntmps11
      go_wp2_with fail
      go_at_call 28
      refine (HRY.out _ HB.out).mono ?_
      rintro e w1 ⟨rfl, hb9⟩
      have t0 := below_tr HB.out hb9; have t1 := below_tr HQ.out hb9
      clear HB HQ
      have HB := Lib.hid t0; have HQ := Lib.hid t1
      clear t0 t1
      clear hb9 
      obtain ⟨x0, x1, x2, x3, x4, x5, x6, x7, x8, x9⟩ := HXX.out _ HQ.out
      go_wp2_with fail
      go_at_call 20
      refine (HLK.out _ HB.out).mono ?_
      rintro e w1 ⟨VA', cV', IA', cI', rfl, hcv, hci, hrl, hb9⟩
      have t0 := below_tr HB.out hb9; have t1 := below_tr HQ.out hb9
      clear HB HQ
      have HB := Lib.hid t0; have HQ := Lib.hid t1
      clear t0 t1
      have HRL := Lib.hid hrl
      have HCV := Lib.hid hcv
      have HCI := Lib.hid hci
      clear hb9 hrl hcv hci
      clear x0 x1 x2 x3 x4 x5 x6 x7 x8 x9
      go_wp2_with fail
      go_at_call 21
      refine (HWK.out _ HB.out).mono ?_
      rintro e w1 ⟨WA', cW', rfl, hcw, hrw, hb9⟩
      have t0 := below_tr HB.out hb9; have t1 := below_tr HQ.out hb9; have t2 := HRL.out.below hb9
      clear HB HQ HRL
      have HB := Lib.hid t0; have HQ := Lib.hid t1; have HRL := Lib.hid t2
      clear t0 t1 t2
      have HRW := Lib.hid hrw
      have HCW := Lib.hid hcw
      clear hb9 hrw hcw
      go_wp2_with fail
      go_at_call 27
      refine (HLI.out _ HB.out).mono ?_
      rintro e w1 ⟨CA', cC', rfl, hcc, hrc, hb9⟩
      have t0 := below_tr HB.out hb9; have t1 := below_tr HQ.out hb9; have t2 := HRL.out.below hb9; have t3 := HRW.out.below hb9
      clear HB HQ HRL HRW
      have HB := Lib.hid t0; have HQ := Lib.hid t1; have HRL := Lib.hid t2; have HRW := Lib.hid t3
      clear t0 t1 t2 t3
      have HRC := Lib.hid hrc
      have HCC := Lib.hid hcc
      clear hb9 hrc hcc
      go_wp2_with fail
      go_at_call 32
      refine (Rise_v HRL.out HRW.out HRC.out HCV.out HCI.out HOK.out HWO.out HCO.out).mono ?_
      rintro e w1 ⟨SA, cS, rfl, hcs, hrs, hb9⟩
      have t0 := below_tr HB.out hb9; have t1 := below_tr HQ.out hb9; have t2 := HRL.out.below hb9; have t3 := HRW.out.below hb9; have t4 := HRC.out.below hb9
      clear HB HQ HRL HRW HRC
      have HB := Lib.hid t0; have HQ := Lib.hid t1; have HRL := Lib.hid t2; have HRW := Lib.hid t3; have HRC := Lib.hid t4
      clear t0 t1 t2 t3 t4
      have HRS := Lib.hid hrs
      have HCS := Lib.hid hcs
      clear hb9 hrs hcs
      clear HRL HRW HRC HCV HCI HCW HCC
      clear hz1
      obtain ⟨x0, x1, x2, x3, x4, x5, x6, x7, x8, x9⟩ := HXX.out _ HQ.out
      go_wp2_with fail
      go_at_call 20
      refine (HLK.out _ HB.out).mono ?_
      rintro e w1 ⟨VA', cV', IA', cI', rfl, hcv, hci, hrl, hb9⟩
      have t0 := below_tr HB.out hb9; have t1 := below_tr HQ.out hb9; have t2 := HRS.out.below hb9
      clear HB HQ HRS
      have HB := Lib.hid t0; have HQ := Lib.hid t1; have HRS := Lib.hid t2
      clear t0 t1 t2
      have HRL := Lib.hid hrl
      have HCV := Lib.hid hcv
      have HCI := Lib.hid hci
      clear hb9 hrl hcv hci
      clear x0 x1 x2 x3 x4 x5 x6 x7 x8 x9
      go_wp2_with fail
      go_at_call 21
      refine (HWK.out _ HB.out).mono ?_
      rintro e w1 ⟨WA', cW', rfl, hcw, hrw, hb9⟩
      have t0 := below_tr HB.out hb9; have t1 := below_tr HQ.out hb9; have t2 := HRS.out.below hb9; have t3 := HRL.out.below hb9
      clear HB HQ HRS HRL
      have HB := Lib.hid t0; have HQ := Lib.hid t1; have HRS := Lib.hid t2; have HRL := Lib.hid t3
      clear t0 t1 t2 t3
      have HRW := Lib.hid hrw
      have HCW := Lib.hid hcw
      clear hb9 hrw hcw
      go_wp2_with fail
      go_at_call 27
      refine (HLI.out _ HB.out).mono ?_
      rintro e w1 ⟨CA', cC', rfl, hcc, hrc, hb9⟩
      have t0 := below_tr HB.out hb9; have t1 := below_tr HQ.out hb9; have t2 := HRS.out.below hb9; have t3 := HRL.out.below hb9; have t4 := HRW.out.below hb9
      clear HB HQ HRS HRL HRW
      have HB := Lib.hid t0; have HQ := Lib.hid t1; have HRS := Lib.hid t2; have HRL := Lib.hid t3; have HRW := Lib.hid t4
      clear t0 t1 t2 t3 t4
      have HRC := Lib.hid hrc
      have HCC := Lib.hid hcc
      clear hb9 hrc hcc
      go_wp2_with fail
      go_at_call 33
      refine (Break_3 HF.out HRL.out HRW.out HRC.out HCV.out HCI.out HOK.out HWO.out HCO.out).mono ?_
      rintro e w1 ⟨rfl, hb9⟩
      have t0 := below_tr HB.out hb9; have t1 := below_tr HQ.out hb9; have t2 := HRS.out.below hb9; have t3 := HRL.out.below hb9; have t4 := HRW.out.below hb9; have t5 := HRC.out.below hb9
      clear HB HQ HRS HRL HRW HRC
      have HB := Lib.hid t0; have HQ := Lib.hid t1; have HRS := Lib.hid t2; have HRL := Lib.hid t3; have HRW := Lib.hid t4; have HRC := Lib.hid t5
      clear t0 t1 t2 t3 t4 t5
      clear hb9 
      clear HRL HRW HRC HCV HCI HCW HCC
      obtain ⟨x0, x1, x2, x3, x4, x5, x6, x7, x8, x9⟩ := HXX.out _ HQ.out
      go_upto_region 8 with fail
      clear x0 x1 x2 x3 x4 x5 x6 x7 x8 x9
      obtain ⟨V, hV⟩ : ∃ V, V = w1 := ⟨_, rfl⟩
      rw [← hV] at HB HQ HRS ⊢
      clear hV
      have hBN := Blk.new V 75 (xA none 0 0 none 0 0 ⟨[], [], l.start.2, l.soft.1⟩)
      have hBW := (Below.refl V.heap.size V).alloc (Nat.le_refl _) (.cells (xA none 0 0 none 0 0 ⟨[], [], l.start.2, l.soft.1⟩) 75)
      obtain ⟨i0, hi0, hz0, hz1, hz2⟩ := info_parts infoInt
      have HI := Lib.hid hi0; have HZ0 := Lib.hid hz0; have HZ1 := Lib.hid hz1; have HZ2 := Lib.hid hz2
      have HT := Lib.hid (show TwoR V.heap.size _ V.heap.size none 0 none 0 0 ⟨[], [], l.start.2, l.soft.1⟩ from ⟨hBN, World.ownsRow_nil _ _ _ _, World.ownsRow_nil _ _ _ _, Apart.none _ _ _⟩)
      have HBC := Lib.hid hBW
      obtain ⟨g, hgW⟩ : ∃ g, g = V.heap.size := ⟨_, rfl⟩
      have HGW := Lib.hid hgW
      clear hBN hBW hi0 hz0 hz1 hz2
      rw [show #[Value.slice none 0 0, Value.slice none 0 0, Value.int IntKind.i64 l.start.2, Value.int IntKind.i64 l.soft.1] = xA none 0 0 none 0 0 ⟨[], [], l.start.2, l.soft.1⟩ from rfl]
      revert HT HBC
      generalize (V.alloc (Obj.cells (xA none 0 0 none 0 0 ⟨[], [], l.start.2, l.soft.1⟩) 75)) = W2
      intro HT HBC
      rw [← hgW] at HT ⊢
      clear hgW
      obtain ⟨x0, x1, x2, x3, x4, x5, x6, x7, x8, x9⟩ := HXX.out _ (below_tr HQ.out HBC.out)
      go_wp2_with fail
      go_loopw [17] (fun i wr => ∃ (j : Nat) (FA : Option Addr) (cF : Nat) (SA : Option Addr) (cS : Nat), j ≤ nI ∧ i = .int .i64 j ∧ TwoR g wr g FA cF SA cS j ⟨(l.inflow.take j).map (·.2), (l.inflow.take j).map (fun _ => l.seep.1), l.start.2, l.soft.1⟩ ∧ Below V.heap.size V wr) (fun i _ => nI - (intOf i).toNat)
      case atStart => exact ⟨0, none, 0, none, 0, Nat.zero_le _, rfl, by simpa using HT.out, HBC.out⟩
      case round =>
        obtain ⟨j, FA, cF, SA, cS, hj, rfl, htr, hbr⟩ := hrel
        clear HBC HT x0 x1 x2 x3 x4 x5 x6 x7 x8 x9
        obtain ⟨z0, z1, z2, z3, z4, z5, z6, z7, z8, z9⟩ := HXX.out _ (below_tr HQ.out hbr)
        by_cases hlt : j < nI
        · skip
          -- [A
          as_aux_lemma =>
            obtain ⟨b, o, r, hA, hbl, hr, e0, e1⟩ := (HL.out.infl).at2 hlt
            have hIA : IA = some ⟨b, o, none⟩ := hA
            have hrb := HOK.out.inflow j r hr
            have hWr := hbr.size
            have y0 := htr.box.cell 0; have y1 := htr.box.cell 1
            simp at y0 y1
            have hbw := below_tr HB.out hbr
            have d0 := bel_keep hbw e0; have d1 := bel_keep hbw e1
            have hgg : g = V.heap.size := HGW.out; have hVw : w.heap.size < V.heap.size := by have := HQ.out.size; simp at this; omega
            have hbl2 : b < V.heap.size := by omega
            have hn1 := htr.not_low (b := w.heap.size) (by omega); have hn2 := htr.not_low (b := b) (by omega); have hn3 := htr.not_box
            rw [hIA] at z9
            have HS5 := Lib.hid (fun (U : World) (hU : Fr (OwnB FA cF SA cS j) wr U) => show U.cell? ⟨w.heap.size, 7, none⟩ = some (.int .i64 l.seep.1) ∧ U.cell? ⟨w.heap.size, 9, none⟩ = some (.slice (some ⟨b, o, none⟩) nI cI) ∧ U.cell? ⟨b, o + j * 2 + 1, none⟩ = some (.int .i64 r.2) ∧ U.cell? ⟨g, 0, none⟩ = some (.slice FA j cF) ∧ U.cell? ⟨g, 1, none⟩ = some (.slice SA j cS) from
              ⟨fr_cell hU hn1 z7, fr_cell hU hn1 z9, fr_cell hU hn2 d1, fr_cell hU hn3 y0, fr_cell hU hn3 y1⟩)
            have HBC := Lib.hid hbr; have HT := Lib.hid htr
            have HR1 := Lib.hid (take_map_snoc (f := (·.2)) hr); have HR2 := Lib.hid (take_map_snoc (f := fun _ : Rng => l.seep.1) hr)
            have HFR := Lib.hid (Fr.refl (OwnB FA cF SA cS j) wr)
            have hkn : (j : Int) < (nI : Int) := by omega
            have hk0 : (0 : Int) ≤ (j : Int) := by omega
            have HGE := Lib.hid (show V.heap.size ≤ g by omega)
            clear hbr htr hr z0 z1 z2 z3 z4 z5 z6 z7 z8 e0 e1 d0 d1 y0 y1 hn1 hn2 hn3 hgg hA hIA hbw hVw hbl2
            go_upto_region 5 with fail
            clear z9
            have hXb := HT.out.box; have hXF := HT.out.oF; have hXS := HT.out.oS; have hXA := HT.out.ap
            simp only at hXF hXS
            have HX := Lib.hid hXb; have HF := Lib.hid hXF; have HS := Lib.hid hXS; have HAP := Lib.hid hXA
            obtain ⟨FL, hFL⟩ : ∃ FL, FL = (l.inflow.take j).map (·.2) := ⟨_, rfl⟩
            obtain ⟨SL, hSL⟩ : ∃ SL, SL = (l.inflow.take j).map (fun _ : Rng => l.seep.1) := ⟨_, rfl⟩
            rw [← hFL] at HX HF HR1
            rw [← hSL] at HX HS HR2
            clear hXb hXF hXS hXA HT hFL hSL
            refine wp_region_till [18] (fun U => U.cell? ⟨w.heap.size, 7, none⟩ = some (.int .i64 l.seep.1) ∧ U.cell? ⟨w.heap.size, 9, none⟩ = some (.slice (some ⟨b, o, none⟩) nI cI) ∧ U.cell? ⟨b, o + j * 2 + 1, none⟩ = some (.int .i64 r.2) ∧ U.cell? ⟨g, 0, none⟩ = some (.slice FA j cF) ∧ U.cell? ⟨g, 1, none⟩ = some (.slice SA j cS)) (by kernel_rfl) (by exact HS5.out wr.drew (HFR.out.more ((Below.refl wr.heap.size wr).drew))) (fun hHeld => ?_)
            have hb9 := (Below.refl wr.heap.size wr).drew
            have t0 := below_tr HBC.out hb9; have t1 := HFR.out.more hb9; have t2 := HX.out.below hb9 HX.out.lt; have t3 := own_mono HF.out hb9; have t4 := own_mono HS.out hb9
            clear HBC HFR HX HF HS
            have HBC := Lib.hid t0; have HFR := Lib.hid t1; have HX := Lib.hid t2; have HF := Lib.hid t3; have HS := Lib.hid t4
            clear t0 t1 t2 t3 t4
            clear hb9
            revert hHeld HBC HFR HX HF HS
            generalize wr.drew = w0
            intro hHeld HBC HFR HX HF HS
            (refine wpAnyL_take (n := 0) (i := 0) (oi := ?ox1) (v := ?vx1) ?hix1 ?k1x1 ?k2x1 ?k3x1 ?k4x1 ?k5x1 ?k6x1 ?hQx1 ?hYx1 ?hSx1 ?restx1; (case hix1 => (simp only [List.getElem?_toArray, List.getElem?_cons_succ, List.getElem?_cons_zero]; exact rfl)); (case k1x1 => kernel_rfl); (case k2x1 => kernel_rfl); (case k3x1 => kernel_rfl); (case k4x1 => kernel_rfl); (case k5x1 => kernel_rfl); (case k6x1 => kernel_rfl); (case hSx1 => assumption); (case hYx1 => (refine Or.inl ⟨rfl, ?hyx1⟩; intro w hSw; (try dsimp only at hSw); go_simp; (try with_reducible rfl))); (case hQx1 => exact (fun _ _ _ h => h)); (try simp only [Act.put, List.setIfInBounds_toArray, List.set_cons_zero, List.set_cons_succ]))
            (refine wpAnyL_take (n := 0) (i := 1) (oi := ?ox2) (v := ?vx2) ?hix2 ?k1x2 ?k2x2 ?k3x2 ?k4x2 ?k5x2 ?k6x2 ?hQx2 ?hYx2 ?hSx2 ?restx2; (case hix2 => (simp only [List.getElem?_toArray, List.getElem?_cons_succ, List.getElem?_cons_zero]; exact rfl)); (case k1x2 => kernel_rfl); (case k2x2 => kernel_rfl); (case k3x2 => kernel_rfl); (case k4x2 => kernel_rfl); (case k5x2 => kernel_rfl); (case k6x2 => kernel_rfl); (case hSx2 => assumption); (case hYx2 => (refine Or.inl ⟨rfl, ?hyx2⟩; intro w hSw; (try dsimp only at hSw); go_simp; (try with_reducible rfl))); (case hQx2 => exact (fun _ _ _ h => h)); (try simp only [Act.put, List.setIfInBounds_toArray, List.set_cons_zero, List.set_cons_succ]))
            (refine wpAnyL_take (n := 0) (i := 2) (oi := ?ox3) (v := ?vx3) ?hix3 ?k1x3 ?k2x3 ?k3x3 ?k4x3 ?k5x3 ?k6x3 ?hQx3 ?hYx3 ?hSx3 ?restx3; (case hix3 => (simp only [List.getElem?_toArray, List.getElem?_cons_succ, List.getElem?_cons_zero]; exact rfl)); (case k1x3 => kernel_rfl); (case k2x3 => kernel_rfl); (case k3x3 => kernel_rfl); (case k4x3 => kernel_rfl); (case k5x3 => kernel_rfl); (case k6x3 => kernel_rfl); (case hSx3 => assumption); (case hYx3 => (refine Or.inl ⟨rfl, ?hyx3⟩; intro w hSw; (try dsimp only at hSw); go_simp; (try with_reducible rfl))); (case hQx3 => exact (fun _ _ _ h => h)); (try simp only [Act.put, List.setIfInBounds_toArray, List.set_cons_zero, List.set_cons_succ]))
            (refine wpAnyL_take (n := 0) (i := 3) (oi := ?ox4) (v := ?vx4) ?hix4 ?k1x4 ?k2x4 ?k3x4 ?k4x4 ?k5x4 ?k6x4 ?hQx4 ?hYx4 ?hSx4 ?restx4; (case hix4 => (simp only [List.getElem?_toArray, List.getElem?_cons_succ, List.getElem?_cons_zero]; exact rfl)); (case k1x4 => kernel_rfl); (case k2x4 => kernel_rfl); (case k3x4 => kernel_rfl); (case k4x4 => kernel_rfl); (case k5x4 => kernel_rfl); (case k6x4 => kernel_rfl); (case hSx4 => assumption); (case hYx4 => (refine Or.inl ⟨rfl, ?hyx4⟩; intro w hSw; (try dsimp only at hSw); go_simp; (try with_reducible rfl))); (case hQx4 => exact (fun _ _ _ h => h)); (try simp only [Act.put, List.setIfInBounds_toArray, List.set_cons_zero, List.set_cons_succ]))
            (refine wpAnyL_take (n := 0) (i := 4) (oi := ?ox5) (v := ?vx5) ?hix5 ?k1x5 ?k2x5 ?k3x5 ?k4x5 ?k5x5 ?k6x5 ?hQx5 ?hYx5 ?hSx5 ?restx5; (case hix5 => (simp only [List.getElem?_toArray, List.getElem?_cons_succ, List.getElem?_cons_zero]; exact rfl)); (case k1x5 => kernel_rfl); (case k2x5 => kernel_rfl); (case k3x5 => kernel_rfl); (case k4x5 => kernel_rfl); (case k5x5 => kernel_rfl); (case k6x5 => kernel_rfl); (case hSx5 => assumption); (case hYx5 => (refine Or.inl ⟨rfl, ?hyx5⟩; intro w hSw; (try dsimp only at hSw); go_simp; (try with_reducible rfl))); (case hQx5 => exact (fun _ _ _ h => h)); (try simp only [Act.put, List.setIfInBounds_toArray, List.set_cons_zero, List.set_cons_succ]))
            (refine wpAnyL_take (n := 0) (i := 5) (oi := ?ox6) (v := ?vx6) ?hix6 ?k1x6 ?k2x6 ?k3x6 ?k4x6 ?k5x6 ?k6x6 ?hQx6 ?hYx6 ?hSx6 ?restx6; (case hix6 => (simp only [List.getElem?_toArray, List.getElem?_cons_succ, List.getElem?_cons_zero]; exact rfl)); (case k1x6 => kernel_rfl); (case k2x6 => kernel_rfl); (case k3x6 => kernel_rfl); (case k4x6 => kernel_rfl); (case k5x6 => kernel_rfl); (case k6x6 => kernel_rfl); (case hSx6 => assumption); (case hYx6 => (refine Or.inl ⟨rfl, ?hyx6⟩; intro w hSw; (try dsimp only at hSw); go_simp; (try with_reducible rfl))); (case hQx6 => exact (fun _ _ _ h => h)); (try simp only [Act.put, List.setIfInBounds_toArray, List.set_cons_zero, List.set_cons_succ]))
            (refine wpAnyL_take (n := 0) (i := 6) (oi := ?ox7) (v := ?vx7) ?hix7 ?k1x7 ?k2x7 ?k3x7 ?k4x7 ?k5x7 ?k6x7 ?hQx7 ?hYx7 ?hSx7 ?restx7; (case hix7 => (simp only [List.getElem?_toArray, List.getElem?_cons_succ, List.getElem?_cons_zero]; exact rfl)); (case k1x7 => kernel_rfl); (case k2x7 => kernel_rfl); (case k3x7 => kernel_rfl); (case k4x7 => kernel_rfl); (case k5x7 => kernel_rfl); (case k6x7 => kernel_rfl); (case hSx7 => assumption); (case hYx7 => (refine Or.inl ⟨rfl, ?hyx7⟩; intro w hSw; (try dsimp only at hSw); go_simp; (try with_reducible rfl))); (case hQx7 => exact (fun _ _ _ h => h)); (try simp only [Act.put, List.setIfInBounds_toArray, List.set_cons_zero, List.set_cons_succ]))
            (refine wpAnyL_take (n := 0) (i := 7) (oi := ?ox8) (v := ?vx8) ?hix8 ?k1x8 ?k2x8 ?k3x8 ?k4x8 ?k5x8 ?k6x8 ?hQx8 ?hYx8 ?hSx8 ?restx8; (case hix8 => (simp only [List.getElem?_toArray, List.getElem?_cons_succ, List.getElem?_cons_zero]; exact rfl)); (case k1x8 => kernel_rfl); (case k2x8 => kernel_rfl); (case k3x8 => kernel_rfl); (case k4x8 => kernel_rfl); (case k5x8 => kernel_rfl); (case k6x8 => kernel_rfl); (case hSx8 => assumption); (case hYx8 => (refine Or.inl ⟨rfl, ?hyx8⟩; intro w hSw; (try dsimp only at hSw); go_simp; (try with_reducible rfl))); (case hQx8 => exact (fun _ _ _ h => h)); (try simp only [Act.put, List.setIfInBounds_toArray, List.set_cons_zero, List.set_cons_succ]))
            (refine wpAnyL_take (n := 0) (i := 10) (oi := ?ox9) (v := ?vx9) ?hix9 ?k1x9 ?k2x9 ?k3x9 ?k4x9 ?k5x9 ?k6x9 ?hQx9 ?hYx9 ?hSx9 ?restx9; (case hix9 => (simp only [List.getElem?_toArray, List.getElem?_cons_succ, List.getElem?_cons_zero]; exact rfl)); (case k1x9 => kernel_rfl); (case k2x9 => kernel_rfl); (case k3x9 => kernel_rfl); (case k4x9 => kernel_rfl); (case k5x9 => kernel_rfl); (case k6x9 => kernel_rfl); (case hSx9 => assumption); (case hYx9 => (refine Or.inl ⟨rfl, ?hyx9⟩; intro w hSw; (try dsimp only at hSw); go_simp; (try with_reducible rfl))); (case hQx9 => exact (fun _ _ _ h => h)); (try simp only [Act.put, List.setIfInBounds_toArray, List.set_cons_zero, List.set_cons_succ]))
            (refine wpAnyL_take (n := 0) (i := 11) (oi := ?ox10) (v := ?vx10) ?hix10 ?k1x10 ?k2x10 ?k3x10 ?k4x10 ?k5x10 ?k6x10 ?hQx10 ?hYx10 ?hSx10 ?restx10; (case hix10 => (simp only [List.getElem?_toArray, List.getElem?_cons_succ, List.getElem?_cons_zero]; exact rfl)); (case k1x10 => kernel_rfl); (case k2x10 => kernel_rfl); (case k3x10 => kernel_rfl); (case k4x10 => kernel_rfl); (case k5x10 => kernel_rfl); (case k6x10 => kernel_rfl); (case hSx10 => assumption); (case hYx10 => (refine Or.inl ⟨rfl, ?hyx10⟩; intro w hSw; (try dsimp only at hSw); go_simp; (try with_reducible rfl))); (case hQx10 => exact (fun _ _ _ h => h)); (try simp only [Act.put, List.setIfInBounds_toArray, List.set_cons_zero, List.set_cons_succ]))
            (refine wpAnyL_take (n := 4) (i := 12) (oi := ?ox11) (v := ?vx11) ?hix11 ?k1x11 ?k2x11 ?k3x11 ?k4x11 ?k5x11 ?k6x11 ?hQx11 ?hYx11 ?hSx11 ?restx11; (case hix11 => (simp only [List.getElem?_toArray, List.getElem?_cons_succ, List.getElem?_cons_zero]; exact rfl)); (case k1x11 => kernel_rfl); (case k2x11 => kernel_rfl); (case k3x11 => kernel_rfl); (case k4x11 => kernel_rfl); (case k5x11 => kernel_rfl); (case k6x11 => kernel_rfl); (case hSx11 => assumption); (case hYx11 => (refine Or.inl ⟨rfl, ?hyx11⟩; intro w hSw; (try dsimp only at hSw); go_simp; (try with_reducible rfl))); (case hQx11 => exact (fun _ _ _ h => h)); (try simp only [Act.put, List.setIfInBounds_toArray, List.set_cons_zero, List.set_cons_succ]))
            (refine wpAnyL_take (n := 3) (i := 13) (oi := ?ox12) (v := ?vx12) ?hix12 ?k1x12 ?k2x12 ?k3x12 ?k4x12 ?k5x12 ?k6x12 ?hQx12 ?hYx12 ?hSx12 ?restx12; (case hix12 => (simp only [List.getElem?_toArray, List.getElem?_cons_succ, List.getElem?_cons_zero]; exact rfl)); (case k1x12 => kernel_rfl); (case k2x12 => kernel_rfl); (case k3x12 => kernel_rfl); (case k4x12 => kernel_rfl); (case k5x12 => kernel_rfl); (case k6x12 => kernel_rfl); (case hSx12 => assumption); (case hYx12 => (refine Or.inl ⟨rfl, ?hyx12⟩; intro w hSw; (try dsimp only at hSw); go_simp; (try with_reducible rfl))); (case hQx12 => exact (fun _ _ _ h => h)); (try simp only [Act.put, List.setIfInBounds_toArray, List.set_cons_zero, List.set_cons_succ]))
            (refine wpAnyL_take (n := 2) (i := 14) (oi := ?ox13) (v := ?vx13) ?hix13 ?k1x13 ?k2x13 ?k3x13 ?k4x13 ?k5x13 ?k6x13 ?hQx13 ?hYx13 ?hSx13 ?restx13; (case hix13 => (simp only [List.getElem?_toArray, List.getElem?_cons_succ, List.getElem?_cons_zero]; exact rfl)); (case k1x13 => kernel_rfl); (case k2x13 => kernel_rfl); (case k3x13 => kernel_rfl); (case k4x13 => kernel_rfl); (case k5x13 => kernel_rfl); (case k6x13 => kernel_rfl); (case hSx13 => assumption); (case hYx13 => (refine Or.inl ⟨rfl, ?hyx13⟩; intro w hSw; (try dsimp only at hSw); go_simp; (try with_reducible rfl))); (case hQx13 => exact (fun _ _ _ h => h)); (try simp only [Act.put, List.setIfInBounds_toArray, List.set_cons_zero, List.set_cons_succ]))
            refine wpAnyL_ready (rs := [8, 15]) (by kernel_rfl) (by simp) ?_
            refine AllReadyL.cons (o := ?o8x14) ?hi8x14 (fun K hK => ?_) (AllReadyL.cons (o := ?o15x14) ?hi15x14 (fun K hK => ?_) AllReadyL.nil)
            (case hi8x14 => (simp only [List.getElem?_toArray, List.getElem?_cons_succ, List.getElem?_cons_zero]; exact rfl))
            (case hi15x14 => (simp only [List.getElem?_toArray, List.getElem?_cons_succ, List.getElem?_cons_zero]; exact rfl))
            · skip
              go_simp
              have hal := (Below.refl w0.heap.size w0).alloc (Nat.le_refl _) (.cells #[.int .i64 r.2] 3)
              have hn := Blk.new w0 3 #[.int .i64 r.2]
              have t0 := below_tr HBC.out hal; have t1 := HFR.out.more hal; have t2 := HX.out.below hal HX.out.lt; have t3 := own_mono HF.out hal; have t4 := own_mono HS.out hal
              clear HBC HFR HX HF HS
              have HBC := Lib.hid t0; have HFR := Lib.hid t1; have HX := Lib.hid t2; have HF := Lib.hid t3; have HS := Lib.hid t4
              clear t0 t1 t2 t3 t4
              have HA8 := Lib.hid hn
              clear hal hn
              (try clear hHeld)
              refine hK.out _ _ (by (try dsimp only); exact HS5.out _ HFR.out) (fun hHeld => ?_)
              clear hK K
              (try simp only [Act.put, List.setIfInBounds_toArray, List.set_cons_zero, List.set_cons_succ])
              revert hHeld HBC HFR HX HF HS HA8
              generalize hgA : w0.heap.size = gA
              generalize (World.alloc w0 (.cells #[.int .i64 r.2] 3)) = w0
              intro HBC HFR HX HF HS HA8 hHeld
              clear hgA
              refine wpAnyL_ready (rs := [9, 15]) (by kernel_rfl) (by simp) ?_
              refine AllReadyL.cons (o := ?o9x15) ?hi9x15 (fun K hK => ?_) (AllReadyL.cons (o := ?o15x15) ?hi15x15 (fun K hK => ?_) AllReadyL.nil)
              (case hi9x15 => (simp only [List.getElem?_toArray, List.getElem?_cons_succ, List.getElem?_cons_zero]; exact rfl))
              (case hi15x15 => (simp only [List.getElem?_toArray, List.getElem?_cons_succ, List.getElem?_cons_zero]; exact rfl))
              · skip
                refine step_append_lies _ (by rfl) _ _ _ (by rfl) g 3 i0 _ 1 8 Try.underlying22 HI.out HZ0.out HZ1.out HZ2.out rfl (by omega) _ j (FL.flatMap enc1) (by rfl) HF.out ⟨gA, 0, none⟩ 1 1 [.int .i64 r.2] (by rfl) (by rfl) (World.news_of_block (cs := #[.int .i64 r.2]) (t := 3) (fr := (0, 0)) HA8.out) (by simp [Value.oneCell']) (by omega) (by unfold maxLen; omega) (by omega) (by have := HX.out.lt; omega) _ rfl ?_
                intro gF capF w3 hown3 hgrow hat hlt3
                have hge1 := HBC.out.size
                have hoS3 := HS.out.kept hgrow (by
                  cases hq : (Value.slice SA j cS).ownBlock with
                  | none => exact .inl rfl
                  | some z => exact .inr fun e => HAP.out z e.symm hq)
                have hbx3 := HX.out.grown hgrow (fun e => own_blk_ne HF.out HX.out (by decide) e.symm)
                have hap3 := HAP.out.grow (n' := j + 1) (c := capF) (gg := gF) HS.out (hat.imp id fun e => by omega)
                have hb0 := HBC.out.grown hgrow hge1 (fun z hz => (by have := (HF.out.lt z hz).1; have := HGE.out; omega))
                have hf0 := HFR.out.step hgrow (fun z hz => .inl (.inl hz))
                have ho3 : w3.ownsRow g 3 1 (.slice (some ⟨gF, 0, none⟩) (j + 1) capF) (j + 1) ((FL ++ [r.2]).flatMap enc1) := by
                  rw [List.flatMap_append]; simpa [enc1] using hown3
                (first | (have hac := HA15.out.grown hgrow (fun e => HNF.out _ e.symm rfl); clear HA15; have HA15 := Lib.hid hac; clear hac HNF) | skip)
                clear HBC HFR HF HS HX HAP
                clear HA8
                have HBC := Lib.hid hb0; have HFR := Lib.hid hf0; have HF := Lib.hid ho3; have HS := Lib.hid hoS3; have HX := Lib.hid hbx3; have HAP := Lib.hid hap3
                clear hge1 hoS3 hbx3 hap3 hb0 hf0 ho3 hown3 hgrow hat hlt3
                (try clear hHeld)
                refine hK.out _ _ (by (try dsimp only); exact HS5.out _ HFR.out) (fun hHeld => ?_)
                clear hK K
                (try simp only [Act.put, List.setIfInBounds_toArray, List.set_cons_zero, List.set_cons_succ])
                (refine wpAnyL_take (n := 0) (i := 17) (oi := ?ox16) (v := ?vx16) ?hix16 ?k1x16 ?k2x16 ?k3x16 ?k4x16 ?k5x16 ?k6x16 ?hQx16 ?hYx16 ?hSx16 ?restx16; (case hix16 => (simp only [List.getElem?_toArray, List.getElem?_cons_succ, List.getElem?_cons_zero]; exact rfl)); (case k1x16 => kernel_rfl); (case k2x16 => kernel_rfl); (case k3x16 => kernel_rfl); (case k4x16 => kernel_rfl); (case k5x16 => kernel_rfl); (case k6x16 => kernel_rfl); (case hSx16 => assumption); (case hYx16 => (refine Or.inl ⟨rfl, ?hyx16⟩; intro w hSw; (try dsimp only at hSw); go_simp; (try with_reducible rfl))); (case hQx16 => exact (fun _ _ _ h => h)); (try simp only [Act.put, List.setIfInBounds_toArray, List.set_cons_zero, List.set_cons_succ]))
                refine wpAnyL_ready (rs := [15]) (by kernel_rfl) (by simp) ?_
                refine AllReadyL.cons (o := ?o15x17) ?hi15x17 (fun K hK => ?_) AllReadyL.nil
                (case hi15x17 => (simp only [List.getElem?_toArray, List.getElem?_cons_succ, List.getElem?_cons_zero]; exact rfl))
                go_simp
                have hal := (Below.refl w3.heap.size w3).alloc (Nat.le_refl _) (.cells #[.int .i64 l.seep.1] 3)
                have hn := Blk.new w3 3 #[.int .i64 l.seep.1]
                have hnf := fun z hz => Nat.ne_of_lt (own_block_lt HF.out (g := z) hz)
                have t0 := below_tr HBC.out hal; have t1 := HFR.out.more hal; have t2 := HX.out.below hal HX.out.lt; have t3 := own_mono HF.out hal; have t4 := own_mono HS.out hal
                clear HBC HFR HX HF HS
                have HBC := Lib.hid t0; have HFR := Lib.hid t1; have HX := Lib.hid t2; have HF := Lib.hid t3; have HS := Lib.hid t4
                clear t0 t1 t2 t3 t4
                have HA15 := Lib.hid hn
                clear hal hn
                (try clear hHeld)
                refine hK.out _ _ (by (try dsimp only); exact HS5.out _ HFR.out) (fun hHeld => ?_)
                clear hK K
                (try simp only [Act.put, List.setIfInBounds_toArray, List.set_cons_zero, List.set_cons_succ])
                revert hHeld HBC HFR HX HF HS HA15
                generalize hgC : w3.heap.size = gC
                generalize (World.alloc w3 (.cells #[.int .i64 l.seep.1] 3)) = w0
                intro HBC HFR HX HF HS HA15 hHeld
                have HNF := Lib.hid (fun z hz => hgC ▸ hnf z hz)
                clear hgC hnf
                refine wpAnyL_ready (rs := [16]) (by kernel_rfl) (by simp) ?_
                refine AllReadyL.cons (o := ?o16x18) ?hi16x18 (fun K hK => ?_) AllReadyL.nil
                (case hi16x18 => (simp only [List.getElem?_toArray, List.getElem?_cons_succ, List.getElem?_cons_zero]; exact rfl))
                refine step_append_lies _ (by rfl) _ _ _ (by rfl) g 3 i0 _ 1 8 Try.underlying22 HI.out HZ0.out HZ1.out HZ2.out rfl (by omega) _ j (SL.flatMap enc1) (by rfl) HS.out ⟨gC, 0, none⟩ 1 1 [.int .i64 l.seep.1] (by rfl) (by rfl) (World.news_of_block (cs := #[.int .i64 l.seep.1]) (t := 3) (fr := (0, 0)) HA15.out) (by simp [Value.oneCell']) (by omega) (by unfold maxLen; omega) (by omega) (by have := HX.out.lt; omega) _ rfl ?_
                intro gs caps w5 hown5 hgrow hat hlt5
                have hge1 := HBC.out.size
                have hoF5 := HF.out.kept hgrow (by
                  cases hq : (Value.slice (some ⟨gF, 0, none⟩) (j + 1) capF).ownBlock with
                  | none => exact .inl rfl
                  | some z => exact .inr fun e => HAP.out z hq e.symm)
                have hbx5 := HX.out.grown hgrow (fun e => own_blk_ne HS.out HX.out (by decide) e.symm)
                have hap5 := (HAP.out.symm.grow (n' := j + 1) (c := caps) (gg := gs) HF.out (hat.imp id fun e => by omega)).symm
                have hb0 := HBC.out.grown hgrow hge1 (fun z hz => (by have := (HS.out.lt z hz).1; have := HGE.out; omega))
                have hf0 := HFR.out.step hgrow (fun z hz => .inl (.inr hz))
                have ho5 : w5.ownsRow g 3 1 (.slice (some ⟨gs, 0, none⟩) (j + 1) caps) (j + 1) ((SL ++ [l.seep.1]).flatMap enc1) := by
                  rw [List.flatMap_append]; simpa [enc1] using hown5
                clear HBC HFR HF HS HX HAP
                clear HA15
                have HBC := Lib.hid hb0; have HFR := Lib.hid hf0; have HF := Lib.hid hoF5; have HS := Lib.hid ho5; have HX := Lib.hid hbx5; have HAP := Lib.hid hap5
                clear hge1 hoF5 hbx5 hap5 hb0 hf0 ho5 hown5 hgrow hat hlt5
                (try clear hHeld)
                refine hK.out _ _ (by (try dsimp only); exact HS5.out _ HFR.out) (fun hHeld => ?_)
                clear hK K
                (try simp only [Act.put, List.setIfInBounds_toArray, List.set_cons_zero, List.set_cons_succ])
                refine wpAnyL_ready (rs := [18]) (by kernel_rfl) (by simp) ?_
                refine AllReadyL.last (o := ?o18x19) ?hi18x19 ?he18x19 (fun K hK => ?_) AllReadyL.nil
                (case hi18x19 => (simp only [List.getElem?_toArray, List.getElem?_cons_succ, List.getElem?_cons_zero]; exact rfl))
                (case he18x19 => kernel_rfl)
                have s0 := HX.out.cell 0; have f0 := HX.out.frozen 0
                have s1 := HX.out.cell 1; have f1 := HX.out.frozen 1
                simp at s0 s1
                go_simp
                (try clear hHeld)
                refine hK.out _ _ ?_
                clear hK K
                (try simp only [Act.put, List.setIfInBounds_toArray, List.set_cons_zero, List.set_cons_succ])
                (refine wpAnyL_free (i := 19) (oi := ?ox20) (v := ?vx20) ?hix20 ?k1x20 ?k2x20 ?k3x20 ?k4x20 ?k5x20 ?hQx20 ?hYx20 ?restx20; (case hix20 => (simp only [List.getElem?_toArray, List.getElem?_cons_succ, List.getElem?_cons_zero]; exact rfl)); (case k1x20 => kernel_rfl); (case k2x20 => kernel_rfl); (case k3x20 => kernel_rfl); (case k4x20 => kernel_rfl); (case k5x20 => kernel_rfl); (case hYx20 => (refine Or.inl ⟨rfl, ?hyx20⟩; intro w hSw; (try dsimp only at hSw); go_simp; (try with_reducible rfl))); (case hQx20 => exact (fun _ _ _ h => h)); (try simp only [Act.put, List.setIfInBounds_toArray, List.set_cons_zero, List.set_cons_succ]))
                refine wpAnyL_ready (rs := [20]) (by kernel_rfl) (by simp) ?_
                refine AllReadyL.last (o := ?o20x21) ?hi20x21 ?he20x21 (fun K hK => ?_) AllReadyL.nil
                (case hi20x21 => (simp only [List.getElem?_toArray, List.getElem?_cons_succ, List.getElem?_cons_zero]; exact rfl))
                (case he20x21 => kernel_rfl)
                go_simp
                (try clear hHeld)
                refine hK.out _ _ ?_
                clear hK K
                (try simp only [Act.put, List.setIfInBounds_toArray, List.set_cons_zero, List.set_cons_succ])
                (refine wpAnyL_done (by kernel_rfl) ?_ _)
                have hx6 := (HX.out.set_ 0 (.slice (some ⟨gF, 0, none⟩) (j + 1) capF)).set_ 1 (.slice (some ⟨gs, 0, none⟩) (j + 1) caps)
                have hgr := only_setCell (only_setCell (World.grownBy.refl w5 (some g)) (p := ⟨g, 0, none⟩) (.inl rfl) (.slice (some ⟨gF, 0, none⟩) (j + 1) capF)) (p := ⟨g, 1, none⟩) (.inl rfl) (.slice (some ⟨gs, 0, none⟩) (j + 1) caps)
                have ho6 := HF.out.kept hgr (.inr (own_blk_ne HF.out HX.out (by decide)))
                have hs6 := HS.out.kept hgr (.inr (own_blk_ne HS.out HX.out (by decide)))
                have hge := HGE.out
                have hb6 := (HBC.out.setCell (p := ⟨g, 0, none⟩) hge (.slice (some ⟨gF, 0, none⟩) (j + 1) capF)).setCell (p := ⟨g, 1, none⟩) hge (.slice (some ⟨gs, 0, none⟩) (j + 1) caps)
                have HT6 := Lib.hid (TwoR.mk (x := ⟨FL ++ [r.2], SL ++ [l.seep.1], l.start.2, l.soft.1⟩) (by simpa using hx6) ho6 hs6 HAP.out)
                have HB6 := Lib.hid hb6
                clear hx6 hgr ho6 hs6 hb6
                go_wp2_with fail
                go_roundw
                case rel => exact ⟨j + 1, _, _, _, _, by omega, by go_num, by rw [HR1.out, HR2.out]; exact HT6.out, HB6.out⟩
                case measure => simp [intOf] <;> omega
              · skip
                go_simp
                have hal := (Below.refl w0.heap.size w0).alloc (Nat.le_refl _) (.cells #[.int .i64 l.seep.1] 3)
                have hn := Blk.new w0 3 #[.int .i64 l.seep.1]
                have hnf := fun z hz => Nat.ne_of_lt (own_block_lt HF.out (g := z) hz)
                have t0 := below_tr HBC.out hal; have t1 := HFR.out.more hal; have t2 := HX.out.below hal HX.out.lt; have t3 := own_mono HF.out hal; have t4 := own_mono HS.out hal; have t5 := HA8.out.below hal HA8.out.lt
                clear HBC HFR HX HF HS HA8
                have HBC := Lib.hid t0; have HFR := Lib.hid t1; have HX := Lib.hid t2; have HF := Lib.hid t3; have HS := Lib.hid t4; have HA8 := Lib.hid t5
                clear t0 t1 t2 t3 t4 t5
                have HA15 := Lib.hid hn
                clear hal hn
                (try clear hHeld)
                refine hK.out _ _ (by (try dsimp only); exact HS5.out _ HFR.out) (fun hHeld => ?_)
                clear hK K
                (try simp only [Act.put, List.setIfInBounds_toArray, List.set_cons_zero, List.set_cons_succ])
                revert hHeld HBC HFR HX HF HS HA8 HA15
                generalize hgC : w0.heap.size = gC
                generalize (World.alloc w0 (.cells #[.int .i64 l.seep.1] 3)) = w0
                intro HBC HFR HX HF HS HA8 HA15 hHeld
                have HNF := Lib.hid (fun z hz => hgC ▸ hnf z hz)
                clear hgC hnf
                refine wpAnyL_ready (rs := [9]) (by kernel_rfl) (by simp) ?_
                refine AllReadyL.cons (o := ?o9x22) ?hi9x22 (fun K hK => ?_) AllReadyL.nil
                (case hi9x22 => (simp only [List.getElem?_toArray, List.getElem?_cons_succ, List.getElem?_cons_zero]; exact rfl))
                refine step_append_lies _ (by rfl) _ _ _ (by rfl) g 3 i0 _ 1 8 Try.underlying22 HI.out HZ0.out HZ1.out HZ2.out rfl (by omega) _ j (FL.flatMap enc1) (by rfl) HF.out ⟨gA, 0, none⟩ 1 1 [.int .i64 r.2] (by rfl) (by rfl) (World.news_of_block (cs := #[.int .i64 r.2]) (t := 3) (fr := (0, 0)) HA8.out) (by simp [Value.oneCell']) (by omega) (by unfold maxLen; omega) (by omega) (by have := HX.out.lt; omega) _ rfl ?_
                intro gF capF w3 hown3 hgrow hat hlt3
                have hge1 := HBC.out.size
                have hoS3 := HS.out.kept hgrow (by
                  cases hq : (Value.slice SA j cS).ownBlock with
                  | none => exact .inl rfl
                  | some z => exact .inr fun e => HAP.out z e.symm hq)
                have hbx3 := HX.out.grown hgrow (fun e => own_blk_ne HF.out HX.out (by decide) e.symm)
                have hap3 := HAP.out.grow (n' := j + 1) (c := capF) (gg := gF) HS.out (hat.imp id fun e => by omega)
                have hb0 := HBC.out.grown hgrow hge1 (fun z hz => (by have := (HF.out.lt z hz).1; have := HGE.out; omega))
                have hf0 := HFR.out.step hgrow (fun z hz => .inl (.inl hz))
                have ho3 : w3.ownsRow g 3 1 (.slice (some ⟨gF, 0, none⟩) (j + 1) capF) (j + 1) ((FL ++ [r.2]).flatMap enc1) := by
                  rw [List.flatMap_append]; simpa [enc1] using hown3
                (first | (have hac := HA15.out.grown hgrow (fun e => HNF.out _ e.symm rfl); clear HA15; have HA15 := Lib.hid hac; clear hac HNF) | skip)
                clear HBC HFR HF HS HX HAP
                clear HA8
                have HBC := Lib.hid hb0; have HFR := Lib.hid hf0; have HF := Lib.hid ho3; have HS := Lib.hid hoS3; have HX := Lib.hid hbx3; have HAP := Lib.hid hap3
                clear hge1 hoS3 hbx3 hap3 hb0 hf0 ho3 hown3 hgrow hat hlt3
                (try clear hHeld)
                refine hK.out _ _ (by (try dsimp only); exact HS5.out _ HFR.out) (fun hHeld => ?_)
                clear hK K
                (try simp only [Act.put, List.setIfInBounds_toArray, List.set_cons_zero, List.set_cons_succ])
                (refine wpAnyL_take (n := 0) (i := 17) (oi := ?ox23) (v := ?vx23) ?hix23 ?k1x23 ?k2x23 ?k3x23 ?k4x23 ?k5x23 ?k6x23 ?hQx23 ?hYx23 ?hSx23 ?restx23; (case hix23 => (simp only [List.getElem?_toArray, List.getElem?_cons_succ, List.getElem?_cons_zero]; exact rfl)); (case k1x23 => kernel_rfl); (case k2x23 => kernel_rfl); (case k3x23 => kernel_rfl); (case k4x23 => kernel_rfl); (case k5x23 => kernel_rfl); (case k6x23 => kernel_rfl); (case hSx23 => assumption); (case hYx23 => (refine Or.inl ⟨rfl, ?hyx23⟩; intro w hSw; (try dsimp only at hSw); go_simp; (try with_reducible rfl))); (case hQx23 => exact (fun _ _ _ h => h)); (try simp only [Act.put, List.setIfInBounds_toArray, List.set_cons_zero, List.set_cons_succ]))
                refine wpAnyL_ready (rs := [16]) (by kernel_rfl) (by simp) ?_
                refine AllReadyL.cons (o := ?o16x24) ?hi16x24 (fun K hK => ?_) AllReadyL.nil
                (case hi16x24 => (simp only [List.getElem?_toArray, List.getElem?_cons_succ, List.getElem?_cons_zero]; exact rfl))
                refine step_append_lies _ (by rfl) _ _ _ (by rfl) g 3 i0 _ 1 8 Try.underlying22 HI.out HZ0.out HZ1.out HZ2.out rfl (by omega) _ j (SL.flatMap enc1) (by rfl) HS.out ⟨gC, 0, none⟩ 1 1 [.int .i64 l.seep.1] (by rfl) (by rfl) (World.news_of_block (cs := #[.int .i64 l.seep.1]) (t := 3) (fr := (0, 0)) HA15.out) (by simp [Value.oneCell']) (by omega) (by unfold maxLen; omega) (by omega) (by have := HX.out.lt; omega) _ rfl ?_
                intro gs caps w5 hown5 hgrow hat hlt5
                have hge1 := HBC.out.size
                have hoF5 := HF.out.kept hgrow (by
                  cases hq : (Value.slice (some ⟨gF, 0, none⟩) (j + 1) capF).ownBlock with
                  | none => exact .inl rfl
                  | some z => exact .inr fun e => HAP.out z hq e.symm)
                have hbx5 := HX.out.grown hgrow (fun e => own_blk_ne HS.out HX.out (by decide) e.symm)
                have hap5 := (HAP.out.symm.grow (n' := j + 1) (c := caps) (gg := gs) HF.out (hat.imp id fun e => by omega)).symm
                have hb0 := HBC.out.grown hgrow hge1 (fun z hz => (by have := (HS.out.lt z hz).1; have := HGE.out; omega))
                have hf0 := HFR.out.step hgrow (fun z hz => .inl (.inr hz))
                have ho5 : w5.ownsRow g 3 1 (.slice (some ⟨gs, 0, none⟩) (j + 1) caps) (j + 1) ((SL ++ [l.seep.1]).flatMap enc1) := by
                  rw [List.flatMap_append]; simpa [enc1] using hown5
                clear HBC HFR HF HS HX HAP
                clear HA15
                have HBC := Lib.hid hb0; have HFR := Lib.hid hf0; have HF := Lib.hid hoF5; have HS := Lib.hid ho5; have HX := Lib.hid hbx5; have HAP := Lib.hid hap5
                clear hge1 hoF5 hbx5 hap5 hb0 hf0 ho5 hown5 hgrow hat hlt5
                (try clear hHeld)
                refine hK.out _ _ (by (try dsimp only); exact HS5.out _ HFR.out) (fun hHeld => ?_)
                clear hK K
                (try simp only [Act.put, List.setIfInBounds_toArray, List.set_cons_zero, List.set_cons_succ])
                refine wpAnyL_ready (rs := [18]) (by kernel_rfl) (by simp) ?_
                refine AllReadyL.last (o := ?o18x25) ?hi18x25 ?he18x25 (fun K hK => ?_) AllReadyL.nil
                (case hi18x25 => (simp only [List.getElem?_toArray, List.getElem?_cons_succ, List.getElem?_cons_zero]; exact rfl))
                (case he18x25 => kernel_rfl)
                have s0 := HX.out.cell 0; have f0 := HX.out.frozen 0
                have s1 := HX.out.cell 1; have f1 := HX.out.frozen 1
                simp at s0 s1
                go_simp
                (try clear hHeld)
                refine hK.out _ _ ?_
                clear hK K
                (try simp only [Act.put, List.setIfInBounds_toArray, List.set_cons_zero, List.set_cons_succ])
                (refine wpAnyL_free (i := 19) (oi := ?ox26) (v := ?vx26) ?hix26 ?k1x26 ?k2x26 ?k3x26 ?k4x26 ?k5x26 ?hQx26 ?hYx26 ?restx26; (case hix26 => (simp only [List.getElem?_toArray, List.getElem?_cons_succ, List.getElem?_cons_zero]; exact rfl)); (case k1x26 => kernel_rfl); (case k2x26 => kernel_rfl); (case k3x26 => kernel_rfl); (case k4x26 => kernel_rfl); (case k5x26 => kernel_rfl); (case hYx26 => (refine Or.inl ⟨rfl, ?hyx26⟩; intro w hSw; (try dsimp only at hSw); go_simp; (try with_reducible rfl))); (case hQx26 => exact (fun _ _ _ h => h)); (try simp only [Act.put, List.setIfInBounds_toArray, List.set_cons_zero, List.set_cons_succ]))
                refine wpAnyL_ready (rs := [20]) (by kernel_rfl) (by simp) ?_
                refine AllReadyL.last (o := ?o20x27) ?hi20x27 ?he20x27 (fun K hK => ?_) AllReadyL.nil
                (case hi20x27 => (simp only [List.getElem?_toArray, List.getElem?_cons_succ, List.getElem?_cons_zero]; exact rfl))
                (case he20x27 => kernel_rfl)
                go_simp
                (try clear hHeld)
                refine hK.out _ _ ?_
                clear hK K
                (try simp only [Act.put, List.setIfInBounds_toArray, List.set_cons_zero, List.set_cons_succ])
                (refine wpAnyL_done (by kernel_rfl) ?_ _)
                have hx6 := (HX.out.set_ 0 (.slice (some ⟨gF, 0, none⟩) (j + 1) capF)).set_ 1 (.slice (some ⟨gs, 0, none⟩) (j + 1) caps)
                have hgr := only_setCell (only_setCell (World.grownBy.refl w5 (some g)) (p := ⟨g, 0, none⟩) (.inl rfl) (.slice (some ⟨gF, 0, none⟩) (j + 1) capF)) (p := ⟨g, 1, none⟩) (.inl rfl) (.slice (some ⟨gs, 0, none⟩) (j + 1) caps)
                have ho6 := HF.out.kept hgr (.inr (own_blk_ne HF.out HX.out (by decide)))
                have hs6 := HS.out.kept hgr (.inr (own_blk_ne HS.out HX.out (by decide)))
                have hge := HGE.out
                have hb6 := (HBC.out.setCell (p := ⟨g, 0, none⟩) hge (.slice (some ⟨gF, 0, none⟩) (j + 1) capF)).setCell (p := ⟨g, 1, none⟩) hge (.slice (some ⟨gs, 0, none⟩) (j + 1) caps)
                have HT6 := Lib.hid (TwoR.mk (x := ⟨FL ++ [r.2], SL ++ [l.seep.1], l.start.2, l.soft.1⟩) (by simpa using hx6) ho6 hs6 HAP.out)
                have HB6 := Lib.hid hb6
                clear hx6 hgr ho6 hs6 hb6
                go_wp2_with fail
                go_roundw
                case rel => exact ⟨j + 1, _, _, _, _, by omega, by go_num, by rw [HR1.out, HR2.out]; exact HT6.out, HB6.out⟩
                case measure => simp [intOf] <;> omega
            · skip
              go_simp
              have hal := (Below.refl w0.heap.size w0).alloc (Nat.le_refl _) (.cells #[.int .i64 l.seep.1] 3)
              have hn := Blk.new w0 3 #[.int .i64 l.seep.1]
              have hnf := fun z hz => Nat.ne_of_lt (own_block_lt HF.out (g := z) hz)
              have t0 := below_tr HBC.out hal; have t1 := HFR.out.more hal; have t2 := HX.out.below hal HX.out.lt; have t3 := own_mono HF.out hal; have t4 := own_mono HS.out hal
              clear HBC HFR HX HF HS
              have HBC := Lib.hid t0; have HFR := Lib.hid t1; have HX := Lib.hid t2; have HF := Lib.hid t3; have HS := Lib.hid t4
              clear t0 t1 t2 t3 t4
              have HA15 := Lib.hid hn
              clear hal hn
              (try clear hHeld)
              refine hK.out _ _ (by (try dsimp only); exact HS5.out _ HFR.out) (fun hHeld => ?_)
              clear hK K
              (try simp only [Act.put, List.setIfInBounds_toArray, List.set_cons_zero, List.set_cons_succ])
              revert hHeld HBC HFR HX HF HS HA15
              generalize hgC : w0.heap.size = gC
              generalize (World.alloc w0 (.cells #[.int .i64 l.seep.1] 3)) = w0
              intro HBC HFR HX HF HS HA15 hHeld
              have HNF := Lib.hid (fun z hz => hgC ▸ hnf z hz)
              clear hgC hnf
              refine wpAnyL_ready (rs := [8]) (by kernel_rfl) (by simp) ?_
              refine AllReadyL.cons (o := ?o8x28) ?hi8x28 (fun K hK => ?_) AllReadyL.nil
              (case hi8x28 => (simp only [List.getElem?_toArray, List.getElem?_cons_succ, List.getElem?_cons_zero]; exact rfl))
              go_simp
              have hal := (Below.refl w0.heap.size w0).alloc (Nat.le_refl _) (.cells #[.int .i64 r.2] 3)
              have hn := Blk.new w0 3 #[.int .i64 r.2]
              have t0 := below_tr HBC.out hal; have t1 := HFR.out.more hal; have t2 := HX.out.below hal HX.out.lt; have t3 := own_mono HF.out hal; have t4 := own_mono HS.out hal; have t5 := HA15.out.below hal HA15.out.lt
              clear HBC HFR HX HF HS HA15
              have HBC := Lib.hid t0; have HFR := Lib.hid t1; have HX := Lib.hid t2; have HF := Lib.hid t3; have HS := Lib.hid t4; have HA15 := Lib.hid t5
              clear t0 t1 t2 t3 t4 t5
              have HA8 := Lib.hid hn
              clear hal hn
              (try clear hHeld)
              refine hK.out _ _ (by (try dsimp only); exact HS5.out _ HFR.out) (fun hHeld => ?_)
              clear hK K
              (try simp only [Act.put, List.setIfInBounds_toArray, List.set_cons_zero, List.set_cons_succ])
              revert hHeld HBC HFR HX HF HS HA15 HA8
              generalize hgA : w0.heap.size = gA
              generalize (World.alloc w0 (.cells #[.int .i64 r.2] 3)) = w0
              intro HBC HFR HX HF HS HA15 HA8 hHeld
              clear hgA
              refine wpAnyL_ready (rs := [9]) (by kernel_rfl) (by simp) ?_
              refine AllReadyL.cons (o := ?o9x29) ?hi9x29 (fun K hK => ?_) AllReadyL.nil
              (case hi9x29 => (simp only [List.getElem?_toArray, List.getElem?_cons_succ, List.getElem?_cons_zero]; exact rfl))
              refine step_append_lies _ (by rfl) _ _ _ (by rfl) g 3 i0 _ 1 8 Try.underlying22 HI.out HZ0.out HZ1.out HZ2.out rfl (by omega) _ j (FL.flatMap enc1) (by rfl) HF.out ⟨gA, 0, none⟩ 1 1 [.int .i64 r.2] (by rfl) (by rfl) (World.news_of_block (cs := #[.int .i64 r.2]) (t := 3) (fr := (0, 0)) HA8.out) (by simp [Value.oneCell']) (by omega) (by unfold maxLen; omega) (by omega) (by have := HX.out.lt; omega) _ rfl ?_
              intro gF capF w3 hown3 hgrow hat hlt3
              have hge1 := HBC.out.size
              have hoS3 := HS.out.kept hgrow (by
                cases hq : (Value.slice SA j cS).ownBlock with
                | none => exact .inl rfl
                | some z => exact .inr fun e => HAP.out z e.symm hq)
              have hbx3 := HX.out.grown hgrow (fun e => own_blk_ne HF.out HX.out (by decide) e.symm)
              have hap3 := HAP.out.grow (n' := j + 1) (c := capF) (gg := gF) HS.out (hat.imp id fun e => by omega)
              have hb0 := HBC.out.grown hgrow hge1 (fun z hz => (by have := (HF.out.lt z hz).1; have := HGE.out; omega))
              have hf0 := HFR.out.step hgrow (fun z hz => .inl (.inl hz))
              have ho3 : w3.ownsRow g 3 1 (.slice (some ⟨gF, 0, none⟩) (j + 1) capF) (j + 1) ((FL ++ [r.2]).flatMap enc1) := by
                rw [List.flatMap_append]; simpa [enc1] using hown3
              (first | (have hac := HA15.out.grown hgrow (fun e => HNF.out _ e.symm rfl); clear HA15; have HA15 := Lib.hid hac; clear hac HNF) | skip)
              clear HBC HFR HF HS HX HAP
              clear HA8
              have HBC := Lib.hid hb0; have HFR := Lib.hid hf0; have HF := Lib.hid ho3; have HS := Lib.hid hoS3; have HX := Lib.hid hbx3; have HAP := Lib.hid hap3
              clear hge1 hoS3 hbx3 hap3 hb0 hf0 ho3 hown3 hgrow hat hlt3
              (try clear hHeld)
              refine hK.out _ _ (by (try dsimp only); exact HS5.out _ HFR.out) (fun hHeld => ?_)
              clear hK K
              (try simp only [Act.put, List.setIfInBounds_toArray, List.set_cons_zero, List.set_cons_succ])
              (refine wpAnyL_take (n := 0) (i := 17) (oi := ?ox30) (v := ?vx30) ?hix30 ?k1x30 ?k2x30 ?k3x30 ?k4x30 ?k5x30 ?k6x30 ?hQx30 ?hYx30 ?hSx30 ?restx30; (case hix30 => (simp only [List.getElem?_toArray, List.getElem?_cons_succ, List.getElem?_cons_zero]; exact rfl)); (case k1x30 => kernel_rfl); (case k2x30 => kernel_rfl); (case k3x30 => kernel_rfl); (case k4x30 => kernel_rfl); (case k5x30 => kernel_rfl); (case k6x30 => kernel_rfl); (case hSx30 => assumption); (case hYx30 => (refine Or.inl ⟨rfl, ?hyx30⟩; intro w hSw; (try dsimp only at hSw); go_simp; (try with_reducible rfl))); (case hQx30 => exact (fun _ _ _ h => h)); (try simp only [Act.put, List.setIfInBounds_toArray, List.set_cons_zero, List.set_cons_succ]))
              refine wpAnyL_ready (rs := [16]) (by kernel_rfl) (by simp) ?_
              refine AllReadyL.cons (o := ?o16x31) ?hi16x31 (fun K hK => ?_) AllReadyL.nil
              (case hi16x31 => (simp only [List.getElem?_toArray, List.getElem?_cons_succ, List.getElem?_cons_zero]; exact rfl))
              refine step_append_lies _ (by rfl) _ _ _ (by rfl) g 3 i0 _ 1 8 Try.underlying22 HI.out HZ0.out HZ1.out HZ2.out rfl (by omega) _ j (SL.flatMap enc1) (by rfl) HS.out ⟨gC, 0, none⟩ 1 1 [.int .i64 l.seep.1] (by rfl) (by rfl) (World.news_of_block (cs := #[.int .i64 l.seep.1]) (t := 3) (fr := (0, 0)) HA15.out) (by simp [Value.oneCell']) (by omega) (by unfold maxLen; omega) (by omega) (by have := HX.out.lt; omega) _ rfl ?_
              intro gs caps w5 hown5 hgrow hat hlt5
              have hge1 := HBC.out.size
              have hoF5 := HF.out.kept hgrow (by
                cases hq : (Value.slice (some ⟨gF, 0, none⟩) (j + 1) capF).ownBlock with
                | none => exact .inl rfl
                | some z => exact .inr fun e => HAP.out z hq e.symm)
              have hbx5 := HX.out.grown hgrow (fun e => own_blk_ne HS.out HX.out (by decide) e.symm)
              have hap5 := (HAP.out.symm.grow (n' := j + 1) (c := caps) (gg := gs) HF.out (hat.imp id fun e => by omega)).symm
              have hb0 := HBC.out.grown hgrow hge1 (fun z hz => (by have := (HS.out.lt z hz).1; have := HGE.out; omega))
              have hf0 := HFR.out.step hgrow (fun z hz => .inl (.inr hz))
              have ho5 : w5.ownsRow g 3 1 (.slice (some ⟨gs, 0, none⟩) (j + 1) caps) (j + 1) ((SL ++ [l.seep.1]).flatMap enc1) := by
                rw [List.flatMap_append]; simpa [enc1] using hown5
              clear HBC HFR HF HS HX HAP
              clear HA15
              have HBC := Lib.hid hb0; have HFR := Lib.hid hf0; have HF := Lib.hid hoF5; have HS := Lib.hid ho5; have HX := Lib.hid hbx5; have HAP := Lib.hid hap5
              clear hge1 hoF5 hbx5 hap5 hb0 hf0 ho5 hown5 hgrow hat hlt5
              (try clear hHeld)
              refine hK.out _ _ (by (try dsimp only); exact HS5.out _ HFR.out) (fun hHeld => ?_)
              clear hK K
              (try simp only [Act.put, List.setIfInBounds_toArray, List.set_cons_zero, List.set_cons_succ])
              refine wpAnyL_ready (rs := [18]) (by kernel_rfl) (by simp) ?_
              refine AllReadyL.last (o := ?o18x32) ?hi18x32 ?he18x32 (fun K hK => ?_) AllReadyL.nil
              (case hi18x32 => (simp only [List.getElem?_toArray, List.getElem?_cons_succ, List.getElem?_cons_zero]; exact rfl))
              (case he18x32 => kernel_rfl)
              have s0 := HX.out.cell 0; have f0 := HX.out.frozen 0
              have s1 := HX.out.cell 1; have f1 := HX.out.frozen 1
              simp at s0 s1
              go_simp
              (try clear hHeld)
              refine hK.out _ _ ?_
              clear hK K
              (try simp only [Act.put, List.setIfInBounds_toArray, List.set_cons_zero, List.set_cons_succ])
              (refine wpAnyL_free (i := 19) (oi := ?ox33) (v := ?vx33) ?hix33 ?k1x33 ?k2x33 ?k3x33 ?k4x33 ?k5x33 ?hQx33 ?hYx33 ?restx33; (case hix33 => (simp only [List.getElem?_toArray, List.getElem?_cons_succ, List.getElem?_cons_zero]; exact rfl)); (case k1x33 => kernel_rfl); (case k2x33 => kernel_rfl); (case k3x33 => kernel_rfl); (case k4x33 => kernel_rfl); (case k5x33 => kernel_rfl); (case hYx33 => (refine Or.inl ⟨rfl, ?hyx33⟩; intro w hSw; (try dsimp only at hSw); go_simp; (try with_reducible rfl))); (case hQx33 => exact (fun _ _ _ h => h)); (try simp only [Act.put, List.setIfInBounds_toArray, List.set_cons_zero, List.set_cons_succ]))
              refine wpAnyL_ready (rs := [20]) (by kernel_rfl) (by simp) ?_
              refine AllReadyL.last (o := ?o20x34) ?hi20x34 ?he20x34 (fun K hK => ?_) AllReadyL.nil
              (case hi20x34 => (simp only [List.getElem?_toArray, List.getElem?_cons_succ, List.getElem?_cons_zero]; exact rfl))
              (case he20x34 => kernel_rfl)
              go_simp
              (try clear hHeld)
              refine hK.out _ _ ?_
              clear hK K
              (try simp only [Act.put, List.setIfInBounds_toArray, List.set_cons_zero, List.set_cons_succ])
              (refine wpAnyL_done (by kernel_rfl) ?_ _)
              have hx6 := (HX.out.set_ 0 (.slice (some ⟨gF, 0, none⟩) (j + 1) capF)).set_ 1 (.slice (some ⟨gs, 0, none⟩) (j + 1) caps)
              have hgr := only_setCell (only_setCell (World.grownBy.refl w5 (some g)) (p := ⟨g, 0, none⟩) (.inl rfl) (.slice (some ⟨gF, 0, none⟩) (j + 1) capF)) (p := ⟨g, 1, none⟩) (.inl rfl) (.slice (some ⟨gs, 0, none⟩) (j + 1) caps)
              have ho6 := HF.out.kept hgr (.inr (own_blk_ne HF.out HX.out (by decide)))
              have hs6 := HS.out.kept hgr (.inr (own_blk_ne HS.out HX.out (by decide)))
              have hge := HGE.out
              have hb6 := (HBC.out.setCell (p := ⟨g, 0, none⟩) hge (.slice (some ⟨gF, 0, none⟩) (j + 1) capF)).setCell (p := ⟨g, 1, none⟩) hge (.slice (some ⟨gs, 0, none⟩) (j + 1) caps)
              have HT6 := Lib.hid (TwoR.mk (x := ⟨FL ++ [r.2], SL ++ [l.seep.1], l.start.2, l.soft.1⟩) (by simpa using hx6) ho6 hs6 HAP.out)
              have HB6 := Lib.hid hb6
              clear hx6 hgr ho6 hs6 hb6
              go_wp2_with fail
              go_roundw
              case rel => exact ⟨j + 1, _, _, _, _, by omega, by go_num, by rw [HR1.out, HR2.out]; exact HT6.out, HB6.out⟩
              case measure => simp [intOf] <;> omega
          -- A]
        · as_aux_lemma =>
          obtain rfl : nI = j := by omega
          rw [List.take_of_length_le (by rw [HIL.out]; exact Nat.le_refl _)] at htr
          have hxr : RdX wr FA nI SA nI (worstX l) := RdX.mk (Rd.of_own enc1_len htr.oF (show (l.inflow.map (·.2)).length = nI by rw [List.length_map]; exact HIL.out)) (Rd.of_own enc1_len htr.oS (show (l.inflow.map (fun _ => l.seep.1)).length = nI by rw [List.length_map]; exact HIL.out))
          have hbx : Blk wr g 75 (xA FA nI cF SA nI cS (worstX l)) := htr.box
          have HXB := Lib.hid hbx; have HRX := Lib.hid hxr
          have hcF := own_cap htr.oF; have hcS := own_cap htr.oS
          obtain ⟨w1, hw1⟩ : ∃ w1, w1 = wr := ⟨_, rfl⟩
          rw [← hw1] at hbr HXB HRX ⊢
          have t0 := below_tr HB.out hbr; have t1 := below_tr HQ.out hbr; have t2 := HRS.out.below hbr
          clear HB HQ HRS
          have HB := Lib.hid t0; have HQ := Lib.hid t1; have HRS := Lib.hid t2
          clear t0 t1 t2
          clear hw1 htr hbr hlt hj hxr hbx z0 z1 z2 z3 z4 z5 z6 z7 z8 z9
          have HFT := Lib.hid (worst_fits (l := l) HOK.out)
          obtain ⟨X, hX⟩ : ∃ X, X = worstX l := ⟨_, rfl⟩
          have HWF := Lib.hid (worst_first HOK.out ws c)
          rw [← hX] at HXB HRX HFT HWF
          clear hX
          obtain ⟨x0, x1, x2, x3, x4, x5, x6, x7, x8, x9⟩ := HXX.out _ HQ.out
          go_upto_region 12 with fail
          clear x0 x1 x2 x3 x4 x5 x6 x7 x8 x9
          refine wp_region_till [] (fun U => U.cell? ⟨w.heap.size, 0, none⟩ = some (.slice VA nV cV) ∧ U.cell? ⟨w.heap.size, 1, none⟩ = some (.int .i64 l.crest) ∧ U.cell? ⟨w.heap.size, 2, none⟩ = some (.int .i64 l.weak) ∧ U.cell? ⟨w.heap.size, 3, none⟩ = some (.int .i64 l.soft.1) ∧ U.cell? ⟨w.heap.size, 4, none⟩ = some (.int .i64 l.soft.2) ∧ U.cell? ⟨w.heap.size, 5, none⟩ = some (.int .i64 l.start.1) ∧ U.cell? ⟨w.heap.size, 6, none⟩ = some (.int .i64 l.start.2) ∧ U.cell? ⟨w.heap.size, 7, none⟩ = some (.int .i64 l.seep.1) ∧ U.cell? ⟨w.heap.size, 8, none⟩ = some (.int .i64 l.seep.2) ∧ U.cell? ⟨w.heap.size, 9, none⟩ = some (.slice IA nI cI) ∧ U.cell? ⟨g, 0, none⟩ = some (.slice FA nI cF) ∧ U.cell? ⟨g, 1, none⟩ = some (.slice SA nI cS) ∧ U.cell? ⟨g, 2, none⟩ = some (.int .i64 X.start) ∧ U.cell? ⟨g, 3, none⟩ = some (.int .i64 X.soft)) (by kernel_rfl) (by exact and10 (HXX.out _ HQ.out.drew) (blk_xA (show Blk w1.drew g _ _ from HXB.out))) (fun hHeld => ?_)
          have hb9 := (Below.refl w1.heap.size w1).drew
          have t0 := below_tr HB.out hb9; have t1 := below_tr HQ.out hb9; have t2 := HRS.out.below hb9; have t3 := HXB.out.below hb9 HXB.out.lt; have t4 := HRX.out.below hb9
          clear HB HQ HRS HXB HRX
          have HB := Lib.hid t0; have HQ := Lib.hid t1; have HRS := Lib.hid t2; have HXB := Lib.hid t3; have HRX := Lib.hid t4
          clear t0 t1 t2 t3 t4
          clear hb9
          revert hHeld HB HQ HRS HXB HRX
          generalize w1.drew = w0
          intro hHeld HB HQ HRS HXB HRX
          (refine wpAnyL_take (n := 0) (i := 0) (oi := ?ox35) (v := ?vx35) ?hix35 ?k1x35 ?k2x35 ?k3x35 ?k4x35 ?k5x35 ?k6x35 ?hQx35 ?hYx35 ?hSx35 ?restx35; (case hix35 => (simp only [List.getElem?_toArray, List.getElem?_cons_succ, List.getElem?_cons_zero]; exact rfl)); (case k1x35 => kernel_rfl); (case k2x35 => kernel_rfl); (case k3x35 => kernel_rfl); (case k4x35 => kernel_rfl); (case k5x35 => kernel_rfl); (case k6x35 => kernel_rfl); (case hSx35 => assumption); (case hYx35 => (refine Or.inl ⟨rfl, ?hyx35⟩; intro w hSw; (try dsimp only at hSw); go_simp; (try with_reducible rfl))); (case hQx35 => exact (fun _ _ _ h => h)); (try simp only [Act.put, List.setIfInBounds_toArray, List.set_cons_zero, List.set_cons_succ]))
          (refine wpAnyL_take (n := 0) (i := 2) (oi := ?ox36) (v := ?vx36) ?hix36 ?k1x36 ?k2x36 ?k3x36 ?k4x36 ?k5x36 ?k6x36 ?hQx36 ?hYx36 ?hSx36 ?restx36; (case hix36 => (simp only [List.getElem?_toArray, List.getElem?_cons_succ, List.getElem?_cons_zero]; exact rfl)); (case k1x36 => kernel_rfl); (case k2x36 => kernel_rfl); (case k3x36 => kernel_rfl); (case k4x36 => kernel_rfl); (case k5x36 => kernel_rfl); (case k6x36 => kernel_rfl); (case hSx36 => assumption); (case hYx36 => (refine Or.inl ⟨rfl, ?hyx36⟩; intro w hSw; (try dsimp only at hSw); go_simp; (try with_reducible rfl))); (case hQx36 => exact (fun _ _ _ h => h)); (try simp only [Act.put, List.setIfInBounds_toArray, List.set_cons_zero, List.set_cons_succ]))
          (refine wpAnyL_take (n := 0) (i := 4) (oi := ?ox37) (v := ?vx37) ?hix37 ?k1x37 ?k2x37 ?k3x37 ?k4x37 ?k5x37 ?k6x37 ?hQx37 ?hYx37 ?hSx37 ?restx37; (case hix37 => (simp only [List.getElem?_toArray, List.getElem?_cons_succ, List.getElem?_cons_zero]; exact rfl)); (case k1x37 => kernel_rfl); (case k2x37 => kernel_rfl); (case k3x37 => kernel_rfl); (case k4x37 => kernel_rfl); (case k5x37 => kernel_rfl); (case k6x37 => kernel_rfl); (case hSx37 => assumption); (case hYx37 => (refine Or.inl ⟨rfl, ?hyx37⟩; intro w hSw; (try dsimp only at hSw); go_simp; (try with_reducible rfl))); (case hQx37 => exact (fun _ _ _ h => h)); (try simp only [Act.put, List.setIfInBounds_toArray, List.set_cons_zero, List.set_cons_succ]))
          (refine wpAnyL_take (n := 0) (i := 6) (oi := ?ox38) (v := ?vx38) ?hix38 ?k1x38 ?k2x38 ?k3x38 ?k4x38 ?k5x38 ?k6x38 ?hQx38 ?hYx38 ?hSx38 ?restx38; (case hix38 => (simp only [List.getElem?_toArray, List.getElem?_cons_succ, List.getElem?_cons_zero]; exact rfl)); (case k1x38 => kernel_rfl); (case k2x38 => kernel_rfl); (case k3x38 => kernel_rfl); (case k4x38 => kernel_rfl); (case k5x38 => kernel_rfl); (case k6x38 => kernel_rfl); (case hSx38 => assumption); (case hYx38 => (refine Or.inl ⟨rfl, ?hyx38⟩; intro w hSw; (try dsimp only at hSw); go_simp; (try with_reducible rfl))); (case hQx38 => exact (fun _ _ _ h => h)); (try simp only [Act.put, List.setIfInBounds_toArray, List.set_cons_zero, List.set_cons_succ]))
          refine wpAnyL_ready (rs := [1]) (by kernel_rfl) (by simp) ?_
          refine AllReadyL.cons (o := ?o1x39) ?hi1x39 (fun K hK => ?_) AllReadyL.nil
          (case hi1x39 => (simp only [List.getElem?_toArray, List.getElem?_cons_succ, List.getElem?_cons_zero]; exact rfl))
          go_simp
          go_at_call 20
          refine (HLK.out _ HB.out).mono ?_
          rintro e w1 ⟨VA', cV', IA', cI', rfl, hcv, hci, hrl, hb9⟩
          have t0 := below_tr HB.out hb9; have t1 := below_tr HQ.out hb9; have t2 := HRS.out.below hb9; have t3 := HXB.out.below hb9 HXB.out.lt; have t4 := HRX.out.below hb9
          clear HB HQ HRS HXB HRX
          have HB := Lib.hid t0; have HQ := Lib.hid t1; have HRS := Lib.hid t2; have HXB := Lib.hid t3; have HRX := Lib.hid t4
          clear t0 t1 t2 t3 t4
          have HRL := Lib.hid hrl
          have HCV := Lib.hid hcv
          have HCI := Lib.hid hci
          clear hb9 hrl hcv hci
          (try go_wp2_with fail)
          (try clear hHeld)
          refine hK.out _ _ (by (try dsimp only); exact and10 (HXX.out _ HQ.out) (blk_xA HXB.out)) (fun hHeld => ?_)
          clear hK K
          (try simp only [Act.put, List.setIfInBounds_toArray, List.set_cons_zero, List.set_cons_succ])
          refine wpAnyL_ready (rs := [3]) (by kernel_rfl) (by simp) ?_
          refine AllReadyL.cons (o := ?o3x40) ?hi3x40 (fun K hK => ?_) AllReadyL.nil
          (case hi3x40 => (simp only [List.getElem?_toArray, List.getElem?_cons_succ, List.getElem?_cons_zero]; exact rfl))
          go_simp
          go_at_call 21
          refine (HWK.out _ HB.out).mono ?_
          rintro e w1 ⟨WA', cW', rfl, hcw, hrw, hb9⟩
          have t0 := below_tr HB.out hb9; have t1 := below_tr HQ.out hb9; have t2 := HRS.out.below hb9; have t3 := HXB.out.below hb9 HXB.out.lt; have t4 := HRX.out.below hb9; have t5 := HRL.out.below hb9
          clear HB HQ HRS HXB HRX HRL
          have HB := Lib.hid t0; have HQ := Lib.hid t1; have HRS := Lib.hid t2; have HXB := Lib.hid t3; have HRX := Lib.hid t4; have HRL := Lib.hid t5
          clear t0 t1 t2 t3 t4 t5
          have HRW := Lib.hid hrw
          have HCW := Lib.hid hcw
          clear hb9 hrw hcw
          (try go_wp2_with fail)
          (try clear hHeld)
          refine hK.out _ _ (by (try dsimp only); exact and10 (HXX.out _ HQ.out) (blk_xA HXB.out)) (fun hHeld => ?_)
          clear hK K
          (try simp only [Act.put, List.setIfInBounds_toArray, List.set_cons_zero, List.set_cons_succ])
          refine wpAnyL_ready (rs := [5]) (by kernel_rfl) (by simp) ?_
          refine AllReadyL.cons (o := ?o5x41) ?hi5x41 (fun K hK => ?_) AllReadyL.nil
          (case hi5x41 => (simp only [List.getElem?_toArray, List.getElem?_cons_succ, List.getElem?_cons_zero]; exact rfl))
          go_simp
          go_at_call 27
          refine (HLI.out _ HB.out).mono ?_
          rintro e w1 ⟨CA', cC', rfl, hcc, hrc, hb9⟩
          have t0 := below_tr HB.out hb9; have t1 := below_tr HQ.out hb9; have t2 := HRS.out.below hb9; have t3 := HXB.out.below hb9 HXB.out.lt; have t4 := HRX.out.below hb9; have t5 := HRL.out.below hb9; have t6 := HRW.out.below hb9
          clear HB HQ HRS HXB HRX HRL HRW
          have HB := Lib.hid t0; have HQ := Lib.hid t1; have HRS := Lib.hid t2; have HXB := Lib.hid t3; have HRX := Lib.hid t4; have HRL := Lib.hid t5; have HRW := Lib.hid t6
          clear t0 t1 t2 t3 t4 t5 t6
          have HRC := Lib.hid hrc
          have HCC := Lib.hid hcc
          clear hb9 hrc hcc
          (try go_wp2_with fail)
          (try clear hHeld)
          refine hK.out _ _ (by (try dsimp only); exact and10 (HXX.out _ HQ.out) (blk_xA HXB.out)) (fun hHeld => ?_)
          clear hK K
          (try simp only [Act.put, List.setIfInBounds_toArray, List.set_cons_zero, List.set_cons_succ])
          refine wpAnyL_ready (rs := [7]) (by kernel_rfl) (by simp) ?_
          refine AllReadyL.cons (o := ?o7x42) ?hi7x42 (fun K hK => ?_) AllReadyL.nil
          (case hi7x42 => (simp only [List.getElem?_toArray, List.getElem?_cons_succ, List.getElem?_cons_zero]; exact rfl))
          go_simp
          go_at_call 40
          refine (Real_c (x := X) HRX.out (by omega) (by omega)).mono ?_
          rintro e w1 ⟨FA', cF', EA', cE', rfl, hrx, hcf, hce, hb9⟩
          have t0 := below_tr HB.out hb9; have t1 := below_tr HQ.out hb9; have t2 := HRS.out.below hb9; have t3 := HXB.out.below hb9 HXB.out.lt; have t4 := HRX.out.below hb9; have t5 := HRL.out.below hb9; have t6 := HRW.out.below hb9; have t7 := HRC.out.below hb9
          clear HB HQ HRS HXB HRX HRL HRW HRC
          have HB := Lib.hid t0; have HQ := Lib.hid t1; have HRS := Lib.hid t2; have HXB := Lib.hid t3; have HRX := Lib.hid t4; have HRL := Lib.hid t5; have HRW := Lib.hid t6; have HRC := Lib.hid t7
          clear t0 t1 t2 t3 t4 t5 t6 t7
          have HRY2 := Lib.hid hrx
          clear hb9 hrx
          clear hcf hce
          (try go_wp2_with fail)
          (try clear hHeld)
          refine hK.out _ _ (by (try dsimp only); exact and10 (HXX.out _ HQ.out) (blk_xA HXB.out)) (fun hHeld => ?_)
          clear hK K
          (try simp only [Act.put, List.setIfInBounds_toArray, List.set_cons_zero, List.set_cons_succ])
          refine wpAnyL_ready (rs := [8]) (by kernel_rfl) (by simp) ?_
          refine AllReadyL.cons (o := ?o8x43) ?hi8x43 (fun K hK => ?_) AllReadyL.nil
          (case hi8x43 => (simp only [List.getElem?_toArray, List.getElem?_cons_succ, List.getElem?_cons_zero]; exact rfl))
          go_simp
          go_at_call 39
          refine (Fill_3 (x := X) HRL.out HRW.out HRC.out HRY2.out HCV.out HCI.out HOK.out HWO.out HCO.out HFT.out).mono ?_
          rintro e w1 ⟨RA, cR, N, B, FV, rfl, hcr, hrr, hff, hb9⟩
          have t0 := below_tr HB.out hb9; have t1 := below_tr HQ.out hb9; have t2 := HRS.out.below hb9; have t3 := HXB.out.below hb9 HXB.out.lt; have t4 := HRX.out.below hb9; have t5 := HRL.out.below hb9; have t6 := HRW.out.below hb9; have t7 := HRC.out.below hb9; have t8 := HRY2.out.below hb9
          clear HB HQ HRS HXB HRX HRL HRW HRC HRY2
          have HB := Lib.hid t0; have HQ := Lib.hid t1; have HRS := Lib.hid t2; have HXB := Lib.hid t3; have HRX := Lib.hid t4; have HRL := Lib.hid t5; have HRW := Lib.hid t6; have HRC := Lib.hid t7; have HRY2 := Lib.hid t8
          clear t0 t1 t2 t3 t4 t5 t6 t7 t8
          have HRR := Lib.hid hrr
          have HCR := Lib.hid hcr
          have HFF := Lib.hid hff
          clear hb9 hrr hcr hff
          clear HRL HRW HRC HRY2 HCV HCI HCW HCC
          (try go_wp2_with fail)
          (try clear hHeld)
          refine hK.out _ _ (by (try dsimp only); exact and10 (HXX.out _ HQ.out) (blk_xA HXB.out)) (fun hHeld => ?_)
          clear hK K
          (try simp only [Act.put, List.setIfInBounds_toArray, List.set_cons_zero, List.set_cons_succ])
          (refine wpAnyL_take (n := 0) (i := 9) (oi := ?ox44) (v := ?vx44) ?hix44 ?k1x44 ?k2x44 ?k3x44 ?k4x44 ?k5x44 ?k6x44 ?hQx44 ?hYx44 ?hSx44 ?restx44; (case hix44 => (simp only [List.getElem?_toArray, List.getElem?_cons_succ, List.getElem?_cons_zero]; exact rfl)); (case k1x44 => kernel_rfl); (case k2x44 => kernel_rfl); (case k3x44 => kernel_rfl); (case k4x44 => kernel_rfl); (case k5x44 => kernel_rfl); (case k6x44 => kernel_rfl); (case hSx44 => assumption); (case hYx44 => (refine Or.inl ⟨rfl, ?hyx44⟩; intro w hSw; (try dsimp only at hSw); go_simp; (try with_reducible rfl))); (case hQx44 => exact (fun _ _ _ h => h)); (try simp only [Act.put, List.setIfInBounds_toArray, List.set_cons_zero, List.set_cons_succ]))
          (refine wpAnyL_take (n := 0) (i := 10) (oi := ?ox45) (v := ?vx45) ?hix45 ?k1x45 ?k2x45 ?k3x45 ?k4x45 ?k5x45 ?k6x45 ?hQx45 ?hYx45 ?hSx45 ?restx45; (case hix45 => (simp only [List.getElem?_toArray, List.getElem?_cons_succ, List.getElem?_cons_zero]; exact rfl)); (case k1x45 => kernel_rfl); (case k2x45 => kernel_rfl); (case k3x45 => kernel_rfl); (case k4x45 => kernel_rfl); (case k5x45 => kernel_rfl); (case k6x45 => kernel_rfl); (case hSx45 => assumption); (case hYx45 => (refine Or.inl ⟨rfl, ?hyx45⟩; intro w hSw; (try dsimp only at hSw); go_simp; (try with_reducible rfl))); (case hQx45 => exact (fun _ _ _ h => h)); (try simp only [Act.put, List.setIfInBounds_toArray, List.set_cons_zero, List.set_cons_succ]))
          (refine wpAnyL_take (n := 0) (i := 11) (oi := ?ox46) (v := ?vx46) ?hix46 ?k1x46 ?k2x46 ?k3x46 ?k4x46 ?k5x46 ?k6x46 ?hQx46 ?hYx46 ?hSx46 ?restx46; (case hix46 => (simp only [List.getElem?_toArray, List.getElem?_cons_succ, List.getElem?_cons_zero]; exact rfl)); (case k1x46 => kernel_rfl); (case k2x46 => kernel_rfl); (case k3x46 => kernel_rfl); (case k4x46 => kernel_rfl); (case k5x46 => kernel_rfl); (case k6x46 => kernel_rfl); (case hSx46 => assumption); (case hYx46 => (refine Or.inl ⟨rfl, ?hyx46⟩; intro w hSw; (try dsimp only at hSw); go_simp; (try with_reducible rfl))); (case hQx46 => exact (fun _ _ _ h => h)); (try simp only [Act.put, List.setIfInBounds_toArray, List.set_cons_zero, List.set_cons_succ]))
          (refine wpAnyL_take (n := 0) (i := 12) (oi := ?ox47) (v := ?vx47) ?hix47 ?k1x47 ?k2x47 ?k3x47 ?k4x47 ?k5x47 ?k6x47 ?hQx47 ?hYx47 ?hSx47 ?restx47; (case hix47 => (simp only [List.getElem?_toArray, List.getElem?_cons_succ, List.getElem?_cons_zero]; exact rfl)); (case k1x47 => kernel_rfl); (case k2x47 => kernel_rfl); (case k3x47 => kernel_rfl); (case k4x47 => kernel_rfl); (case k5x47 => kernel_rfl); (case k6x47 => kernel_rfl); (case hSx47 => assumption); (case hYx47 => (refine Or.inl ⟨rfl, ?hyx47⟩; intro w hSw; (try dsimp only at hSw); go_simp; (try with_reducible rfl))); (case hQx47 => exact (fun _ _ _ h => h)); (try simp only [Act.put, List.setIfInBounds_toArray, List.set_cons_zero, List.set_cons_succ]))
          (refine wpAnyL_take (n := 0) (i := 13) (oi := ?ox48) (v := ?vx48) ?hix48 ?k1x48 ?k2x48 ?k3x48 ?k4x48 ?k5x48 ?k6x48 ?hQx48 ?hYx48 ?hSx48 ?restx48; (case hix48 => (simp only [List.getElem?_toArray, List.getElem?_cons_succ, List.getElem?_cons_zero]; exact rfl)); (case k1x48 => kernel_rfl); (case k2x48 => kernel_rfl); (case k3x48 => kernel_rfl); (case k4x48 => kernel_rfl); (case k5x48 => kernel_rfl); (case k6x48 => kernel_rfl); (case hSx48 => assumption); (case hYx48 => (refine Or.inl ⟨rfl, ?hyx48⟩; intro w hSw; (try dsimp only at hSw); go_simp; (try with_reducible rfl))); (case hQx48 => exact (fun _ _ _ h => h)); (try simp only [Act.put, List.setIfInBounds_toArray, List.set_cons_zero, List.set_cons_succ]))
          (refine wpAnyL_take (n := 0) (i := 14) (oi := ?ox49) (v := ?vx49) ?hix49 ?k1x49 ?k2x49 ?k3x49 ?k4x49 ?k5x49 ?k6x49 ?hQx49 ?hYx49 ?hSx49 ?restx49; (case hix49 => (simp only [List.getElem?_toArray, List.getElem?_cons_succ, List.getElem?_cons_zero]; exact rfl)); (case k1x49 => kernel_rfl); (case k2x49 => kernel_rfl); (case k3x49 => kernel_rfl); (case k4x49 => kernel_rfl); (case k5x49 => kernel_rfl); (case k6x49 => kernel_rfl); (case hSx49 => assumption); (case hYx49 => (refine Or.inl ⟨rfl, ?hyx49⟩; intro w hSw; (try dsimp only at hSw); go_simp; (try with_reducible rfl))); (case hQx49 => exact (fun _ _ _ h => h)); (try simp only [Act.put, List.setIfInBounds_toArray, List.set_cons_zero, List.set_cons_succ]))
          (refine wpAnyL_take (n := 0) (i := 15) (oi := ?ox50) (v := ?vx50) ?hix50 ?k1x50 ?k2x50 ?k3x50 ?k4x50 ?k5x50 ?k6x50 ?hQx50 ?hYx50 ?hSx50 ?restx50; (case hix50 => (simp only [List.getElem?_toArray, List.getElem?_cons_succ, List.getElem?_cons_zero]; exact rfl)); (case k1x50 => kernel_rfl); (case k2x50 => kernel_rfl); (case k3x50 => kernel_rfl); (case k4x50 => kernel_rfl); (case k5x50 => kernel_rfl); (case k6x50 => kernel_rfl); (case hSx50 => assumption); (case hYx50 => (refine Or.inl ⟨rfl, ?hyx50⟩; intro w hSw; (try dsimp only at hSw); go_simp; (try with_reducible rfl))); (case hQx50 => exact (fun _ _ _ h => h)); (try simp only [Act.put, List.setIfInBounds_toArray, List.set_cons_zero, List.set_cons_succ]))
          (refine wpAnyL_done (by kernel_rfl) ?_ _)
          obtain ⟨hN, hBB, hFV⟩ := HFF.out
          have hBf : B = brkF (aftL l (netL l ws c)) := by rw [← hBB]; exact HWF.out
          have hB1 : -1 ≤ B := by rw [← hBB]; exact fillB_ge l ws c X
          have HOR := Lib.hid (show (F3 = 7 ∧ B = -1) ∨ (F3 = 0 ∧ F1 = B) from by
            rcases HBR.out with ⟨g1, g2⟩ | ⟨g1, g2⟩
            · exact .inl ⟨by simpa using congrArg (·.2.2) g2, by omega⟩
            · exact .inr ⟨by simpa using congrArg (·.2.2) g2, by rw [hBf]; simpa using congrArg (·.1) g2⟩)
          clear hN hBB hFV hBf hB1 HFF HBR
          go_upto_region 13 with fail
          go_cut [141] (fun v wx => v = .bool false ∧ wx = w1)
          case first =>
            rcases HOR.out with ⟨rfl, rfl⟩ | ⟨rfl, rfl⟩
            · go_wp2_with fail
              go_meet
              exact ⟨rfl, rfl⟩
            · go_wp2_with fail
              go_meet
              exact ⟨rfl, rfl⟩
          case rest =>
            obtain ⟨rfl, rfl⟩ := hcut
            clear HOR
            obtain ⟨x0, x1, x2, x3, x4, x5, x6, x7, x8, x9⟩ := HXX.out _ HQ.out
            obtain ⟨bs, os, st, hSA, hbs, hst, s0, s1, s2, s3⟩ := (HRS.out).atT hkn
            subst hSA
            have hkn' : (k : Int) < (nI : Int) := by omega
            have hk0 : (0 : Int) ≤ (k : Int) := by omega
            have hm1 : at_.tmod (nI : Int) = (k : Int) := by rw [HK.out]; exact Int.tmod_eq_emod_of_nonneg hat.1
            have hm2 : at_ % (nI : Int) = (k : Int) := HK.out.symm
            go_upto_region 16 with fail
            clear hm1 hm2
            obtain ⟨sh, sl, si, sv⟩ := st
            simp only at s0 s1 s2 s3
            clear s3
            cases sh
            · clear s1 s2 hst
              clear x0 x1 x2 x3 x4 x5 x6 x7 x8 x9
              go_wp2_with fail
              go_wp2_with fail
              go_at_call 18
              refine (HAW.out _).mono ?_
              rintro e w1 ⟨rfl, hb9⟩
              have t0 := below_tr HB.out hb9
              clear HB
              have HB := Lib.hid t0
              clear t0
              clear hb9 
              go_wp2_with fail
              go_ret
              exact ⟨rfl, HB.out⟩
            · have hgl := stt_goal HOK.out hst rfl
              simp only at hgl
              obtain ⟨G, hG, hGR⟩ : ∃ G, G = (if low then sl else si) ∧ Rch l (netL l ws c) l.soft.2 (k + 1) G := by
                cases low
                · exact ⟨_, rfl, hgl.2⟩
                · exact ⟨_, rfl, hgl.1⟩
              have HGG := Lib.hid hG; have HGR := Lib.hid hGR
              clear hgl hst hG hGR
              go_upto_if 160 with (fail)
              go_cut [22] (fun v wx => v = .int .i64 G ∧ wx = wc)
              case first =>
                cases low
                all_goals
                  go_wp2_with fail
                  go_meet
                  exact ⟨by rw [HGG.out]; rfl, rfl⟩
              case rest =>
                obtain ⟨rfl, rfl⟩ := hcut
                go_wp2_with fail
                go_at_call 48
                refine (back_c (HL.out.below HB.out) (HW.out.below HB.out) (HC.out.below HB.out) HRS.out HOK.out HWO.out HCO.out hkn HGR.out).mono ?_
                rintro e w1 ⟨FA2, cF2, SA2, cS2, X2, rfl, hrx, hc1, hc2, hft2, hv2, hb2, hb9⟩
                have t0 := below_tr HB.out hb9; have t1 := below_tr HQ.out hb9; have t2 := HRS.out.below hb9
                clear HB HQ HRS
                have HB := Lib.hid t0; have HQ := Lib.hid t1; have HRS := Lib.hid t2
                clear t0 t1 t2
                have HRX2 := Lib.hid hrx
                have HFT2 := Lib.hid hft2
                have HV2 := Lib.hid hv2
                have HB2 := Lib.hid hb2
                clear hb9 hrx hft2 hv2 hb2
                clear s0 s1 s2
                go_upto_region 24 with fail
                clear x0 x1 x2 x3 x4 x5 x6 x7 x8 x9
                have hal := (Below.refl w1.heap.size w1).alloc (Nat.le_refl _) (.cells (xA FA2 nI cF2 SA2 nI cS2 X2) 75)
                have hn2 := Blk.new w1 75 (xA FA2 nI cF2 SA2 nI cS2 X2)
                have t0 := below_tr HB.out hal; have t1 := below_tr HQ.out hal; have t2 := HRS.out.below hal; have t3 := HRX2.out.below hal
                clear HB HQ HRS HRX2
                have HB := Lib.hid t0; have HQ := Lib.hid t1; have HRS := Lib.hid t2; have HRX2 := Lib.hid t3
                clear t0 t1 t2 t3
                have HXB2 := Lib.hid hn2
                clear hal hn2
                rw [show #[Value.slice FA2 nI cF2, Value.slice SA2 nI cS2, Value.int IntKind.i64 X2.start, Value.int IntKind.i64 X2.soft] = xA FA2 nI cF2 SA2 nI cS2 X2 from rfl]
                revert HB HQ HRS HRX2 HXB2
                generalize hg2 : w1.heap.size = g2
                generalize (World.alloc w1 (.cells (xA FA2 nI cF2 SA2 nI cS2 X2) 75)) = w1
                intro HB HQ HRS HRX2 HXB2
                clear hg2
                refine wp_region_till [] (fun U => U.cell? ⟨w.heap.size, 0, none⟩ = some (.slice VA nV cV) ∧ U.cell? ⟨w.heap.size, 1, none⟩ = some (.int .i64 l.crest) ∧ U.cell? ⟨w.heap.size, 2, none⟩ = some (.int .i64 l.weak) ∧ U.cell? ⟨w.heap.size, 3, none⟩ = some (.int .i64 l.soft.1) ∧ U.cell? ⟨w.heap.size, 4, none⟩ = some (.int .i64 l.soft.2) ∧ U.cell? ⟨w.heap.size, 5, none⟩ = some (.int .i64 l.start.1) ∧ U.cell? ⟨w.heap.size, 6, none⟩ = some (.int .i64 l.start.2) ∧ U.cell? ⟨w.heap.size, 7, none⟩ = some (.int .i64 l.seep.1) ∧ U.cell? ⟨w.heap.size, 8, none⟩ = some (.int .i64 l.seep.2) ∧ U.cell? ⟨w.heap.size, 9, none⟩ = some (.slice IA nI cI) ∧ U.cell? ⟨g2, 0, none⟩ = some (.slice FA2 nI cF2) ∧ U.cell? ⟨g2, 1, none⟩ = some (.slice SA2 nI cS2) ∧ U.cell? ⟨g2, 2, none⟩ = some (.int .i64 X2.start) ∧ U.cell? ⟨g2, 3, none⟩ = some (.int .i64 X2.soft)) (by kernel_rfl) (by exact and10 (HXX.out _ HQ.out.drew) (blk_xA (show Blk w1.drew g2 _ _ from HXB2.out))) (fun hHeld => ?_)
                have hb9 := (Below.refl w1.heap.size w1).drew
                have t0 := below_tr HB.out hb9; have t1 := below_tr HQ.out hb9; have t2 := HRS.out.below hb9; have t3 := HRX2.out.below hb9; have t4 := HXB2.out.below hb9 HXB2.out.lt
                clear HB HQ HRS HRX2 HXB2
                have HB := Lib.hid t0; have HQ := Lib.hid t1; have HRS := Lib.hid t2; have HRX2 := Lib.hid t3; have HXB2 := Lib.hid t4
                clear t0 t1 t2 t3 t4
                clear hb9
                revert hHeld HB HQ HRS HRX2 HXB2
                generalize w1.drew = w0
                intro hHeld HB HQ HRS HRX2 HXB2
                (refine wpAnyL_take (n := 0) (i := 0) (oi := ?ox51) (v := ?vx51) ?hix51 ?k1x51 ?k2x51 ?k3x51 ?k4x51 ?k5x51 ?k6x51 ?hQx51 ?hYx51 ?hSx51 ?restx51; (case hix51 => (simp only [List.getElem?_toArray, List.getElem?_cons_succ, List.getElem?_cons_zero]; exact rfl)); (case k1x51 => kernel_rfl); (case k2x51 => kernel_rfl); (case k3x51 => kernel_rfl); (case k4x51 => kernel_rfl); (case k5x51 => kernel_rfl); (case k6x51 => kernel_rfl); (case hSx51 => assumption); (case hYx51 => (refine Or.inl ⟨rfl, ?hyx51⟩; intro w hSw; (try dsimp only at hSw); go_simp; (try with_reducible rfl))); (case hQx51 => exact (fun _ _ _ h => h)); (try simp only [Act.put, List.setIfInBounds_toArray, List.set_cons_zero, List.set_cons_succ]))
                (refine wpAnyL_take (n := 0) (i := 2) (oi := ?ox52) (v := ?vx52) ?hix52 ?k1x52 ?k2x52 ?k3x52 ?k4x52 ?k5x52 ?k6x52 ?hQx52 ?hYx52 ?hSx52 ?restx52; (case hix52 => (simp only [List.getElem?_toArray, List.getElem?_cons_succ, List.getElem?_cons_zero]; exact rfl)); (case k1x52 => kernel_rfl); (case k2x52 => kernel_rfl); (case k3x52 => kernel_rfl); (case k4x52 => kernel_rfl); (case k5x52 => kernel_rfl); (case k6x52 => kernel_rfl); (case hSx52 => assumption); (case hYx52 => (refine Or.inl ⟨rfl, ?hyx52⟩; intro w hSw; (try dsimp only at hSw); go_simp; (try with_reducible rfl))); (case hQx52 => exact (fun _ _ _ h => h)); (try simp only [Act.put, List.setIfInBounds_toArray, List.set_cons_zero, List.set_cons_succ]))
                (refine wpAnyL_take (n := 0) (i := 4) (oi := ?ox53) (v := ?vx53) ?hix53 ?k1x53 ?k2x53 ?k3x53 ?k4x53 ?k5x53 ?k6x53 ?hQx53 ?hYx53 ?hSx53 ?restx53; (case hix53 => (simp only [List.getElem?_toArray, List.getElem?_cons_succ, List.getElem?_cons_zero]; exact rfl)); (case k1x53 => kernel_rfl); (case k2x53 => kernel_rfl); (case k3x53 => kernel_rfl); (case k4x53 => kernel_rfl); (case k5x53 => kernel_rfl); (case k6x53 => kernel_rfl); (case hSx53 => assumption); (case hYx53 => (refine Or.inl ⟨rfl, ?hyx53⟩; intro w hSw; (try dsimp only at hSw); go_simp; (try with_reducible rfl))); (case hQx53 => exact (fun _ _ _ h => h)); (try simp only [Act.put, List.setIfInBounds_toArray, List.set_cons_zero, List.set_cons_succ]))
                (refine wpAnyL_take (n := 0) (i := 6) (oi := ?ox54) (v := ?vx54) ?hix54 ?k1x54 ?k2x54 ?k3x54 ?k4x54 ?k5x54 ?k6x54 ?hQx54 ?hYx54 ?hSx54 ?restx54; (case hix54 => (simp only [List.getElem?_toArray, List.getElem?_cons_succ, List.getElem?_cons_zero]; exact rfl)); (case k1x54 => kernel_rfl); (case k2x54 => kernel_rfl); (case k3x54 => kernel_rfl); (case k4x54 => kernel_rfl); (case k5x54 => kernel_rfl); (case k6x54 => kernel_rfl); (case hSx54 => assumption); (case hYx54 => (refine Or.inl ⟨rfl, ?hyx54⟩; intro w hSw; (try dsimp only at hSw); go_simp; (try with_reducible rfl))); (case hQx54 => exact (fun _ _ _ h => h)); (try simp only [Act.put, List.setIfInBounds_toArray, List.set_cons_zero, List.set_cons_succ]))
                refine wpAnyL_ready (rs := [1]) (by kernel_rfl) (by simp) ?_
                refine AllReadyL.cons (o := ?o1x55) ?hi1x55 (fun K hK => ?_) AllReadyL.nil
                (case hi1x55 => (simp only [List.getElem?_toArray, List.getElem?_cons_succ, List.getElem?_cons_zero]; exact rfl))
                go_simp
                go_at_call 20
                refine (HLK.out _ HB.out).mono ?_
                rintro e w1 ⟨VA', cV', IA', cI', rfl, hcv, hci, hrl, hb9⟩
                have t0 := below_tr HB.out hb9; have t1 := below_tr HQ.out hb9; have t2 := HRS.out.below hb9; have t3 := HRX2.out.below hb9; have t4 := HXB2.out.below hb9 HXB2.out.lt
                clear HB HQ HRS HRX2 HXB2
                have HB := Lib.hid t0; have HQ := Lib.hid t1; have HRS := Lib.hid t2; have HRX2 := Lib.hid t3; have HXB2 := Lib.hid t4
                clear t0 t1 t2 t3 t4
                have HRL := Lib.hid hrl
                have HCV := Lib.hid hcv
                have HCI := Lib.hid hci
                clear hb9 hrl hcv hci
                (try go_wp2_with fail)
                (try clear hHeld)
                refine hK.out _ _ (by (try dsimp only); exact and10 (HXX.out _ HQ.out) (blk_xA HXB2.out)) (fun hHeld => ?_)
                clear hK K
                (try simp only [Act.put, List.setIfInBounds_toArray, List.set_cons_zero, List.set_cons_succ])
                refine wpAnyL_ready (rs := [3]) (by kernel_rfl) (by simp) ?_
                refine AllReadyL.cons (o := ?o3x56) ?hi3x56 (fun K hK => ?_) AllReadyL.nil
                (case hi3x56 => (simp only [List.getElem?_toArray, List.getElem?_cons_succ, List.getElem?_cons_zero]; exact rfl))
                go_simp
                go_at_call 21
                refine (HWK.out _ HB.out).mono ?_
                rintro e w1 ⟨WA', cW', rfl, hcw, hrw, hb9⟩
                have t0 := below_tr HB.out hb9; have t1 := below_tr HQ.out hb9; have t2 := HRS.out.below hb9; have t3 := HRX2.out.below hb9; have t4 := HXB2.out.below hb9 HXB2.out.lt; have t5 := HRL.out.below hb9
                clear HB HQ HRS HRX2 HXB2 HRL
                have HB := Lib.hid t0; have HQ := Lib.hid t1; have HRS := Lib.hid t2; have HRX2 := Lib.hid t3; have HXB2 := Lib.hid t4; have HRL := Lib.hid t5
                clear t0 t1 t2 t3 t4 t5
                have HRW := Lib.hid hrw
                have HCW := Lib.hid hcw
                clear hb9 hrw hcw
                (try go_wp2_with fail)
                (try clear hHeld)
                refine hK.out _ _ (by (try dsimp only); exact and10 (HXX.out _ HQ.out) (blk_xA HXB2.out)) (fun hHeld => ?_)
                clear hK K
                (try simp only [Act.put, List.setIfInBounds_toArray, List.set_cons_zero, List.set_cons_succ])
                refine wpAnyL_ready (rs := [5]) (by kernel_rfl) (by simp) ?_
                refine AllReadyL.cons (o := ?o5x57) ?hi5x57 (fun K hK => ?_) AllReadyL.nil
                (case hi5x57 => (simp only [List.getElem?_toArray, List.getElem?_cons_succ, List.getElem?_cons_zero]; exact rfl))
                go_simp
                go_at_call 27
                refine (HLI.out _ HB.out).mono ?_
                rintro e w1 ⟨CA', cC', rfl, hcc, hrc, hb9⟩
                have t0 := below_tr HB.out hb9; have t1 := below_tr HQ.out hb9; have t2 := HRS.out.below hb9; have t3 := HRX2.out.below hb9; have t4 := HXB2.out.below hb9 HXB2.out.lt; have t5 := HRL.out.below hb9; have t6 := HRW.out.below hb9
                clear HB HQ HRS HRX2 HXB2 HRL HRW
                have HB := Lib.hid t0; have HQ := Lib.hid t1; have HRS := Lib.hid t2; have HRX2 := Lib.hid t3; have HXB2 := Lib.hid t4; have HRL := Lib.hid t5; have HRW := Lib.hid t6
                clear t0 t1 t2 t3 t4 t5 t6
                have HRC := Lib.hid hrc
                have HCC := Lib.hid hcc
                clear hb9 hrc hcc
                (try go_wp2_with fail)
                (try clear hHeld)
                refine hK.out _ _ (by (try dsimp only); exact and10 (HXX.out _ HQ.out) (blk_xA HXB2.out)) (fun hHeld => ?_)
                clear hK K
                (try simp only [Act.put, List.setIfInBounds_toArray, List.set_cons_zero, List.set_cons_succ])
                refine wpAnyL_ready (rs := [7]) (by kernel_rfl) (by simp) ?_
                refine AllReadyL.cons (o := ?o7x58) ?hi7x58 (fun K hK => ?_) AllReadyL.nil
                (case hi7x58 => (simp only [List.getElem?_toArray, List.getElem?_cons_succ, List.getElem?_cons_zero]; exact rfl))
                go_simp
                go_at_call 40
                refine (Real_c (x := X2) HRX2.out (by omega) (by omega)).mono ?_
                rintro e w1 ⟨FA', cF', EA', cE', rfl, hrx, hcf, hce, hb9⟩
                have t0 := below_tr HB.out hb9; have t1 := below_tr HQ.out hb9; have t2 := HRS.out.below hb9; have t3 := HRX2.out.below hb9; have t4 := HXB2.out.below hb9 HXB2.out.lt; have t5 := HRL.out.below hb9; have t6 := HRW.out.below hb9; have t7 := HRC.out.below hb9
                clear HB HQ HRS HRX2 HXB2 HRL HRW HRC
                have HB := Lib.hid t0; have HQ := Lib.hid t1; have HRS := Lib.hid t2; have HRX2 := Lib.hid t3; have HXB2 := Lib.hid t4; have HRL := Lib.hid t5; have HRW := Lib.hid t6; have HRC := Lib.hid t7
                clear t0 t1 t2 t3 t4 t5 t6 t7
                have HRY2 := Lib.hid hrx
                clear hb9 hrx
                clear hcf hce
                (try go_wp2_with fail)
                (try clear hHeld)
                refine hK.out _ _ (by (try dsimp only); exact and10 (HXX.out _ HQ.out) (blk_xA HXB2.out)) (fun hHeld => ?_)
                clear hK K
                (try simp only [Act.put, List.setIfInBounds_toArray, List.set_cons_zero, List.set_cons_succ])
                refine wpAnyL_ready (rs := [8]) (by kernel_rfl) (by simp) ?_
                refine AllReadyL.cons (o := ?o8x59) ?hi8x59 (fun K hK => ?_) AllReadyL.nil
                (case hi8x59 => (simp only [List.getElem?_toArray, List.getElem?_cons_succ, List.getElem?_cons_zero]; exact rfl))
                go_simp
                go_at_call 39
                refine (Fill_3 (x := X2) HRL.out HRW.out HRC.out HRY2.out HCV.out HCI.out HOK.out HWO.out HCO.out HFT2.out).mono ?_
                rintro e w1 ⟨RA, cR, N, B2, FV, rfl, hcr, hrr, hff, hb9⟩
                have t0 := below_tr HB.out hb9; have t1 := below_tr HQ.out hb9; have t2 := HRS.out.below hb9; have t3 := HRX2.out.below hb9; have t4 := HXB2.out.below hb9 HXB2.out.lt; have t5 := HRL.out.below hb9; have t6 := HRW.out.below hb9; have t7 := HRC.out.below hb9; have t8 := HRY2.out.below hb9
                clear HB HQ HRS HRX2 HXB2 HRL HRW HRC HRY2
                have HB := Lib.hid t0; have HQ := Lib.hid t1; have HRS := Lib.hid t2; have HRX2 := Lib.hid t3; have HXB2 := Lib.hid t4; have HRL := Lib.hid t5; have HRW := Lib.hid t6; have HRC := Lib.hid t7; have HRY2 := Lib.hid t8
                clear t0 t1 t2 t3 t4 t5 t6 t7 t8
                (try clear HRR)
                have HRR := Lib.hid hrr
                (try clear HCR)
                have HCR := Lib.hid hcr
                have HFF := Lib.hid hff
                clear hb9 hrr hcr hff
                clear HRL HRW HRC HRY2 HCV HCI HCW HCC
                (try go_wp2_with fail)
                (try clear hHeld)
                refine hK.out _ _ (by (try dsimp only); exact and10 (HXX.out _ HQ.out) (blk_xA HXB2.out)) (fun hHeld => ?_)
                clear hK K
                (try simp only [Act.put, List.setIfInBounds_toArray, List.set_cons_zero, List.set_cons_succ])
                (refine wpAnyL_take (n := 0) (i := 9) (oi := ?ox60) (v := ?vx60) ?hix60 ?k1x60 ?k2x60 ?k3x60 ?k4x60 ?k5x60 ?k6x60 ?hQx60 ?hYx60 ?hSx60 ?restx60; (case hix60 => (simp only [List.getElem?_toArray, List.getElem?_cons_succ, List.getElem?_cons_zero]; exact rfl)); (case k1x60 => kernel_rfl); (case k2x60 => kernel_rfl); (case k3x60 => kernel_rfl); (case k4x60 => kernel_rfl); (case k5x60 => kernel_rfl); (case k6x60 => kernel_rfl); (case hSx60 => assumption); (case hYx60 => (refine Or.inl ⟨rfl, ?hyx60⟩; intro w hSw; (try dsimp only at hSw); go_simp; (try with_reducible rfl))); (case hQx60 => exact (fun _ _ _ h => h)); (try simp only [Act.put, List.setIfInBounds_toArray, List.set_cons_zero, List.set_cons_succ]))
                (refine wpAnyL_take (n := 0) (i := 10) (oi := ?ox61) (v := ?vx61) ?hix61 ?k1x61 ?k2x61 ?k3x61 ?k4x61 ?k5x61 ?k6x61 ?hQx61 ?hYx61 ?hSx61 ?restx61; (case hix61 => (simp only [List.getElem?_toArray, List.getElem?_cons_succ, List.getElem?_cons_zero]; exact rfl)); (case k1x61 => kernel_rfl); (case k2x61 => kernel_rfl); (case k3x61 => kernel_rfl); (case k4x61 => kernel_rfl); (case k5x61 => kernel_rfl); (case k6x61 => kernel_rfl); (case hSx61 => assumption); (case hYx61 => (refine Or.inl ⟨rfl, ?hyx61⟩; intro w hSw; (try dsimp only at hSw); go_simp; (try with_reducible rfl))); (case hQx61 => exact (fun _ _ _ h => h)); (try simp only [Act.put, List.setIfInBounds_toArray, List.set_cons_zero, List.set_cons_succ]))
                (refine wpAnyL_take (n := 0) (i := 11) (oi := ?ox62) (v := ?vx62) ?hix62 ?k1x62 ?k2x62 ?k3x62 ?k4x62 ?k5x62 ?k6x62 ?hQx62 ?hYx62 ?hSx62 ?restx62; (case hix62 => (simp only [List.getElem?_toArray, List.getElem?_cons_succ, List.getElem?_cons_zero]; exact rfl)); (case k1x62 => kernel_rfl); (case k2x62 => kernel_rfl); (case k3x62 => kernel_rfl); (case k4x62 => kernel_rfl); (case k5x62 => kernel_rfl); (case k6x62 => kernel_rfl); (case hSx62 => assumption); (case hYx62 => (refine Or.inl ⟨rfl, ?hyx62⟩; intro w hSw; (try dsimp only at hSw); go_simp; (try with_reducible rfl))); (case hQx62 => exact (fun _ _ _ h => h)); (try simp only [Act.put, List.setIfInBounds_toArray, List.set_cons_zero, List.set_cons_succ]))
                (refine wpAnyL_take (n := 0) (i := 12) (oi := ?ox63) (v := ?vx63) ?hix63 ?k1x63 ?k2x63 ?k3x63 ?k4x63 ?k5x63 ?k6x63 ?hQx63 ?hYx63 ?hSx63 ?restx63; (case hix63 => (simp only [List.getElem?_toArray, List.getElem?_cons_succ, List.getElem?_cons_zero]; exact rfl)); (case k1x63 => kernel_rfl); (case k2x63 => kernel_rfl); (case k3x63 => kernel_rfl); (case k4x63 => kernel_rfl); (case k5x63 => kernel_rfl); (case k6x63 => kernel_rfl); (case hSx63 => assumption); (case hYx63 => (refine Or.inl ⟨rfl, ?hyx63⟩; intro w hSw; (try dsimp only at hSw); go_simp; (try with_reducible rfl))); (case hQx63 => exact (fun _ _ _ h => h)); (try simp only [Act.put, List.setIfInBounds_toArray, List.set_cons_zero, List.set_cons_succ]))
                (refine wpAnyL_take (n := 0) (i := 13) (oi := ?ox64) (v := ?vx64) ?hix64 ?k1x64 ?k2x64 ?k3x64 ?k4x64 ?k5x64 ?k6x64 ?hQx64 ?hYx64 ?hSx64 ?restx64; (case hix64 => (simp only [List.getElem?_toArray, List.getElem?_cons_succ, List.getElem?_cons_zero]; exact rfl)); (case k1x64 => kernel_rfl); (case k2x64 => kernel_rfl); (case k3x64 => kernel_rfl); (case k4x64 => kernel_rfl); (case k5x64 => kernel_rfl); (case k6x64 => kernel_rfl); (case hSx64 => assumption); (case hYx64 => (refine Or.inl ⟨rfl, ?hyx64⟩; intro w hSw; (try dsimp only at hSw); go_simp; (try with_reducible rfl))); (case hQx64 => exact (fun _ _ _ h => h)); (try simp only [Act.put, List.setIfInBounds_toArray, List.set_cons_zero, List.set_cons_succ]))
                (refine wpAnyL_take (n := 0) (i := 14) (oi := ?ox65) (v := ?vx65) ?hix65 ?k1x65 ?k2x65 ?k3x65 ?k4x65 ?k5x65 ?k6x65 ?hQx65 ?hYx65 ?hSx65 ?restx65; (case hix65 => (simp only [List.getElem?_toArray, List.getElem?_cons_succ, List.getElem?_cons_zero]; exact rfl)); (case k1x65 => kernel_rfl); (case k2x65 => kernel_rfl); (case k3x65 => kernel_rfl); (case k4x65 => kernel_rfl); (case k5x65 => kernel_rfl); (case k6x65 => kernel_rfl); (case hSx65 => assumption); (case hYx65 => (refine Or.inl ⟨rfl, ?hyx65⟩; intro w hSw; (try dsimp only at hSw); go_simp; (try with_reducible rfl))); (case hQx65 => exact (fun _ _ _ h => h)); (try simp only [Act.put, List.setIfInBounds_toArray, List.set_cons_zero, List.set_cons_succ]))
                (refine wpAnyL_take (n := 0) (i := 15) (oi := ?ox66) (v := ?vx66) ?hix66 ?k1x66 ?k2x66 ?k3x66 ?k4x66 ?k5x66 ?k6x66 ?hQx66 ?hYx66 ?hSx66 ?restx66; (case hix66 => (simp only [List.getElem?_toArray, List.getElem?_cons_succ, List.getElem?_cons_zero]; exact rfl)); (case k1x66 => kernel_rfl); (case k2x66 => kernel_rfl); (case k3x66 => kernel_rfl); (case k4x66 => kernel_rfl); (case k5x66 => kernel_rfl); (case k6x66 => kernel_rfl); (case hSx66 => assumption); (case hYx66 => (refine Or.inl ⟨rfl, ?hyx66⟩; intro w hSw; (try dsimp only at hSw); go_simp; (try with_reducible rfl))); (case hQx66 => exact (fun _ _ _ h => h)); (try simp only [Act.put, List.setIfInBounds_toArray, List.set_cons_zero, List.set_cons_succ]))
                (refine wpAnyL_done (by kernel_rfl) ?_ _)
                have hef := ends_fill (l := l) (ws := ws) (c := c) (x := X2) (by have := HIL.out; omega) HV2.out HB2.out
                obtain ⟨hN, hBB, hFV⟩ := HFF.out
                rw [hN, hBB, hFV] at hef
                obtain ⟨e1, e2, e3⟩ := hef
                obtain ⟨bv, ov, v', hRA, hbv, hv, v0⟩ := HRR.out.at1 e1
                subst hRA
                rw [e2] at hv
                cases hv
                have hkN : (k : Int) < (N : Int) := by omega
                have HE3 := Lib.hid e3
                clear hN hBB hFV e1 e2 e3 HFF
                go_upto_region 25 with fail
                rcases HE3.out with h9 | h9
                · subst h9
                  go_wp2_with fail
                  go_at_call 18
                  refine (HAW.out _).mono ?_
                  rintro e w1 ⟨rfl, hb9⟩
                  have t0 := below_tr HB.out hb9
                  clear HB
                  have HB := Lib.hid t0
                  clear t0
                  clear hb9 
                  go_wp2_with fail
                  go_ret
                  exact ⟨rfl, HB.out⟩
                · have hB0 : ¬ B2 < 0 := by omega
                  go_wp2_with fail
                  go_at_call 18
                  refine (HAW.out _).mono ?_
                  rintro e w1 ⟨rfl, hb9⟩
                  have t0 := below_tr HB.out hb9
                  clear HB
                  have HB := Lib.hid t0
                  clear t0
                  clear hb9 
                  go_wp2_with fail
                  go_ret
                  exact ⟨rfl, HB.out⟩
end
end Go.Proofs.Ytpijmfbpdglchaa
