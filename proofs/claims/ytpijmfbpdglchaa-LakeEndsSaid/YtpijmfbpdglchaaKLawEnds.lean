/- THE WALK of LakeEnds. -/
import Derived.Test.YtpijmfbpdglchaaKReady
import Derived.Test.YtpijmfbpdglchaaKConv
import Derived.Test.YtpijmfbpdglchaaKAwake
import Derived.Test.YtpijmfbpdglchaaKValid
import Derived.Test.YtpijmfbpdglchaaKBack
import Derived.Test.YtpijmfbpdglchaaKReal
set_option linter.unusedVariables false
set_option linter.unusedSimpArgs false
namespace Go.Proofs.Ytpijmfbpdglchaa
open Go.RowKit Go.Proofs
attribute [local go_sem ↓] Go.wp_at_zero Go.wp_at_succ
theorem fillB_ge (l : Lak) (ws : List Wrk) (c : List Int) (x : Rel) : -1 ≤ fillB l ws c x := by
  unfold fillB
  rcases firstN_cases (brkB l ws c x) l.inflow.length with ⟨h1, _⟩ | ⟨k, _, h2, _⟩ <;> omega
section
variable {VA IA WA CA : Option Addr} {nV nI cV cI nW cW nC cC : Nat} {l : Lak} {ws : List Wrk} {c : List Int} {w : World}
set_option linter.unusedSimpArgs false in
set_option maxRecDepth 100000 in
set_option maxHeartbeats 8000000 in
theorem LakeEnds_w (h : RdL w VA nV IA nI l) (hw : Rd encW 3 w WA nW ws) (hc : Rd enc1 1 w CA nC c) {at_ : Int} (hat : 0 ≤ at_ ∧ at_ ≤ 255) {low : Bool} (hnV : nV ≤ maxLen) (hnI : nI ≤ maxLen) (hnW : nW ≤ maxLen) (hnC : nC ≤ maxLen) :
    Calls Try.prog 11 #[.agg (lA VA nV cV IA nI cI l), .slice WA nW cW, .slice CA nC cC, .int .u8 at_, .bool low] w fun e w' => e = .returned (.bool true) ∧ Below w.heap.size w w' := by
  have hb0 := (Below.refl w.heap.size w).alloc (Nat.le_refl _) (.cells (lA VA nV cV IA nI cI l) 27)
  have HB := Lib.hid hb0
  have HRY := Lib.hid (fun (U : World) (hU : Below w.heap.size w U) => ready_c (cV := cV) (cI := cI) (cW := cW) (cC := cC) (h.below hU) (hw.below hU) (hc.below hU) hnV hnI hnW hnC)
  have HXX := Lib.hid (fun U hU => lA_cells (VA := VA) (IA := IA) (nV := nV) (nI := nI) (cV := cV) (cI := cI) (l := l) w (U := U) hU)
  have HL := Lib.hid h; have HW := Lib.hid hw; have HC := Lib.hid hc
  have HAW := Lib.hid (fun (U : World) => awake_c U)
  have HQ := Lib.hid (Below.refl (w.alloc (.cells (lA VA nV cV IA nI cI l) 27)).heap.size (w.alloc (.cells (lA VA nV cV IA nI cI l) 27)))
  clear h hw hc hb0
  cases hr : readyB l ws c
  · rw [hr] at HRY
    go_enter Try.func11, Try.ntmps11
    go_wp2_with fail
    go_at_call 28
    refine (HRY.out _ HB.out).mono ?_
    rintro e w1 ⟨rfl, hb9⟩
    have t0 := below_tr HB.out hb9; have t1 := below_tr HQ.out hb9
    clear HB HQ
    have HB := Lib.hid t0; have HQ := Lib.hid t1
    clear t0 t1
    clear hb9 
    go_wp2_with fail
    go_at_call 18
    refine (HAW.out _).mono ?_
    rintro e w1 ⟨rfl, hb9⟩
    have t0 := below_tr HB.out hb9; have t1 := below_tr HQ.out hb9
    clear HB HQ
    have HB := Lib.hid t0; have HQ := Lib.hid t1
    clear t0 t1
    clear hb9 
    go_wp2_with fail
    go_ret
    exact ⟨rfl, HB.out⟩
  · rw [hr] at HRY
    obtain ⟨hth, hok, hwk, hcho⟩ := readyB_iff.1 hr
    have h30 := hok.n; have h60 := hok.h; have h10 := hwk.n
    have hvl := HL.out.vols.len; have hil := HL.out.infl.len; have hwl := HW.out.len; have hcl := HC.out.len
    have hclen := cho_len hcho
    by_cases hn0 : nI = 0
    · subst hn0
      clear hat
      go_enter Try.func11, Try.ntmps11
      go_wp2_with fail
      go_at_call 28
      refine (HRY.out _ HB.out).mono ?_
      rintro e w1 ⟨rfl, hb9⟩
      have t0 := below_tr HB.out hb9; have t1 := below_tr HQ.out hb9
      clear HB HQ
      have HB := Lib.hid t0; have HQ := Lib.hid t1
      clear t0 t1
      clear hb9 
      obtain ⟨x0, x1, x2, x3, x4, x5, x6, x7, x8, x9⟩ := HXX.out _ HQ.out
      go_wp2_with fail
      go_at_call 18
      refine (HAW.out _).mono ?_
      rintro e w1 ⟨rfl, hb9⟩
      have t0 := below_tr HB.out hb9; have t1 := below_tr HQ.out hb9
      clear HB HQ
      have HB := Lib.hid t0; have HQ := Lib.hid t1
      clear t0 t1
      clear hb9 
      go_wp2_with fail
      go_ret
      exact ⟨rfl, HB.out⟩
    · have HLK := Lib.hid (fun (U : World) (hU : Below w.heap.size w U) => LakeR_c (cV := cV) (cI := cI) (HL.out.below hU) (by omega) (by omega))
      have HWK := Lib.hid (fun (U : World) (hU : Below w.heap.size w U) => WorksR_c (c := cW) (HW.out.below hU) (by omega))
      have HLI := Lib.hid (fun (U : World) (hU : Below w.heap.size w U) => listR_c (c := cC) (HC.out.below hU) (by omega))
      have HOK := Lib.hid hok; have HWO := Lib.hid hwk; have HCO := Lib.hid hcho
      have HIL := Lib.hid hil
      have hnI60 : nI ≤ 60 := by omega
      have hnp : 0 < nI := by omega
      obtain ⟨F1, F2, F3, hF⟩ : ∃ F1 F2 F3, brkRes l ws c = (F1, F2, F3) := ⟨_, _, _, rfl⟩
      have hbr := brkRes_v hok hwk hcho
      rw [hF] at hbr
      have HBR := Lib.hid hbr; have HF := Lib.hid hF
      obtain ⟨k, hk⟩ : ∃ k : Nat, (k : Int) = at_ % (nI : Int) := ⟨(at_ % (nI : Int)).toNat, by have := Int.emod_nonneg at_ (show (nI : Int) ≠ 0 by omega); omega⟩
      have hkn : k < nI := by have := Int.emod_lt_of_pos at_ (show (0 : Int) < (nI : Int) by omega); omega
      have HK := Lib.hid hk
      have hz1 : ((nI : Int) == 0) = false := by simp; omega
      clear hbr hF hr hth hok hwk hcho h30 h60 h10 hvl hil hwl hcl hclen hnV hnI hnW hnC hn0 hk
      go_enter Try.func11, Try.ntmps11
      go_wp2_with fail
      go_at_call 28
      refine (HRY.out _ HB.out).mono ?_
      rintro e w1 ⟨rfl, hb9⟩
      have t0 := below_tr HB.out hb9; have t1 := below_tr HQ.out hb9
      clear HB HQ
      have HB := Lib.hid t0; have HQ := Lib.hid t1
      clear t0 t1
      clear hb9 
      obtain ⟨x0, x1, x2, x3, x4, x5, x6, x7, x8, x9⟩ := HXX.out _ HQ.out
      go_wp2_with fail
      go_at_call 20
      refine (HLK.out _ HB.out).mono ?_
      rintro e w1 ⟨VA', cV', IA', cI', rfl, hcv, hci, hrl, hb9⟩
      have t0 := below_tr HB.out hb9; have t1 := below_tr HQ.out hb9
      clear HB HQ
      have HB := Lib.hid t0; have HQ := Lib.hid t1
      clear t0 t1
      have HRL := Lib.hid hrl
      have HCV := Lib.hid hcv
      have HCI := Lib.hid hci
      clear hb9 hrl hcv hci
      clear x0 x1 x2 x3 x4 x5 x6 x7 x8 x9
      go_wp2_with fail
      go_at_call 21
      refine (HWK.out _ HB.out).mono ?_
      rintro e w1 ⟨WA', cW', rfl, hcw, hrw, hb9⟩
      have t0 := below_tr HB.out hb9; have t1 := below_tr HQ.out hb9; have t2 := HRL.out.below hb9
      clear HB HQ HRL
      have HB := Lib.hid t0; have HQ := Lib.hid t1; have HRL := Lib.hid t2
      clear t0 t1 t2
      have HRW := Lib.hid hrw
      have HCW := Lib.hid hcw
      clear hb9 hrw hcw
      go_wp2_with fail
      go_at_call 27
      refine (HLI.out _ HB.out).mono ?_
      rintro e w1 ⟨CA', cC', rfl, hcc, hrc, hb9⟩
      have t0 := below_tr HB.out hb9; have t1 := below_tr HQ.out hb9; have t2 := HRL.out.below hb9; have t3 := HRW.out.below hb9
      clear HB HQ HRL HRW
      have HB := Lib.hid t0; have HQ := Lib.hid t1; have HRL := Lib.hid t2; have HRW := Lib.hid t3
      clear t0 t1 t2 t3
      have HRC := Lib.hid hrc
      have HCC := Lib.hid hcc
      clear hb9 hrc hcc
      go_wp2_with fail
      go_at_call 32
      refine (Rise_v HRL.out HRW.out HRC.out HCV.out HCI.out HOK.out HWO.out HCO.out).mono ?_
      rintro e w1 ⟨SA, cS, rfl, hcs, hrs, hb9⟩
      have t0 := below_tr HB.out hb9; have t1 := below_tr HQ.out hb9; have t2 := HRL.out.below hb9; have t3 := HRW.out.below hb9; have t4 := HRC.out.below hb9
      clear HB HQ HRL HRW HRC
      have HB := Lib.hid t0; have HQ := Lib.hid t1; have HRL := Lib.hid t2; have HRW := Lib.hid t3; have HRC := Lib.hid t4
      clear t0 t1 t2 t3 t4
      have HRS := Lib.hid hrs
      have HCS := Lib.hid hcs
      clear hb9 hrs hcs
      clear HRL HRW HRC HCV HCI HCW HCC
      clear hz1
      obtain ⟨x0, x1, x2, x3, x4, x5, x6, x7, x8, x9⟩ := HXX.out _ HQ.out
      go_wp2_with fail
      go_at_call 20
      refine (HLK.out _ HB.out).mono ?_
      rintro e w1 ⟨VA', cV', IA', cI', rfl, hcv, hci, hrl, hb9⟩
      have t0 := below_tr HB.out hb9; have t1 := below_tr HQ.out hb9; have t2 := HRS.out.below hb9
      clear HB HQ HRS
      have HB := Lib.hid t0; have HQ := Lib.hid t1; have HRS := Lib.hid t2
      clear t0 t1 t2
      have HRL := Lib.hid hrl
      have HCV := Lib.hid hcv
      have HCI := Lib.hid hci
      clear hb9 hrl hcv hci
      clear x0 x1 x2 x3 x4 x5 x6 x7 x8 x9
      go_wp2_with fail
      go_at_call 21
      refine (HWK.out _ HB.out).mono ?_
      rintro e w1 ⟨WA', cW', rfl, hcw, hrw, hb9⟩
      have t0 := below_tr HB.out hb9; have t1 := below_tr HQ.out hb9; have t2 := HRS.out.below hb9; have t3 := HRL.out.below hb9
      clear HB HQ HRS HRL
      have HB := Lib.hid t0; have HQ := Lib.hid t1; have HRS := Lib.hid t2; have HRL := Lib.hid t3
      clear t0 t1 t2 t3
      have HRW := Lib.hid hrw
      have HCW := Lib.hid hcw
      clear hb9 hrw hcw
      go_wp2_with fail
      go_at_call 27
      refine (HLI.out _ HB.out).mono ?_
      rintro e w1 ⟨CA', cC', rfl, hcc, hrc, hb9⟩
      have t0 := below_tr HB.out hb9; have t1 := below_tr HQ.out hb9; have t2 := HRS.out.below hb9; have t3 := HRL.out.below hb9; have t4 := HRW.out.below hb9
      clear HB HQ HRS HRL HRW
      have HB := Lib.hid t0; have HQ := Lib.hid t1; have HRS := Lib.hid t2; have HRL := Lib.hid t3; have HRW := Lib.hid t4
      clear t0 t1 t2 t3 t4
      have HRC := Lib.hid hrc
      have HCC := Lib.hid hcc
      clear hb9 hrc hcc
      go_wp2_with fail
      go_at_call 33
      refine (Break_3 HF.out HRL.out HRW.out HRC.out HCV.out HCI.out HOK.out HWO.out HCO.out).mono ?_
      rintro e w1 ⟨rfl, hb9⟩
      have t0 := below_tr HB.out hb9; have t1 := below_tr HQ.out hb9; have t2 := HRS.out.below hb9; have t3 := HRL.out.below hb9; have t4 := HRW.out.below hb9; have t5 := HRC.out.below hb9
      clear HB HQ HRS HRL HRW HRC
      have HB := Lib.hid t0; have HQ := Lib.hid t1; have HRS := Lib.hid t2; have HRL := Lib.hid t3; have HRW := Lib.hid t4; have HRC := Lib.hid t5
      clear t0 t1 t2 t3 t4 t5
      clear hb9 
      clear HRL HRW HRC HCV HCI HCW HCC
      obtain ⟨x0, x1, x2, x3, x4, x5, x6, x7, x8, x9⟩ := HXX.out _ HQ.out
      go_upto_region 8 with fail
      clear x0 x1 x2 x3 x4 x5 x6 x7 x8 x9
      obtain ⟨V, hV⟩ : ∃ V, V = w1 := ⟨_, rfl⟩
      rw [← hV] at HB HQ HRS ⊢
      clear hV
      have hBN := Blk.new V 75 (xA none 0 0 none 0 0 ⟨[], [], l.start.2, l.soft.1⟩)
      have hBW := (Below.refl V.heap.size V).alloc (Nat.le_refl _) (.cells (xA none 0 0 none 0 0 ⟨[], [], l.start.2, l.soft.1⟩) 75)
      obtain ⟨i0, hi0, hz0, hz1, hz2⟩ := info_parts infoInt
      have HI := Lib.hid hi0; have HZ0 := Lib.hid hz0; have HZ1 := Lib.hid hz1; have HZ2 := Lib.hid hz2
      have HT := Lib.hid (show TwoR V.heap.size _ V.heap.size none 0 none 0 0 ⟨[], [], l.start.2, l.soft.1⟩ from ⟨hBN, World.ownsRow_nil _ _ _ _, World.ownsRow_nil _ _ _ _, Apart.none _ _ _⟩)
      have HBC := Lib.hid hBW
      obtain ⟨g, hgW⟩ : ∃ g, g = V.heap.size := ⟨_, rfl⟩
      have HGW := Lib.hid hgW
      clear hBN hBW hi0 hz0 hz1 hz2
      rw [show #[Value.slice none 0 0, Value.slice none 0 0, Value.int IntKind.i64 l.start.2, Value.int IntKind.i64 l.soft.1] = xA none 0 0 none 0 0 ⟨[], [], l.start.2, l.soft.1⟩ from rfl]
      revert HT HBC
      generalize (V.alloc (Obj.cells (xA none 0 0 none 0 0 ⟨[], [], l.start.2, l.soft.1⟩) 75)) = W2
      intro HT HBC
      rw [← hgW] at HT ⊢
      clear hgW
      obtain ⟨x0, x1, x2, x3, x4, x5, x6, x7, x8, x9⟩ := HXX.out _ (below_tr HQ.out HBC.out)
      go_wp2_with fail
      go_loopw [17] (fun i wr => ∃ (j : Nat) (FA : Option Addr) (cF : Nat) (SA : Option Addr) (cS : Nat), j ≤ nI ∧ i = .int .i64 j ∧ TwoR g wr g FA cF SA cS j ⟨(l.inflow.take j).map (·.2), (l.inflow.take j).map (fun _ => l.seep.1), l.start.2, l.soft.1⟩ ∧ Below V.heap.size V wr) (fun i _ => nI - (intOf i).toNat)
      case atStart => exact ⟨0, none, 0, none, 0, Nat.zero_le _, rfl, by simpa using HT.out, HBC.out⟩
      case round =>
        obtain ⟨j, FA, cF, SA, cS, hj, rfl, htr, hbr⟩ := hrel
        clear HBC HT x0 x1 x2 x3 x4 x5 x6 x7 x8 x9
        obtain ⟨z0, z1, z2, z3, z4, z5, z6, z7, z8, z9⟩ := HXX.out _ (below_tr HQ.out hbr)
        by_cases hlt : j < nI
        · skip
          -- [A
          as_aux_lemma =>
            obtain ⟨b, o, r, hA, hbl, hr, e0, e1⟩ := (HL.out.infl).at2 hlt
            have hIA : IA = some ⟨b, o, none⟩ := hA
            have hrb := HOK.out.inflow j r hr
            have hWr := hbr.size
            have y0 := htr.box.cell 0; have y1 := htr.box.cell 1
            simp at y0 y1
            have hbw := below_tr HB.out hbr
            have d0 := bel_keep hbw e0; have d1 := bel_keep hbw e1
            have hgg : g = V.heap.size := HGW.out; have hVw : w.heap.size < V.heap.size := by have := HQ.out.size; simp at this; omega
            have hbl2 : b < V.heap.size := by omega
            have hn1 := htr.not_low (b := w.heap.size) (by omega); have hn2 := htr.not_low (b := b) (by omega); have hn3 := htr.not_box
            rw [hIA] at z9
            have HS5 := Lib.hid (fun (U : World) (hU : Fr (OwnB FA cF SA cS j) wr U) => show U.cell? ⟨w.heap.size, 7, none⟩ = some (.int .i64 l.seep.1) ∧ U.cell? ⟨w.heap.size, 9, none⟩ = some (.slice (some ⟨b, o, none⟩) nI cI) ∧ U.cell? ⟨b, o + j * 2 + 1, none⟩ = some (.int .i64 r.2) ∧ U.cell? ⟨g, 0, none⟩ = some (.slice FA j cF) ∧ U.cell? ⟨g, 1, none⟩ = some (.slice SA j cS) from
              ⟨fr_cell hU hn1 z7, fr_cell hU hn1 z9, fr_cell hU hn2 d1, fr_cell hU hn3 y0, fr_cell hU hn3 y1⟩)
            have HBC := Lib.hid hbr; have HT := Lib.hid htr
            have HR1 := Lib.hid (take_map_snoc (f := (·.2)) hr); have HR2 := Lib.hid (take_map_snoc (f := fun _ : Rng => l.seep.1) hr)
            have HFR := Lib.hid (Fr.refl (OwnB FA cF SA cS j) wr)
            have hkn : (j : Int) < (nI : Int) := by omega
            have hk0 : (0 : Int) ≤ (j : Int) := by omega
            have HGE := Lib.hid (show V.heap.size ≤ g by omega)
            clear hbr htr hr z0 z1 z2 z3 z4 z5 z6 z7 z8 e0 e1 d0 d1 y0 y1 hn1 hn2 hn3 hgg hA hIA hbw hVw hbl2
            go_upto_region 5 with fail
            clear z9
            have hXb := HT.out.box; have hXF := HT.out.oF; have hXS := HT.out.oS; have hXA := HT.out.ap
            simp only at hXF hXS
            have HX := Lib.hid hXb; have HF := Lib.hid hXF; have HS := Lib.hid hXS; have HAP := Lib.hid hXA
            obtain ⟨FL, hFL⟩ : ∃ FL, FL = (l.inflow.take j).map (·.2) := ⟨_, rfl⟩
            obtain ⟨SL, hSL⟩ : ∃ SL, SL = (l.inflow.take j).map (fun _ : Rng => l.seep.1) := ⟨_, rfl⟩
            rw [← hFL] at HX HF HR1
            rw [← hSL] at HX HS HR2
            clear hXb hXF hXS hXA HT hFL hSL
            refine wp_region_till [18] (fun U => U.cell? ⟨w.heap.size, 7, none⟩ = some (.int .i64 l.seep.1) ∧ U.cell? ⟨w.heap.size, 9, none⟩ = some (.slice (some ⟨b, o, none⟩) nI cI) ∧ U.cell? ⟨b, o + j * 2 + 1, none⟩ = some (.int .i64 r.2) ∧ U.cell? ⟨g, 0, none⟩ = some (.slice FA j cF) ∧ U.cell? ⟨g, 1, none⟩ = some (.slice SA j cS)) (by kernel_rfl) (by exact HS5.out wr.drew (HFR.out.more ((Below.refl wr.heap.size wr).drew))) (fun hHeld => ?_)
            have hb9 := (Below.refl wr.heap.size wr).drew
            have t0 := below_tr HBC.out hb9; have t1 := HFR.out.more hb9; have t2 := HX.out.below hb9 HX.out.lt; have t3 := own_mono HF.out hb9; have t4 := own_mono HS.out hb9
            clear HBC HFR HX HF HS
            have HBC := Lib.hid t0; have HFR := Lib.hid t1; have HX := Lib.hid t2; have HF := Lib.hid t3; have HS := Lib.hid t4
            clear t0 t1 t2 t3 t4
            clear hb9
            revert hHeld HBC HFR HX HF HS
            generalize wr.drew = w0
            intro hHeld HBC HFR HX HF HS
            (refine wpAnyL_take (n := 0) (i := 0) (oi := ?ox241) (v := ?vx241) ?hix241 ?k1x241 ?k2x241 ?k3x241 ?k4x241 ?k5x241 ?k6x241 ?hQx241 ?hYx241 ?hSx241 ?restx241; (case hix241 => (simp only [List.getElem?_toArray, List.getElem?_cons_succ, List.getElem?_cons_zero]; exact rfl)); (case k1x241 => kernel_rfl); (case k2x241 => kernel_rfl); (case k3x241 => kernel_rfl); (case k4x241 => kernel_rfl); (case k5x241 => kernel_rfl); (case k6x241 => kernel_rfl); (case hSx241 => assumption); (case hYx241 => (refine Or.inl ⟨rfl, ?hyx241⟩; intro w hSw; (try dsimp only at hSw); go_simp; (try with_reducible rfl))); (case hQx241 => exact (fun _ _ _ h => h)); (try simp only [Act.put, List.setIfInBounds_toArray, List.set_cons_zero, List.set_cons_succ]))
            (refine wpAnyL_take (n := 0) (i := 1) (oi := ?ox242) (v := ?vx242) ?hix242 ?k1x242 ?k2x242 ?k3x242 ?k4x242 ?k5x242 ?k6x242 ?hQx242 ?hYx242 ?hSx242 ?restx242; (case hix242 => (simp only [List.getElem?_toArray, List.getElem?_cons_succ, List.getElem?_cons_zero]; exact rfl)); (case k1x242 => kernel_rfl); (case k2x242 => kernel_rfl); (case k3x242 => kernel_rfl); (case k4x242 => kernel_rfl); (case k5x242 => kernel_rfl); (case k6x242 => kernel_rfl); (case hSx242 => assumption); (case hYx242 => (refine Or.inl ⟨rfl, ?hyx242⟩; intro w hSw; (try dsimp only at hSw); go_simp; (try with_reducible rfl))); (case hQx242 => exact (fun _ _ _ h => h)); (try simp only [Act.put, List.setIfInBounds_toArray, List.set_cons_zero, List.set_cons_succ]))
            (refine wpAnyL_take (n := 0) (i := 2) (oi := ?ox243) (v := ?vx243) ?hix243 ?k1x243 ?k2x243 ?k3x243 ?k4x243 ?k5x243 ?k6x243 ?hQx243 ?hYx243 ?hSx243 ?restx243; (case hix243 => (simp only [List.getElem?_toArray, List.getElem?_cons_succ, List.getElem?_cons_zero]; exact rfl)); (case k1x243 => kernel_rfl); (case k2x243 => kernel_rfl); (case k3x243 => kernel_rfl); (case k4x243 => kernel_rfl); (case k5x243 => kernel_rfl); (case k6x243 => kernel_rfl); (case hSx243 => assumption); (case hYx243 => (refine Or.inl ⟨rfl, ?hyx243⟩; intro w hSw; (try dsimp only at hSw); go_simp; (try with_reducible rfl))); (case hQx243 => exact (fun _ _ _ h => h)); (try simp only [Act.put, List.setIfInBounds_toArray, List.set_cons_zero, List.set_cons_succ]))
            (refine wpAnyL_take (n := 0) (i := 3) (oi := ?ox244) (v := ?vx244) ?hix244 ?k1x244 ?k2x244 ?k3x244 ?k4x244 ?k5x244 ?k6x244 ?hQx244 ?hYx244 ?hSx244 ?restx244; (case hix244 => (simp only [List.getElem?_toArray, List.getElem?_cons_succ, List.getElem?_cons_zero]; exact rfl)); (case k1x244 => kernel_rfl); (case k2x244 => kernel_rfl); (case k3x244 => kernel_rfl); (case k4x244 => kernel_rfl); (case k5x244 => kernel_rfl); (case k6x244 => kernel_rfl); (case hSx244 => assumption); (case hYx244 => (refine Or.inl ⟨rfl, ?hyx244⟩; intro w hSw; (try dsimp only at hSw); go_simp; (try with_reducible rfl))); (case hQx244 => exact (fun _ _ _ h => h)); (try simp only [Act.put, List.setIfInBounds_toArray, List.set_cons_zero, List.set_cons_succ]))
            (refine wpAnyL_take (n := 0) (i := 4) (oi := ?ox245) (v := ?vx245) ?hix245 ?k1x245 ?k2x245 ?k3x245 ?k4x245 ?k5x245 ?k6x245 ?hQx245 ?hYx245 ?hSx245 ?restx245; (case hix245 => (simp only [List.getElem?_toArray, List.getElem?_cons_succ, List.getElem?_cons_zero]; exact rfl)); (case k1x245 => kernel_rfl); (case k2x245 => kernel_rfl); (case k3x245 => kernel_rfl); (case k4x245 => kernel_rfl); (case k5x245 => kernel_rfl); (case k6x245 => kernel_rfl); (case hSx245 => assumption); (case hYx245 => (refine Or.inl ⟨rfl, ?hyx245⟩; intro w hSw; (try dsimp only at hSw); go_simp; (try with_reducible rfl))); (case hQx245 => exact (fun _ _ _ h => h)); (try simp only [Act.put, List.setIfInBounds_toArray, List.set_cons_zero, List.set_cons_succ]))
            (refine wpAnyL_take (n := 0) (i := 5) (oi := ?ox246) (v := ?vx246) ?hix246 ?k1x246 ?k2x246 ?k3x246 ?k4x246 ?k5x246 ?k6x246 ?hQx246 ?hYx246 ?hSx246 ?restx246; (case hix246 => (simp only [List.getElem?_toArray, List.getElem?_cons_succ, List.getElem?_cons_zero]; exact rfl)); (case k1x246 => kernel_rfl); (case k2x246 => kernel_rfl); (case k3x246 => kernel_rfl); (case k4x246 => kernel_rfl); (case k5x246 => kernel_rfl); (case k6x246 => kernel_rfl); (case hSx246 => assumption); (case hYx246 => (refine Or.inl ⟨rfl, ?hyx246⟩; intro w hSw; (try dsimp only at hSw); go_simp; (try with_reducible rfl))); (case hQx246 => exact (fun _ _ _ h => h)); (try simp only [Act.put, List.setIfInBounds_toArray, List.set_cons_zero, List.set_cons_succ]))
            (refine wpAnyL_take (n := 0) (i := 6) (oi := ?ox247) (v := ?vx247) ?hix247 ?k1x247 ?k2x247 ?k3x247 ?k4x247 ?k5x247 ?k6x247 ?hQx247 ?hYx247 ?hSx247 ?restx247; (case hix247 => (simp only [List.getElem?_toArray, List.getElem?_cons_succ, List.getElem?_cons_zero]; exact rfl)); (case k1x247 => kernel_rfl); (case k2x247 => kernel_rfl); (case k3x247 => kernel_rfl); (case k4x247 => kernel_rfl); (case k5x247 => kernel_rfl); (case k6x247 => kernel_rfl); (case hSx247 => assumption); (case hYx247 => (refine Or.inl ⟨rfl, ?hyx247⟩; intro w hSw; (try dsimp only at hSw); go_simp; (try with_reducible rfl))); (case hQx247 => exact (fun _ _ _ h => h)); (try simp only [Act.put, List.setIfInBounds_toArray, List.set_cons_zero, List.set_cons_succ]))
            (refine wpAnyL_take (n := 0) (i := 7) (oi := ?ox248) (v := ?vx248) ?hix248 ?k1x248 ?k2x248 ?k3x248 ?k4x248 ?k5x248 ?k6x248 ?hQx248 ?hYx248 ?hSx248 ?restx248; (case hix248 => (simp only [List.getElem?_toArray, List.getElem?_cons_succ, List.getElem?_cons_zero]; exact rfl)); (case k1x248 => kernel_rfl); (case k2x248 => kernel_rfl); (case k3x248 => kernel_rfl); (case k4x248 => kernel_rfl); (case k5x248 => kernel_rfl); (case k6x248 => kernel_rfl); (case hSx248 => assumption); (case hYx248 => (refine Or.inl ⟨rfl, ?hyx248⟩; intro w hSw; (try dsimp only at hSw); go_simp; (try with_reducible rfl))); (case hQx248 => exact (fun _ _ _ h => h)); (try simp only [Act.put, List.setIfInBounds_toArray, List.set_cons_zero, List.set_cons_succ]))
            (refine wpAnyL_take (n := 0) (i := 10) (oi := ?ox249) (v := ?vx249) ?hix249 ?k1x249 ?k2x249 ?k3x249 ?k4x249 ?k5x249 ?k6x249 ?hQx249 ?hYx249 ?hSx249 ?restx249; (case hix249 => (simp only [List.getElem?_toArray, List.getElem?_cons_succ, List.getElem?_cons_zero]; exact rfl)); (case k1x249 => kernel_rfl); (case k2x249 => kernel_rfl); (case k3x249 => kernel_rfl); (case k4x249 => kernel_rfl); (case k5x249 => kernel_rfl); (case k6x249 => kernel_rfl); (case hSx249 => assumption); (case hYx249 => (refine Or.inl ⟨rfl, ?hyx249⟩; intro w hSw; (try dsimp only at hSw); go_simp; (try with_reducible rfl))); (case hQx249 => exact (fun _ _ _ h => h)); (try simp only [Act.put, List.setIfInBounds_toArray, List.set_cons_zero, List.set_cons_succ]))
            (refine wpAnyL_take (n := 0) (i := 11) (oi := ?ox250) (v := ?vx250) ?hix250 ?k1x250 ?k2x250 ?k3x250 ?k4x250 ?k5x250 ?k6x250 ?hQx250 ?hYx250 ?hSx250 ?restx250; (case hix250 => (simp only [List.getElem?_toArray, List.getElem?_cons_succ, List.getElem?_cons_zero]; exact rfl)); (case k1x250 => kernel_rfl); (case k2x250 => kernel_rfl); (case k3x250 => kernel_rfl); (case k4x250 => kernel_rfl); (case k5x250 => kernel_rfl); (case k6x250 => kernel_rfl); (case hSx250 => assumption); (case hYx250 => (refine Or.inl ⟨rfl, ?hyx250⟩; intro w hSw; (try dsimp only at hSw); go_simp; (try with_reducible rfl))); (case hQx250 => exact (fun _ _ _ h => h)); (try simp only [Act.put, List.setIfInBounds_toArray, List.set_cons_zero, List.set_cons_succ]))
            (refine wpAnyL_take (n := 4) (i := 12) (oi := ?ox251) (v := ?vx251) ?hix251 ?k1x251 ?k2x251 ?k3x251 ?k4x251 ?k5x251 ?k6x251 ?hQx251 ?hYx251 ?hSx251 ?restx251; (case hix251 => (simp only [List.getElem?_toArray, List.getElem?_cons_succ, List.getElem?_cons_zero]; exact rfl)); (case k1x251 => kernel_rfl); (case k2x251 => kernel_rfl); (case k3x251 => kernel_rfl); (case k4x251 => kernel_rfl); (case k5x251 => kernel_rfl); (case k6x251 => kernel_rfl); (case hSx251 => assumption); (case hYx251 => (refine Or.inl ⟨rfl, ?hyx251⟩; intro w hSw; (try dsimp only at hSw); go_simp; (try with_reducible rfl))); (case hQx251 => exact (fun _ _ _ h => h)); (try simp only [Act.put, List.setIfInBounds_toArray, List.set_cons_zero, List.set_cons_succ]))
            (refine wpAnyL_take (n := 3) (i := 13) (oi := ?ox252) (v := ?vx252) ?hix252 ?k1x252 ?k2x252 ?k3x252 ?k4x252 ?k5x252 ?k6x252 ?hQx252 ?hYx252 ?hSx252 ?restx252; (case hix252 => (simp only [List.getElem?_toArray, List.getElem?_cons_succ, List.getElem?_cons_zero]; exact rfl)); (case k1x252 => kernel_rfl); (case k2x252 => kernel_rfl); (case k3x252 => kernel_rfl); (case k4x252 => kernel_rfl); (case k5x252 => kernel_rfl); (case k6x252 => kernel_rfl); (case hSx252 => assumption); (case hYx252 => (refine Or.inl ⟨rfl, ?hyx252⟩; intro w hSw; (try dsimp only at hSw); go_simp; (try with_reducible rfl))); (case hQx252 => exact (fun _ _ _ h => h)); (try simp only [Act.put, List.setIfInBounds_toArray, List.set_cons_zero, List.set_cons_succ]))
            (refine wpAnyL_take (n := 2) (i := 14) (oi := ?ox253) (v := ?vx253) ?hix253 ?k1x253 ?k2x253 ?k3x253 ?k4x253 ?k5x253 ?k6x253 ?hQx253 ?hYx253 ?hSx253 ?restx253; (case hix253 => (simp only [List.getElem?_toArray, List.getElem?_cons_succ, List.getElem?_cons_zero]; exact rfl)); (case k1x253 => kernel_rfl); (case k2x253 => kernel_rfl); (case k3x253 => kernel_rfl); (case k4x253 => kernel_rfl); (case k5x253 => kernel_rfl); (case k6x253 => kernel_rfl); (case hSx253 => assumption); (case hYx253 => (refine Or.inl ⟨rfl, ?hyx253⟩; intro w hSw; (try dsimp only at hSw); go_simp; (try with_reducible rfl))); (case hQx253 => exact (fun _ _ _ h => h)); (try simp only [Act.put, List.setIfInBounds_toArray, List.set_cons_zero, List.set_cons_succ]))
            refine wpAnyL_ready (rs := [8, 15]) (by kernel_rfl) (by simp) ?_
            refine AllReadyL.cons (o := ?o8x254) ?hi8x254 (fun K hK => ?_) (AllReadyL.cons (o := ?o15x254) ?hi15x254 (fun K hK => ?_) AllReadyL.nil)
            (case hi8x254 => (simp only [List.getElem?_toArray, List.getElem?_cons_succ, List.getElem?_cons_zero]; exact rfl))
            (case hi15x254 => (simp only [List.getElem?_toArray, List.getElem?_cons_succ, List.getElem?_cons_zero]; exact rfl))
            · skip
              go_simp
              have hal := (Below.refl w0.heap.size w0).alloc (Nat.le_refl _) (.cells #[.int .i64 r.2] 3)
              have hn := Blk.new w0 3 #[.int .i64 r.2]
              have t0 := below_tr HBC.out hal; have t1 := HFR.out.more hal; have t2 := HX.out.below hal HX.out.lt; have t3 := own_mono HF.out hal; have t4 := own_mono HS.out hal
              clear HBC HFR HX HF HS
              have HBC := Lib.hid t0; have HFR := Lib.hid t1; have HX := Lib.hid t2; have HF := Lib.hid t3; have HS := Lib.hid t4
              clear t0 t1 t2 t3 t4
              have HA8 := Lib.hid hn
              clear hal hn
              (try clear hHeld)
              refine hK.out _ _ (by (try dsimp only); exact HS5.out _ HFR.out) (fun hHeld => ?_)
              clear hK K
              (try simp only [Act.put, List.setIfInBounds_toArray, List.set_cons_zero, List.set_cons_succ])
              revert hHeld HBC HFR HX HF HS HA8
              generalize hgA : w0.heap.size = gA
              generalize (World.alloc w0 (.cells #[.int .i64 r.2] 3)) = w0
              intro HBC HFR HX HF HS HA8 hHeld
              clear hgA
              refine wpAnyL_ready (rs := [9, 15]) (by kernel_rfl) (by simp) ?_
              refine AllReadyL.cons (o := ?o9x255) ?hi9x255 (fun K hK => ?_) (AllReadyL.cons (o := ?o15x255) ?hi15x255 (fun K hK => ?_) AllReadyL.nil)
              (case hi9x255 => (simp only [List.getElem?_toArray, List.getElem?_cons_succ, List.getElem?_cons_zero]; exact rfl))
              (case hi15x255 => (simp only [List.getElem?_toArray, List.getElem?_cons_succ, List.getElem?_cons_zero]; exact rfl))
              · skip
                refine step_append_lies _ (by rfl) _ _ _ (by rfl) g 3 i0 _ 1 8 Try.underlying22 HI.out HZ0.out HZ1.out HZ2.out rfl (by omega) _ j (FL.flatMap enc1) (by rfl) HF.out ⟨gA, 0, none⟩ 1 1 [.int .i64 r.2] (by rfl) (by rfl) (World.news_of_block (cs := #[.int .i64 r.2]) (t := 3) (fr := (0, 0)) HA8.out) (by simp [Value.oneCell']) (by omega) (by unfold maxLen; omega) (by omega) (by have := HX.out.lt; omega) _ rfl ?_
                intro gF capF w3 hown3 hgrow hat hlt3
                have hge1 := HBC.out.size
                have hoS3 := HS.out.kept hgrow (by
                  cases hq : (Value.slice SA j cS).ownBlock with
                  | none => exact .inl rfl
                  | some z => exact .inr fun e => HAP.out z e.symm hq)
                have hbx3 := HX.out.grown hgrow (fun e => own_blk_ne HF.out HX.out (by decide) e.symm)
                have hap3 := HAP.out.grow (n' := j + 1) (c := capF) (gg := gF) HS.out (hat.imp id fun e => by omega)
                have hb0 := HBC.out.grown hgrow hge1 (fun z hz => (by have := (HF.out.lt z hz).1; have := HGE.out; omega))
                have hf0 := HFR.out.step hgrow (fun z hz => .inl (.inl hz))
                have ho3 : w3.ownsRow g 3 1 (.slice (some ⟨gF, 0, none⟩) (j + 1) capF) (j + 1) ((FL ++ [r.2]).flatMap enc1) := by
                  rw [List.flatMap_append]; simpa [enc1] using hown3
                (first | (have hac := HA15.out.grown hgrow (fun e => HNF.out _ e.symm rfl); clear HA15; have HA15 := Lib.hid hac; clear hac HNF) | skip)
                clear HBC HFR HF HS HX HAP
                clear HA8
                have HBC := Lib.hid hb0; have HFR := Lib.hid hf0; have HF := Lib.hid ho3; have HS := Lib.hid hoS3; have HX := Lib.hid hbx3; have HAP := Lib.hid hap3
                clear hge1 hoS3 hbx3 hap3 hb0 hf0 ho3 hown3 hgrow hat hlt3
                (try clear hHeld)
                refine hK.out _ _ (by (try dsimp only); exact HS5.out _ HFR.out) (fun hHeld => ?_)
                clear hK K
                (try simp only [Act.put, List.setIfInBounds_toArray, List.set_cons_zero, List.set_cons_succ])
                (refine wpAnyL_take (n := 0) (i := 17) (oi := ?ox256) (v := ?vx256) ?hix256 ?k1x256 ?k2x256 ?k3x256 ?k4x256 ?k5x256 ?k6x256 ?hQx256 ?hYx256 ?hSx256 ?restx256; (case hix256 => (simp only [List.getElem?_toArray, List.getElem?_cons_succ, List.getElem?_cons_zero]; exact rfl)); (case k1x256 => kernel_rfl); (case k2x256 => kernel_rfl); (case k3x256 => kernel_rfl); (case k4x256 => kernel_rfl); (case k5x256 => kernel_rfl); (case k6x256 => kernel_rfl); (case hSx256 => assumption); (case hYx256 => (refine Or.inl ⟨rfl, ?hyx256⟩; intro w hSw; (try dsimp only at hSw); go_simp; (try with_reducible rfl))); (case hQx256 => exact (fun _ _ _ h => h)); (try simp only [Act.put, List.setIfInBounds_toArray, List.set_cons_zero, List.set_cons_succ]))
                refine wpAnyL_ready (rs := [15]) (by kernel_rfl) (by simp) ?_
                refine AllReadyL.cons (o := ?o15x257) ?hi15x257 (fun K hK => ?_) AllReadyL.nil
                (case hi15x257 => (simp only [List.getElem?_toArray, List.getElem?_cons_succ, List.getElem?_cons_zero]; exact rfl))
                go_simp
                have hal := (Below.refl w3.heap.size w3).alloc (Nat.le_refl _) (.cells #[.int .i64 l.seep.1] 3)
                have hn := Blk.new w3 3 #[.int .i64 l.seep.1]
                have hnf := fun z hz => Nat.ne_of_lt (own_block_lt HF.out (g := z) hz)
                have t0 := below_tr HBC.out hal; have t1 := HFR.out.more hal; have t2 := HX.out.below hal HX.out.lt; have t3 := own_mono HF.out hal; have t4 := own_mono HS.out hal
                clear HBC HFR HX HF HS
                have HBC := Lib.hid t0; have HFR := Lib.hid t1; have HX := Lib.hid t2; have HF := Lib.hid t3; have HS := Lib.hid t4
                clear t0 t1 t2 t3 t4
                have HA15 := Lib.hid hn
                clear hal hn
                (try clear hHeld)
                refine hK.out _ _ (by (try dsimp only); exact HS5.out _ HFR.out) (fun hHeld => ?_)
                clear hK K
                (try simp only [Act.put, List.setIfInBounds_toArray, List.set_cons_zero, List.set_cons_succ])
                revert hHeld HBC HFR HX HF HS HA15
                generalize hgC : w3.heap.size = gC
                generalize (World.alloc w3 (.cells #[.int .i64 l.seep.1] 3)) = w0
                intro HBC HFR HX HF HS HA15 hHeld
                have HNF := Lib.hid (fun z hz => hgC ▸ hnf z hz)
                clear hgC hnf
                refine wpAnyL_ready (rs := [16]) (by kernel_rfl) (by simp) ?_
                refine AllReadyL.cons (o := ?o16x258) ?hi16x258 (fun K hK => ?_) AllReadyL.nil
                (case hi16x258 => (simp only [List.getElem?_toArray, List.getElem?_cons_succ, List.getElem?_cons_zero]; exact rfl))
                refine step_append_lies _ (by rfl) _ _ _ (by rfl) g 3 i0 _ 1 8 Try.underlying22 HI.out HZ0.out HZ1.out HZ2.out rfl (by omega) _ j (SL.flatMap enc1) (by rfl) HS.out ⟨gC, 0, none⟩ 1 1 [.int .i64 l.seep.1] (by rfl) (by rfl) (World.news_of_block (cs := #[.int .i64 l.seep.1]) (t := 3) (fr := (0, 0)) HA15.out) (by simp [Value.oneCell']) (by omega) (by unfold maxLen; omega) (by omega) (by have := HX.out.lt; omega) _ rfl ?_
                intro gs caps w5 hown5 hgrow hat hlt5
                have hge1 := HBC.out.size
                have hoF5 := HF.out.kept hgrow (by
                  cases hq : (Value.slice (some ⟨gF, 0, none⟩) (j + 1) capF).ownBlock with
                  | none => exact .inl rfl
                  | some z => exact .inr fun e => HAP.out z hq e.symm)
                have hbx5 := HX.out.grown hgrow (fun e => own_blk_ne HS.out HX.out (by decide) e.symm)
                have hap5 := (HAP.out.symm.grow (n' := j + 1) (c := caps) (gg := gs) HF.out (hat.imp id fun e => by omega)).symm
                have hb0 := HBC.out.grown hgrow hge1 (fun z hz => (by have := (HS.out.lt z hz).1; have := HGE.out; omega))
                have hf0 := HFR.out.step hgrow (fun z hz => .inl (.inr hz))
                have ho5 : w5.ownsRow g 3 1 (.slice (some ⟨gs, 0, none⟩) (j + 1) caps) (j + 1) ((SL ++ [l.seep.1]).flatMap enc1) := by
                  rw [List.flatMap_append]; simpa [enc1] using hown5
                clear HBC HFR HF HS HX HAP
                clear HA15
                have HBC := Lib.hid hb0; have HFR := Lib.hid hf0; have HF := Lib.hid hoF5; have HS := Lib.hid ho5; have HX := Lib.hid hbx5; have HAP := Lib.hid hap5
                clear hge1 hoF5 hbx5 hap5 hb0 hf0 ho5 hown5 hgrow hat hlt5
                (try clear hHeld)
                refine hK.out _ _ (by (try dsimp only); exact HS5.out _ HFR.out) (fun hHeld => ?_)
                clear hK K
                (try simp only [Act.put, List.setIfInBounds_toArray, List.set_cons_zero, List.set_cons_succ])
                refine wpAnyL_ready (rs := [18]) (by kernel_rfl) (by simp) ?_
                refine AllReadyL.last (o := ?o18x259) ?hi18x259 ?he18x259 (fun K hK => ?_) AllReadyL.nil
                (case hi18x259 => (simp only [List.getElem?_toArray, List.getElem?_cons_succ, List.getElem?_cons_zero]; exact rfl))
                (case he18x259 => kernel_rfl)
                have s0 := HX.out.cell 0; have f0 := HX.out.frozen 0
                have s1 := HX.out.cell 1; have f1 := HX.out.frozen 1
                simp at s0 s1
                go_simp
                (try clear hHeld)
                refine hK.out _ _ ?_
                clear hK K
                (try simp only [Act.put, List.setIfInBounds_toArray, List.set_cons_zero, List.set_cons_succ])
                (refine wpAnyL_free (i := 19) (oi := ?ox260) (v := ?vx260) ?hix260 ?k1x260 ?k2x260 ?k3x260 ?k4x260 ?k5x260 ?hQx260 ?hYx260 ?restx260; (case hix260 => (simp only [List.getElem?_toArray, List.getElem?_cons_succ, List.getElem?_cons_zero]; exact rfl)); (case k1x260 => kernel_rfl); (case k2x260 => kernel_rfl); (case k3x260 => kernel_rfl); (case k4x260 => kernel_rfl); (case k5x260 => kernel_rfl); (case hYx260 => (refine Or.inl ⟨rfl, ?hyx260⟩; intro w hSw; (try dsimp only at hSw); go_simp; (try with_reducible rfl))); (case hQx260 => exact (fun _ _ _ h => h)); (try simp only [Act.put, List.setIfInBounds_toArray, List.set_cons_zero, List.set_cons_succ]))
                refine wpAnyL_ready (rs := [20]) (by kernel_rfl) (by simp) ?_
                refine AllReadyL.last (o := ?o20x261) ?hi20x261 ?he20x261 (fun K hK => ?_) AllReadyL.nil
                (case hi20x261 => (simp only [List.getElem?_toArray, List.getElem?_cons_succ, List.getElem?_cons_zero]; exact rfl))
                (case he20x261 => kernel_rfl)
                go_simp
                (try clear hHeld)
                refine hK.out _ _ ?_
                clear hK K
                (try simp only [Act.put, List.setIfInBounds_toArray, List.set_cons_zero, List.set_cons_succ])
                (refine wpAnyL_done (by kernel_rfl) ?_ _)
                have hx6 := (HX.out.set_ 0 (.slice (some ⟨gF, 0, none⟩) (j + 1) capF)).set_ 1 (.slice (some ⟨gs, 0, none⟩) (j + 1) caps)
                have hgr := only_setCell (only_setCell (World.grownBy.refl w5 (some g)) (p := ⟨g, 0, none⟩) (.inl rfl) (.slice (some ⟨gF, 0, none⟩) (j + 1) capF)) (p := ⟨g, 1, none⟩) (.inl rfl) (.slice (some ⟨gs, 0, none⟩) (j + 1) caps)
                have ho6 := HF.out.kept hgr (.inr (own_blk_ne HF.out HX.out (by decide)))
                have hs6 := HS.out.kept hgr (.inr (own_blk_ne HS.out HX.out (by decide)))
                have hge := HGE.out
                have hb6 := (HBC.out.setCell (p := ⟨g, 0, none⟩) hge (.slice (some ⟨gF, 0, none⟩) (j + 1) capF)).setCell (p := ⟨g, 1, none⟩) hge (.slice (some ⟨gs, 0, none⟩) (j + 1) caps)
                have HT6 := Lib.hid (TwoR.mk (x := ⟨FL ++ [r.2], SL ++ [l.seep.1], l.start.2, l.soft.1⟩) (by simpa using hx6) ho6 hs6 HAP.out)
                have HB6 := Lib.hid hb6
                clear hx6 hgr ho6 hs6 hb6
                go_wp2_with fail
                go_roundw
                case rel => exact ⟨j + 1, _, _, _, _, by omega, by go_num, by rw [HR1.out, HR2.out]; exact HT6.out, HB6.out⟩
                case measure => simp [intOf] <;> omega
              · skip
                go_simp
                have hal := (Below.refl w0.heap.size w0).alloc (Nat.le_refl _) (.cells #[.int .i64 l.seep.1] 3)
                have hn := Blk.new w0 3 #[.int .i64 l.seep.1]
                have hnf := fun z hz => Nat.ne_of_lt (own_block_lt HF.out (g := z) hz)
                have t0 := below_tr HBC.out hal; have t1 := HFR.out.more hal; have t2 := HX.out.below hal HX.out.lt; have t3 := own_mono HF.out hal; have t4 := own_mono HS.out hal; have t5 := HA8.out.below hal HA8.out.lt
                clear HBC HFR HX HF HS HA8
                have HBC := Lib.hid t0; have HFR := Lib.hid t1; have HX := Lib.hid t2; have HF := Lib.hid t3; have HS := Lib.hid t4; have HA8 := Lib.hid t5
                clear t0 t1 t2 t3 t4 t5
                have HA15 := Lib.hid hn
                clear hal hn
                (try clear hHeld)
                refine hK.out _ _ (by (try dsimp only); exact HS5.out _ HFR.out) (fun hHeld => ?_)
                clear hK K
                (try simp only [Act.put, List.setIfInBounds_toArray, List.set_cons_zero, List.set_cons_succ])
                revert hHeld HBC HFR HX HF HS HA8 HA15
                generalize hgC : w0.heap.size = gC
                generalize (World.alloc w0 (.cells #[.int .i64 l.seep.1] 3)) = w0
                intro HBC HFR HX HF HS HA8 HA15 hHeld
                have HNF := Lib.hid (fun z hz => hgC ▸ hnf z hz)
                clear hgC hnf
                refine wpAnyL_ready (rs := [9]) (by kernel_rfl) (by simp) ?_
                refine AllReadyL.cons (o := ?o9x262) ?hi9x262 (fun K hK => ?_) AllReadyL.nil
                (case hi9x262 => (simp only [List.getElem?_toArray, List.getElem?_cons_succ, List.getElem?_cons_zero]; exact rfl))
                refine step_append_lies _ (by rfl) _ _ _ (by rfl) g 3 i0 _ 1 8 Try.underlying22 HI.out HZ0.out HZ1.out HZ2.out rfl (by omega) _ j (FL.flatMap enc1) (by rfl) HF.out ⟨gA, 0, none⟩ 1 1 [.int .i64 r.2] (by rfl) (by rfl) (World.news_of_block (cs := #[.int .i64 r.2]) (t := 3) (fr := (0, 0)) HA8.out) (by simp [Value.oneCell']) (by omega) (by unfold maxLen; omega) (by omega) (by have := HX.out.lt; omega) _ rfl ?_
                intro gF capF w3 hown3 hgrow hat hlt3
                have hge1 := HBC.out.size
                have hoS3 := HS.out.kept hgrow (by
                  cases hq : (Value.slice SA j cS).ownBlock with
                  | none => exact .inl rfl
                  | some z => exact .inr fun e => HAP.out z e.symm hq)
                have hbx3 := HX.out.grown hgrow (fun e => own_blk_ne HF.out HX.out (by decide) e.symm)
                have hap3 := HAP.out.grow (n' := j + 1) (c := capF) (gg := gF) HS.out (hat.imp id fun e => by omega)
                have hb0 := HBC.out.grown hgrow hge1 (fun z hz => (by have := (HF.out.lt z hz).1; have := HGE.out; omega))
                have hf0 := HFR.out.step hgrow (fun z hz => .inl (.inl hz))
                have ho3 : w3.ownsRow g 3 1 (.slice (some ⟨gF, 0, none⟩) (j + 1) capF) (j + 1) ((FL ++ [r.2]).flatMap enc1) := by
                  rw [List.flatMap_append]; simpa [enc1] using hown3
                (first | (have hac := HA15.out.grown hgrow (fun e => HNF.out _ e.symm rfl); clear HA15; have HA15 := Lib.hid hac; clear hac HNF) | skip)
                clear HBC HFR HF HS HX HAP
                clear HA8
                have HBC := Lib.hid hb0; have HFR := Lib.hid hf0; have HF := Lib.hid ho3; have HS := Lib.hid hoS3; have HX := Lib.hid hbx3; have HAP := Lib.hid hap3
                clear hge1 hoS3 hbx3 hap3 hb0 hf0 ho3 hown3 hgrow hat hlt3
                (try clear hHeld)
                refine hK.out _ _ (by (try dsimp only); exact HS5.out _ HFR.out) (fun hHeld => ?_)
                clear hK K
                (try simp only [Act.put, List.setIfInBounds_toArray, List.set_cons_zero, List.set_cons_succ])
                (refine wpAnyL_take (n := 0) (i := 17) (oi := ?ox263) (v := ?vx263) ?hix263 ?k1x263 ?k2x263 ?k3x263 ?k4x263 ?k5x263 ?k6x263 ?hQx263 ?hYx263 ?hSx263 ?restx263; (case hix263 => (simp only [List.getElem?_toArray, List.getElem?_cons_succ, List.getElem?_cons_zero]; exact rfl)); (case k1x263 => kernel_rfl); (case k2x263 => kernel_rfl); (case k3x263 => kernel_rfl); (case k4x263 => kernel_rfl); (case k5x263 => kernel_rfl); (case k6x263 => kernel_rfl); (case hSx263 => assumption); (case hYx263 => (refine Or.inl ⟨rfl, ?hyx263⟩; intro w hSw; (try dsimp only at hSw); go_simp; (try with_reducible rfl))); (case hQx263 => exact (fun _ _ _ h => h)); (try simp only [Act.put, List.setIfInBounds_toArray, List.set_cons_zero, List.set_cons_succ]))
                refine wpAnyL_ready (rs := [16]) (by kernel_rfl) (by simp) ?_
                refine AllReadyL.cons (o := ?o16x264) ?hi16x264 (fun K hK => ?_) AllReadyL.nil
                (case hi16x264 => (simp only [List.getElem?_toArray, List.getElem?_cons_succ, List.getElem?_cons_zero]; exact rfl))
                refine step_append_lies _ (by rfl) _ _ _ (by rfl) g 3 i0 _ 1 8 Try.underlying22 HI.out HZ0.out HZ1.out HZ2.out rfl (by omega) _ j (SL.flatMap enc1) (by rfl) HS.out ⟨gC, 0, none⟩ 1 1 [.int .i64 l.seep.1] (by rfl) (by rfl) (World.news_of_block (cs := #[.int .i64 l.seep.1]) (t := 3) (fr := (0, 0)) HA15.out) (by simp [Value.oneCell']) (by omega) (by unfold maxLen; omega) (by omega) (by have := HX.out.lt; omega) _ rfl ?_
                intro gs caps w5 hown5 hgrow hat hlt5
                have hge1 := HBC.out.size
                have hoF5 := HF.out.kept hgrow (by
                  cases hq : (Value.slice (some ⟨gF, 0, none⟩) (j + 1) capF).ownBlock with
                  | none => exact .inl rfl
                  | some z => exact .inr fun e => HAP.out z hq e.symm)
                have hbx5 := HX.out.grown hgrow (fun e => own_blk_ne HS.out HX.out (by decide) e.symm)
                have hap5 := (HAP.out.symm.grow (n' := j + 1) (c := caps) (gg := gs) HF.out (hat.imp id fun e => by omega)).symm
                have hb0 := HBC.out.grown hgrow hge1 (fun z hz => (by have := (HS.out.lt z hz).1; have := HGE.out; omega))
                have hf0 := HFR.out.step hgrow (fun z hz => .inl (.inr hz))
                have ho5 : w5.ownsRow g 3 1 (.slice (some ⟨gs, 0, none⟩) (j + 1) caps) (j + 1) ((SL ++ [l.seep.1]).flatMap enc1) := by
                  rw [List.flatMap_append]; simpa [enc1] using hown5
                clear HBC HFR HF HS HX HAP
                clear HA15
                have HBC := Lib.hid hb0; have HFR := Lib.hid hf0; have HF := Lib.hid hoF5; have HS := Lib.hid ho5; have HX := Lib.hid hbx5; have HAP := Lib.hid hap5
                clear hge1 hoF5 hbx5 hap5 hb0 hf0 ho5 hown5 hgrow hat hlt5
                (try clear hHeld)
                refine hK.out _ _ (by (try dsimp only); exact HS5.out _ HFR.out) (fun hHeld => ?_)
                clear hK K
                (try simp only [Act.put, List.setIfInBounds_toArray, List.set_cons_zero, List.set_cons_succ])
                refine wpAnyL_ready (rs := [18]) (by kernel_rfl) (by simp) ?_
                refine AllReadyL.last (o := ?o18x265) ?hi18x265 ?he18x265 (fun K hK => ?_) AllReadyL.nil
                (case hi18x265 => (simp only [List.getElem?_toArray, List.getElem?_cons_succ, List.getElem?_cons_zero]; exact rfl))
                (case he18x265 => kernel_rfl)
                have s0 := HX.out.cell 0; have f0 := HX.out.frozen 0
                have s1 := HX.out.cell 1; have f1 := HX.out.frozen 1
                simp at s0 s1
                go_simp
                (try clear hHeld)
                refine hK.out _ _ ?_
                clear hK K
                (try simp only [Act.put, List.setIfInBounds_toArray, List.set_cons_zero, List.set_cons_succ])
                (refine wpAnyL_free (i := 19) (oi := ?ox266) (v := ?vx266) ?hix266 ?k1x266 ?k2x266 ?k3x266 ?k4x266 ?k5x266 ?hQx266 ?hYx266 ?restx266; (case hix266 => (simp only [List.getElem?_toArray, List.getElem?_cons_succ, List.getElem?_cons_zero]; exact rfl)); (case k1x266 => kernel_rfl); (case k2x266 => kernel_rfl); (case k3x266 => kernel_rfl); (case k4x266 => kernel_rfl); (case k5x266 => kernel_rfl); (case hYx266 => (refine Or.inl ⟨rfl, ?hyx266⟩; intro w hSw; (try dsimp only at hSw); go_simp; (try with_reducible rfl))); (case hQx266 => exact (fun _ _ _ h => h)); (try simp only [Act.put, List.setIfInBounds_toArray, List.set_cons_zero, List.set_cons_succ]))
                refine wpAnyL_ready (rs := [20]) (by kernel_rfl) (by simp) ?_
                refine AllReadyL.last (o := ?o20x267) ?hi20x267 ?he20x267 (fun K hK => ?_) AllReadyL.nil
                (case hi20x267 => (simp only [List.getElem?_toArray, List.getElem?_cons_succ, List.getElem?_cons_zero]; exact rfl))
                (case he20x267 => kernel_rfl)
                go_simp
                (try clear hHeld)
                refine hK.out _ _ ?_
                clear hK K
                (try simp only [Act.put, List.setIfInBounds_toArray, List.set_cons_zero, List.set_cons_succ])
                (refine wpAnyL_done (by kernel_rfl) ?_ _)
                have hx6 := (HX.out.set_ 0 (.slice (some ⟨gF, 0, none⟩) (j + 1) capF)).set_ 1 (.slice (some ⟨gs, 0, none⟩) (j + 1) caps)
                have hgr := only_setCell (only_setCell (World.grownBy.refl w5 (some g)) (p := ⟨g, 0, none⟩) (.inl rfl) (.slice (some ⟨gF, 0, none⟩) (j + 1) capF)) (p := ⟨g, 1, none⟩) (.inl rfl) (.slice (some ⟨gs, 0, none⟩) (j + 1) caps)
                have ho6 := HF.out.kept hgr (.inr (own_blk_ne HF.out HX.out (by decide)))
                have hs6 := HS.out.kept hgr (.inr (own_blk_ne HS.out HX.out (by decide)))
                have hge := HGE.out
                have hb6 := (HBC.out.setCell (p := ⟨g, 0, none⟩) hge (.slice (some ⟨gF, 0, none⟩) (j + 1) capF)).setCell (p := ⟨g, 1, none⟩) hge (.slice (some ⟨gs, 0, none⟩) (j + 1) caps)
                have HT6 := Lib.hid (TwoR.mk (x := ⟨FL ++ [r.2], SL ++ [l.seep.1], l.start.2, l.soft.1⟩) (by simpa using hx6) ho6 hs6 HAP.out)
                have HB6 := Lib.hid hb6
                clear hx6 hgr ho6 hs6 hb6
                go_wp2_with fail
                go_roundw
                case rel => exact ⟨j + 1, _, _, _, _, by omega, by go_num, by rw [HR1.out, HR2.out]; exact HT6.out, HB6.out⟩
                case measure => simp [intOf] <;> omega
            · skip
              go_simp
              have hal := (Below.refl w0.heap.size w0).alloc (Nat.le_refl _) (.cells #[.int .i64 l.seep.1] 3)
              have hn := Blk.new w0 3 #[.int .i64 l.seep.1]
              have hnf := fun z hz => Nat.ne_of_lt (own_block_lt HF.out (g := z) hz)
              have t0 := below_tr HBC.out hal; have t1 := HFR.out.more hal; have t2 := HX.out.below hal HX.out.lt; have t3 := own_mono HF.out hal; have t4 := own_mono HS.out hal
              clear HBC HFR HX HF HS
              have HBC := Lib.hid t0; have HFR := Lib.hid t1; have HX := Lib.hid t2; have HF := Lib.hid t3; have HS := Lib.hid t4
              clear t0 t1 t2 t3 t4
              have HA15 := Lib.hid hn
              clear hal hn
              (try clear hHeld)
              refine hK.out _ _ (by (try dsimp only); exact HS5.out _ HFR.out) (fun hHeld => ?_)
              clear hK K
              (try simp only [Act.put, List.setIfInBounds_toArray, List.set_cons_zero, List.set_cons_succ])
              revert hHeld HBC HFR HX HF HS HA15
              generalize hgC : w0.heap.size = gC
              generalize (World.alloc w0 (.cells #[.int .i64 l.seep.1] 3)) = w0
              intro HBC HFR HX HF HS HA15 hHeld
              have HNF := Lib.hid (fun z hz => hgC ▸ hnf z hz)
              clear hgC hnf
              refine wpAnyL_ready (rs := [8]) (by kernel_rfl) (by simp) ?_
              refine AllReadyL.cons (o := ?o8x268) ?hi8x268 (fun K hK => ?_) AllReadyL.nil
              (case hi8x268 => (simp only [List.getElem?_toArray, List.getElem?_cons_succ, List.getElem?_cons_zero]; exact rfl))
              go_simp
              have hal := (Below.refl w0.heap.size w0).alloc (Nat.le_refl _) (.cells #[.int .i64 r.2] 3)
              have hn := Blk.new w0 3 #[.int .i64 r.2]
              have t0 := below_tr HBC.out hal; have t1 := HFR.out.more hal; have t2 := HX.out.below hal HX.out.lt; have t3 := own_mono HF.out hal; have t4 := own_mono HS.out hal; have t5 := HA15.out.below hal HA15.out.lt
              clear HBC HFR HX HF HS HA15
              have HBC := Lib.hid t0; have HFR := Lib.hid t1; have HX := Lib.hid t2; have HF := Lib.hid t3; have HS := Lib.hid t4; have HA15 := Lib.hid t5
              clear t0 t1 t2 t3 t4 t5
              have HA8 := Lib.hid hn
              clear hal hn
              (try clear hHeld)
              refine hK.out _ _ (by (try dsimp only); exact HS5.out _ HFR.out) (fun hHeld => ?_)
              clear hK K
              (try simp only [Act.put, List.setIfInBounds_toArray, List.set_cons_zero, List.set_cons_succ])
              revert hHeld HBC HFR HX HF HS HA15 HA8
              generalize hgA : w0.heap.size = gA
              generalize (World.alloc w0 (.cells #[.int .i64 r.2] 3)) = w0
              intro HBC HFR HX HF HS HA15 HA8 hHeld
              clear hgA
              refine wpAnyL_ready (rs := [9]) (by kernel_rfl) (by simp) ?_
              refine AllReadyL.cons (o := ?o9x269) ?hi9x269 (fun K hK => ?_) AllReadyL.nil
              (case hi9x269 => (simp only [List.getElem?_toArray, List.getElem?_cons_succ, List.getElem?_cons_zero]; exact rfl))
              refine step_append_lies _ (by rfl) _ _ _ (by rfl) g 3 i0 _ 1 8 Try.underlying22 HI.out HZ0.out HZ1.out HZ2.out rfl (by omega) _ j (FL.flatMap enc1) (by rfl) HF.out ⟨gA, 0, none⟩ 1 1 [.int .i64 r.2] (by rfl) (by rfl) (World.news_of_block (cs := #[.int .i64 r.2]) (t := 3) (fr := (0, 0)) HA8.out) (by simp [Value.oneCell']) (by omega) (by unfold maxLen; omega) (by omega) (by have := HX.out.lt; omega) _ rfl ?_
              intro gF capF w3 hown3 hgrow hat hlt3
              have hge1 := HBC.out.size
              have hoS3 := HS.out.kept hgrow (by
                cases hq : (Value.slice SA j cS).ownBlock with
                | none => exact .inl rfl
                | some z => exact .inr fun e => HAP.out z e.symm hq)
              have hbx3 := HX.out.grown hgrow (fun e => own_blk_ne HF.out HX.out (by decide) e.symm)
              have hap3 := HAP.out.grow (n' := j + 1) (c := capF) (gg := gF) HS.out (hat.imp id fun e => by omega)
              have hb0 := HBC.out.grown hgrow hge1 (fun z hz => (by have := (HF.out.lt z hz).1; have := HGE.out; omega))
              have hf0 := HFR.out.step hgrow (fun z hz => .inl (.inl hz))
              have ho3 : w3.ownsRow g 3 1 (.slice (some ⟨gF, 0, none⟩) (j + 1) capF) (j + 1) ((FL ++ [r.2]).flatMap enc1) := by
                rw [List.flatMap_append]; simpa [enc1] using hown3
              (first | (have hac := HA15.out.grown hgrow (fun e => HNF.out _ e.symm rfl); clear HA15; have HA15 := Lib.hid hac; clear hac HNF) | skip)
              clear HBC HFR HF HS HX HAP
              clear HA8
              have HBC := Lib.hid hb0; have HFR := Lib.hid hf0; have HF := Lib.hid ho3; have HS := Lib.hid hoS3; have HX := Lib.hid hbx3; have HAP := Lib.hid hap3
              clear hge1 hoS3 hbx3 hap3 hb0 hf0 ho3 hown3 hgrow hat hlt3
              (try clear hHeld)
              refine hK.out _ _ (by (try dsimp only); exact HS5.out _ HFR.out) (fun hHeld => ?_)
              clear hK K
              (try simp only [Act.put, List.setIfInBounds_toArray, List.set_cons_zero, List.set_cons_succ])
              (refine wpAnyL_take (n := 0) (i := 17) (oi := ?ox270) (v := ?vx270) ?hix270 ?k1x270 ?k2x270 ?k3x270 ?k4x270 ?k5x270 ?k6x270 ?hQx270 ?hYx270 ?hSx270 ?restx270; (case hix270 => (simp only [List.getElem?_toArray, List.getElem?_cons_succ, List.getElem?_cons_zero]; exact rfl)); (case k1x270 => kernel_rfl); (case k2x270 => kernel_rfl); (case k3x270 => kernel_rfl); (case k4x270 => kernel_rfl); (case k5x270 => kernel_rfl); (case k6x270 => kernel_rfl); (case hSx270 => assumption); (case hYx270 => (refine Or.inl ⟨rfl, ?hyx270⟩; intro w hSw; (try dsimp only at hSw); go_simp; (try with_reducible rfl))); (case hQx270 => exact (fun _ _ _ h => h)); (try simp only [Act.put, List.setIfInBounds_toArray, List.set_cons_zero, List.set_cons_succ]))
              refine wpAnyL_ready (rs := [16]) (by kernel_rfl) (by simp) ?_
              refine AllReadyL.cons (o := ?o16x271) ?hi16x271 (fun K hK => ?_) AllReadyL.nil
              (case hi16x271 => (simp only [List.getElem?_toArray, List.getElem?_cons_succ, List.getElem?_cons_zero]; exact rfl))
              refine step_append_lies _ (by rfl) _ _ _ (by rfl) g 3 i0 _ 1 8 Try.underlying22 HI.out HZ0.out HZ1.out HZ2.out rfl (by omega) _ j (SL.flatMap enc1) (by rfl) HS.out ⟨gC, 0, none⟩ 1 1 [.int .i64 l.seep.1] (by rfl) (by rfl) (World.news_of_block (cs := #[.int .i64 l.seep.1]) (t := 3) (fr := (0, 0)) HA15.out) (by simp [Value.oneCell']) (by omega) (by unfold maxLen; omega) (by omega) (by have := HX.out.lt; omega) _ rfl ?_
              intro gs caps w5 hown5 hgrow hat hlt5
              have hge1 := HBC.out.size
              have hoF5 := HF.out.kept hgrow (by
                cases hq : (Value.slice (some ⟨gF, 0, none⟩) (j + 1) capF).ownBlock with
                | none => exact .inl rfl
                | some z => exact .inr fun e => HAP.out z hq e.symm)
              have hbx5 := HX.out.grown hgrow (fun e => own_blk_ne HS.out HX.out (by decide) e.symm)
              have hap5 := (HAP.out.symm.grow (n' := j + 1) (c := caps) (gg := gs) HF.out (hat.imp id fun e => by omega)).symm
              have hb0 := HBC.out.grown hgrow hge1 (fun z hz => (by have := (HS.out.lt z hz).1; have := HGE.out; omega))
              have hf0 := HFR.out.step hgrow (fun z hz => .inl (.inr hz))
              have ho5 : w5.ownsRow g 3 1 (.slice (some ⟨gs, 0, none⟩) (j + 1) caps) (j + 1) ((SL ++ [l.seep.1]).flatMap enc1) := by
                rw [List.flatMap_append]; simpa [enc1] using hown5
              clear HBC HFR HF HS HX HAP
              clear HA15
              have HBC := Lib.hid hb0; have HFR := Lib.hid hf0; have HF := Lib.hid hoF5; have HS := Lib.hid ho5; have HX := Lib.hid hbx5; have HAP := Lib.hid hap5
              clear hge1 hoF5 hbx5 hap5 hb0 hf0 ho5 hown5 hgrow hat hlt5
              (try clear hHeld)
              refine hK.out _ _ (by (try dsimp only); exact HS5.out _ HFR.out) (fun hHeld => ?_)
              clear hK K
              (try simp only [Act.put, List.setIfInBounds_toArray, List.set_cons_zero, List.set_cons_succ])
              refine wpAnyL_ready (rs := [18]) (by kernel_rfl) (by simp) ?_
              refine AllReadyL.last (o := ?o18x272) ?hi18x272 ?he18x272 (fun K hK => ?_) AllReadyL.nil
              (case hi18x272 => (simp only [List.getElem?_toArray, List.getElem?_cons_succ, List.getElem?_cons_zero]; exact rfl))
              (case he18x272 => kernel_rfl)
              have s0 := HX.out.cell 0; have f0 := HX.out.frozen 0
              have s1 := HX.out.cell 1; have f1 := HX.out.frozen 1
              simp at s0 s1
              go_simp
              (try clear hHeld)
              refine hK.out _ _ ?_
              clear hK K
              (try simp only [Act.put, List.setIfInBounds_toArray, List.set_cons_zero, List.set_cons_succ])
              (refine wpAnyL_free (i := 19) (oi := ?ox273) (v := ?vx273) ?hix273 ?k1x273 ?k2x273 ?k3x273 ?k4x273 ?k5x273 ?hQx273 ?hYx273 ?restx273; (case hix273 => (simp only [List.getElem?_toArray, List.getElem?_cons_succ, List.getElem?_cons_zero]; exact rfl)); (case k1x273 => kernel_rfl); (case k2x273 => kernel_rfl); (case k3x273 => kernel_rfl); (case k4x273 => kernel_rfl); (case k5x273 => kernel_rfl); (case hYx273 => (refine Or.inl ⟨rfl, ?hyx273⟩; intro w hSw; (try dsimp only at hSw); go_simp; (try with_reducible rfl))); (case hQx273 => exact (fun _ _ _ h => h)); (try simp only [Act.put, List.setIfInBounds_toArray, List.set_cons_zero, List.set_cons_succ]))
              refine wpAnyL_ready (rs := [20]) (by kernel_rfl) (by simp) ?_
              refine AllReadyL.last (o := ?o20x274) ?hi20x274 ?he20x274 (fun K hK => ?_) AllReadyL.nil
              (case hi20x274 => (simp only [List.getElem?_toArray, List.getElem?_cons_succ, List.getElem?_cons_zero]; exact rfl))
              (case he20x274 => kernel_rfl)
              go_simp
              (try clear hHeld)
              refine hK.out _ _ ?_
              clear hK K
              (try simp only [Act.put, List.setIfInBounds_toArray, List.set_cons_zero, List.set_cons_succ])
              (refine wpAnyL_done (by kernel_rfl) ?_ _)
              have hx6 := (HX.out.set_ 0 (.slice (some ⟨gF, 0, none⟩) (j + 1) capF)).set_ 1 (.slice (some ⟨gs, 0, none⟩) (j + 1) caps)
              have hgr := only_setCell (only_setCell (World.grownBy.refl w5 (some g)) (p := ⟨g, 0, none⟩) (.inl rfl) (.slice (some ⟨gF, 0, none⟩) (j + 1) capF)) (p := ⟨g, 1, none⟩) (.inl rfl) (.slice (some ⟨gs, 0, none⟩) (j + 1) caps)
              have ho6 := HF.out.kept hgr (.inr (own_blk_ne HF.out HX.out (by decide)))
              have hs6 := HS.out.kept hgr (.inr (own_blk_ne HS.out HX.out (by decide)))
              have hge := HGE.out
              have hb6 := (HBC.out.setCell (p := ⟨g, 0, none⟩) hge (.slice (some ⟨gF, 0, none⟩) (j + 1) capF)).setCell (p := ⟨g, 1, none⟩) hge (.slice (some ⟨gs, 0, none⟩) (j + 1) caps)
              have HT6 := Lib.hid (TwoR.mk (x := ⟨FL ++ [r.2], SL ++ [l.seep.1], l.start.2, l.soft.1⟩) (by simpa using hx6) ho6 hs6 HAP.out)
              have HB6 := Lib.hid hb6
              clear hx6 hgr ho6 hs6 hb6
              go_wp2_with fail
              go_roundw
              case rel => exact ⟨j + 1, _, _, _, _, by omega, by go_num, by rw [HR1.out, HR2.out]; exact HT6.out, HB6.out⟩
              case measure => simp [intOf] <;> omega
          -- A]
        · as_aux_lemma =>
          obtain rfl : nI = j := by omega
          rw [List.take_of_length_le (by rw [HIL.out]; exact Nat.le_refl _)] at htr
          have hxr : RdX wr FA nI SA nI (worstX l) := RdX.mk (Rd.of_own enc1_len htr.oF (show (l.inflow.map (·.2)).length = nI by rw [List.length_map]; exact HIL.out)) (Rd.of_own enc1_len htr.oS (show (l.inflow.map (fun _ => l.seep.1)).length = nI by rw [List.length_map]; exact HIL.out))
          have hbx : Blk wr g 75 (xA FA nI cF SA nI cS (worstX l)) := htr.box
          have HXB := Lib.hid hbx; have HRX := Lib.hid hxr
          have hcF := own_cap htr.oF; have hcS := own_cap htr.oS
          obtain ⟨w1, hw1⟩ : ∃ w1, w1 = wr := ⟨_, rfl⟩
          rw [← hw1] at hbr HXB HRX ⊢
          have t0 := below_tr HB.out hbr; have t1 := below_tr HQ.out hbr; have t2 := HRS.out.below hbr
          clear HB HQ HRS
          have HB := Lib.hid t0; have HQ := Lib.hid t1; have HRS := Lib.hid t2
          clear t0 t1 t2
          clear hw1 htr hbr hlt hj hxr hbx z0 z1 z2 z3 z4 z5 z6 z7 z8 z9
          have HFT := Lib.hid (worst_fits (l := l) HOK.out)
          obtain ⟨X, hX⟩ : ∃ X, X = worstX l := ⟨_, rfl⟩
          have HWF := Lib.hid (worst_first HOK.out ws c)
          rw [← hX] at HXB HRX HFT HWF
          clear hX
          obtain ⟨x0, x1, x2, x3, x4, x5, x6, x7, x8, x9⟩ := HXX.out _ HQ.out
          go_upto_region 12 with fail
          clear x0 x1 x2 x3 x4 x5 x6 x7 x8 x9
          refine wp_region_till [] (fun U => U.cell? ⟨w.heap.size, 0, none⟩ = some (.slice VA nV cV) ∧ U.cell? ⟨w.heap.size, 1, none⟩ = some (.int .i64 l.crest) ∧ U.cell? ⟨w.heap.size, 2, none⟩ = some (.int .i64 l.weak) ∧ U.cell? ⟨w.heap.size, 3, none⟩ = some (.int .i64 l.soft.1) ∧ U.cell? ⟨w.heap.size, 4, none⟩ = some (.int .i64 l.soft.2) ∧ U.cell? ⟨w.heap.size, 5, none⟩ = some (.int .i64 l.start.1) ∧ U.cell? ⟨w.heap.size, 6, none⟩ = some (.int .i64 l.start.2) ∧ U.cell? ⟨w.heap.size, 7, none⟩ = some (.int .i64 l.seep.1) ∧ U.cell? ⟨w.heap.size, 8, none⟩ = some (.int .i64 l.seep.2) ∧ U.cell? ⟨w.heap.size, 9, none⟩ = some (.slice IA nI cI) ∧ U.cell? ⟨g, 0, none⟩ = some (.slice FA nI cF) ∧ U.cell? ⟨g, 1, none⟩ = some (.slice SA nI cS) ∧ U.cell? ⟨g, 2, none⟩ = some (.int .i64 X.start) ∧ U.cell? ⟨g, 3, none⟩ = some (.int .i64 X.soft)) (by kernel_rfl) (by exact and10 (HXX.out _ HQ.out.drew) (blk_xA (show Blk w1.drew g _ _ from HXB.out))) (fun hHeld => ?_)
          have hb9 := (Below.refl w1.heap.size w1).drew
          have t0 := below_tr HB.out hb9; have t1 := below_tr HQ.out hb9; have t2 := HRS.out.below hb9; have t3 := HXB.out.below hb9 HXB.out.lt; have t4 := HRX.out.below hb9
          clear HB HQ HRS HXB HRX
          have HB := Lib.hid t0; have HQ := Lib.hid t1; have HRS := Lib.hid t2; have HXB := Lib.hid t3; have HRX := Lib.hid t4
          clear t0 t1 t2 t3 t4
          clear hb9
          revert hHeld HB HQ HRS HXB HRX
          generalize w1.drew = w0
          intro hHeld HB HQ HRS HXB HRX
          (refine wpAnyL_take (n := 0) (i := 0) (oi := ?ox275) (v := ?vx275) ?hix275 ?k1x275 ?k2x275 ?k3x275 ?k4x275 ?k5x275 ?k6x275 ?hQx275 ?hYx275 ?hSx275 ?restx275; (case hix275 => (simp only [List.getElem?_toArray, List.getElem?_cons_succ, List.getElem?_cons_zero]; exact rfl)); (case k1x275 => kernel_rfl); (case k2x275 => kernel_rfl); (case k3x275 => kernel_rfl); (case k4x275 => kernel_rfl); (case k5x275 => kernel_rfl); (case k6x275 => kernel_rfl); (case hSx275 => assumption); (case hYx275 => (refine Or.inl ⟨rfl, ?hyx275⟩; intro w hSw; (try dsimp only at hSw); go_simp; (try with_reducible rfl))); (case hQx275 => exact (fun _ _ _ h => h)); (try simp only [Act.put, List.setIfInBounds_toArray, List.set_cons_zero, List.set_cons_succ]))
          (refine wpAnyL_take (n := 0) (i := 2) (oi := ?ox276) (v := ?vx276) ?hix276 ?k1x276 ?k2x276 ?k3x276 ?k4x276 ?k5x276 ?k6x276 ?hQx276 ?hYx276 ?hSx276 ?restx276; (case hix276 => (simp only [List.getElem?_toArray, List.getElem?_cons_succ, List.getElem?_cons_zero]; exact rfl)); (case k1x276 => kernel_rfl); (case k2x276 => kernel_rfl); (case k3x276 => kernel_rfl); (case k4x276 => kernel_rfl); (case k5x276 => kernel_rfl); (case k6x276 => kernel_rfl); (case hSx276 => assumption); (case hYx276 => (refine Or.inl ⟨rfl, ?hyx276⟩; intro w hSw; (try dsimp only at hSw); go_simp; (try with_reducible rfl))); (case hQx276 => exact (fun _ _ _ h => h)); (try simp only [Act.put, List.setIfInBounds_toArray, List.set_cons_zero, List.set_cons_succ]))
          (refine wpAnyL_take (n := 0) (i := 4) (oi := ?ox277) (v := ?vx277) ?hix277 ?k1x277 ?k2x277 ?k3x277 ?k4x277 ?k5x277 ?k6x277 ?hQx277 ?hYx277 ?hSx277 ?restx277; (case hix277 => (simp only [List.getElem?_toArray, List.getElem?_cons_succ, List.getElem?_cons_zero]; exact rfl)); (case k1x277 => kernel_rfl); (case k2x277 => kernel_rfl); (case k3x277 => kernel_rfl); (case k4x277 => kernel_rfl); (case k5x277 => kernel_rfl); (case k6x277 => kernel_rfl); (case hSx277 => assumption); (case hYx277 => (refine Or.inl ⟨rfl, ?hyx277⟩; intro w hSw; (try dsimp only at hSw); go_simp; (try with_reducible rfl))); (case hQx277 => exact (fun _ _ _ h => h)); (try simp only [Act.put, List.setIfInBounds_toArray, List.set_cons_zero, List.set_cons_succ]))
          (refine wpAnyL_take (n := 0) (i := 6) (oi := ?ox278) (v := ?vx278) ?hix278 ?k1x278 ?k2x278 ?k3x278 ?k4x278 ?k5x278 ?k6x278 ?hQx278 ?hYx278 ?hSx278 ?restx278; (case hix278 => (simp only [List.getElem?_toArray, List.getElem?_cons_succ, List.getElem?_cons_zero]; exact rfl)); (case k1x278 => kernel_rfl); (case k2x278 => kernel_rfl); (case k3x278 => kernel_rfl); (case k4x278 => kernel_rfl); (case k5x278 => kernel_rfl); (case k6x278 => kernel_rfl); (case hSx278 => assumption); (case hYx278 => (refine Or.inl ⟨rfl, ?hyx278⟩; intro w hSw; (try dsimp only at hSw); go_simp; (try with_reducible rfl))); (case hQx278 => exact (fun _ _ _ h => h)); (try simp only [Act.put, List.setIfInBounds_toArray, List.set_cons_zero, List.set_cons_succ]))
          refine wpAnyL_ready (rs := [1]) (by kernel_rfl) (by simp) ?_
          refine AllReadyL.cons (o := ?o1x279) ?hi1x279 (fun K hK => ?_) AllReadyL.nil
          (case hi1x279 => (simp only [List.getElem?_toArray, List.getElem?_cons_succ, List.getElem?_cons_zero]; exact rfl))
          go_simp
          go_at_call 20
          refine (HLK.out _ HB.out).mono ?_
          rintro e w1 ⟨VA', cV', IA', cI', rfl, hcv, hci, hrl, hb9⟩
          have t0 := below_tr HB.out hb9; have t1 := below_tr HQ.out hb9; have t2 := HRS.out.below hb9; have t3 := HXB.out.below hb9 HXB.out.lt; have t4 := HRX.out.below hb9
          clear HB HQ HRS HXB HRX
          have HB := Lib.hid t0; have HQ := Lib.hid t1; have HRS := Lib.hid t2; have HXB := Lib.hid t3; have HRX := Lib.hid t4
          clear t0 t1 t2 t3 t4
          have HRL := Lib.hid hrl
          have HCV := Lib.hid hcv
          have HCI := Lib.hid hci
          clear hb9 hrl hcv hci
          (try go_wp2_with fail)
          (try clear hHeld)
          refine hK.out _ _ (by (try dsimp only); exact and10 (HXX.out _ HQ.out) (blk_xA HXB.out)) (fun hHeld => ?_)
          clear hK K
          (try simp only [Act.put, List.setIfInBounds_toArray, List.set_cons_zero, List.set_cons_succ])
          refine wpAnyL_ready (rs := [3]) (by kernel_rfl) (by simp) ?_
          refine AllReadyL.cons (o := ?o3x280) ?hi3x280 (fun K hK => ?_) AllReadyL.nil
          (case hi3x280 => (simp only [List.getElem?_toArray, List.getElem?_cons_succ, List.getElem?_cons_zero]; exact rfl))
          go_simp
          go_at_call 21
          refine (HWK.out _ HB.out).mono ?_
          rintro e w1 ⟨WA', cW', rfl, hcw, hrw, hb9⟩
          have t0 := below_tr HB.out hb9; have t1 := below_tr HQ.out hb9; have t2 := HRS.out.below hb9; have t3 := HXB.out.below hb9 HXB.out.lt; have t4 := HRX.out.below hb9; have t5 := HRL.out.below hb9
          clear HB HQ HRS HXB HRX HRL
          have HB := Lib.hid t0; have HQ := Lib.hid t1; have HRS := Lib.hid t2; have HXB := Lib.hid t3; have HRX := Lib.hid t4; have HRL := Lib.hid t5
          clear t0 t1 t2 t3 t4 t5
          have HRW := Lib.hid hrw
          have HCW := Lib.hid hcw
          clear hb9 hrw hcw
          (try go_wp2_with fail)
          (try clear hHeld)
          refine hK.out _ _ (by (try dsimp only); exact and10 (HXX.out _ HQ.out) (blk_xA HXB.out)) (fun hHeld => ?_)
          clear hK K
          (try simp only [Act.put, List.setIfInBounds_toArray, List.set_cons_zero, List.set_cons_succ])
          refine wpAnyL_ready (rs := [5]) (by kernel_rfl) (by simp) ?_
          refine AllReadyL.cons (o := ?o5x281) ?hi5x281 (fun K hK => ?_) AllReadyL.nil
          (case hi5x281 => (simp only [List.getElem?_toArray, List.getElem?_cons_succ, List.getElem?_cons_zero]; exact rfl))
          go_simp
          go_at_call 27
          refine (HLI.out _ HB.out).mono ?_
          rintro e w1 ⟨CA', cC', rfl, hcc, hrc, hb9⟩
          have t0 := below_tr HB.out hb9; have t1 := below_tr HQ.out hb9; have t2 := HRS.out.below hb9; have t3 := HXB.out.below hb9 HXB.out.lt; have t4 := HRX.out.below hb9; have t5 := HRL.out.below hb9; have t6 := HRW.out.below hb9
          clear HB HQ HRS HXB HRX HRL HRW
          have HB := Lib.hid t0; have HQ := Lib.hid t1; have HRS := Lib.hid t2; have HXB := Lib.hid t3; have HRX := Lib.hid t4; have HRL := Lib.hid t5; have HRW := Lib.hid t6
          clear t0 t1 t2 t3 t4 t5 t6
          have HRC := Lib.hid hrc
          have HCC := Lib.hid hcc
          clear hb9 hrc hcc
          (try go_wp2_with fail)
          (try clear hHeld)
          refine hK.out _ _ (by (try dsimp only); exact and10 (HXX.out _ HQ.out) (blk_xA HXB.out)) (fun hHeld => ?_)
          clear hK K
          (try simp only [Act.put, List.setIfInBounds_toArray, List.set_cons_zero, List.set_cons_succ])
          refine wpAnyL_ready (rs := [7]) (by kernel_rfl) (by simp) ?_
          refine AllReadyL.cons (o := ?o7x282) ?hi7x282 (fun K hK => ?_) AllReadyL.nil
          (case hi7x282 => (simp only [List.getElem?_toArray, List.getElem?_cons_succ, List.getElem?_cons_zero]; exact rfl))
          go_simp
          go_at_call 40
          refine (Real_c (x := X) HRX.out (by omega) (by omega)).mono ?_
          rintro e w1 ⟨FA', cF', EA', cE', rfl, hrx, hcf, hce, hb9⟩
          have t0 := below_tr HB.out hb9; have t1 := below_tr HQ.out hb9; have t2 := HRS.out.below hb9; have t3 := HXB.out.below hb9 HXB.out.lt; have t4 := HRX.out.below hb9; have t5 := HRL.out.below hb9; have t6 := HRW.out.below hb9; have t7 := HRC.out.below hb9
          clear HB HQ HRS HXB HRX HRL HRW HRC
          have HB := Lib.hid t0; have HQ := Lib.hid t1; have HRS := Lib.hid t2; have HXB := Lib.hid t3; have HRX := Lib.hid t4; have HRL := Lib.hid t5; have HRW := Lib.hid t6; have HRC := Lib.hid t7
          clear t0 t1 t2 t3 t4 t5 t6 t7
          have HRY2 := Lib.hid hrx
          clear hb9 hrx
          clear hcf hce
          (try go_wp2_with fail)
          (try clear hHeld)
          refine hK.out _ _ (by (try dsimp only); exact and10 (HXX.out _ HQ.out) (blk_xA HXB.out)) (fun hHeld => ?_)
          clear hK K
          (try simp only [Act.put, List.setIfInBounds_toArray, List.set_cons_zero, List.set_cons_succ])
          refine wpAnyL_ready (rs := [8]) (by kernel_rfl) (by simp) ?_
          refine AllReadyL.cons (o := ?o8x283) ?hi8x283 (fun K hK => ?_) AllReadyL.nil
          (case hi8x283 => (simp only [List.getElem?_toArray, List.getElem?_cons_succ, List.getElem?_cons_zero]; exact rfl))
          go_simp
          go_at_call 39
          refine (Fill_3 (x := X) HRL.out HRW.out HRC.out HRY2.out HCV.out HCI.out HOK.out HWO.out HCO.out HFT.out).mono ?_
          rintro e w1 ⟨RA, cR, N, B, FV, rfl, hcr, hrr, hff, hb9⟩
          have t0 := below_tr HB.out hb9; have t1 := below_tr HQ.out hb9; have t2 := HRS.out.below hb9; have t3 := HXB.out.below hb9 HXB.out.lt; have t4 := HRX.out.below hb9; have t5 := HRL.out.below hb9; have t6 := HRW.out.below hb9; have t7 := HRC.out.below hb9; have t8 := HRY2.out.below hb9
          clear HB HQ HRS HXB HRX HRL HRW HRC HRY2
          have HB := Lib.hid t0; have HQ := Lib.hid t1; have HRS := Lib.hid t2; have HXB := Lib.hid t3; have HRX := Lib.hid t4; have HRL := Lib.hid t5; have HRW := Lib.hid t6; have HRC := Lib.hid t7; have HRY2 := Lib.hid t8
          clear t0 t1 t2 t3 t4 t5 t6 t7 t8
          have HRR := Lib.hid hrr
          have HCR := Lib.hid hcr
          have HFF := Lib.hid hff
          clear hb9 hrr hcr hff
          clear HRL HRW HRC HRY2 HCV HCI HCW HCC
          (try go_wp2_with fail)
          (try clear hHeld)
          refine hK.out _ _ (by (try dsimp only); exact and10 (HXX.out _ HQ.out) (blk_xA HXB.out)) (fun hHeld => ?_)
          clear hK K
          (try simp only [Act.put, List.setIfInBounds_toArray, List.set_cons_zero, List.set_cons_succ])
          (refine wpAnyL_take (n := 0) (i := 9) (oi := ?ox284) (v := ?vx284) ?hix284 ?k1x284 ?k2x284 ?k3x284 ?k4x284 ?k5x284 ?k6x284 ?hQx284 ?hYx284 ?hSx284 ?restx284; (case hix284 => (simp only [List.getElem?_toArray, List.getElem?_cons_succ, List.getElem?_cons_zero]; exact rfl)); (case k1x284 => kernel_rfl); (case k2x284 => kernel_rfl); (case k3x284 => kernel_rfl); (case k4x284 => kernel_rfl); (case k5x284 => kernel_rfl); (case k6x284 => kernel_rfl); (case hSx284 => assumption); (case hYx284 => (refine Or.inl ⟨rfl, ?hyx284⟩; intro w hSw; (try dsimp only at hSw); go_simp; (try with_reducible rfl))); (case hQx284 => exact (fun _ _ _ h => h)); (try simp only [Act.put, List.setIfInBounds_toArray, List.set_cons_zero, List.set_cons_succ]))
          (refine wpAnyL_take (n := 0) (i := 10) (oi := ?ox285) (v := ?vx285) ?hix285 ?k1x285 ?k2x285 ?k3x285 ?k4x285 ?k5x285 ?k6x285 ?hQx285 ?hYx285 ?hSx285 ?restx285; (case hix285 => (simp only [List.getElem?_toArray, List.getElem?_cons_succ, List.getElem?_cons_zero]; exact rfl)); (case k1x285 => kernel_rfl); (case k2x285 => kernel_rfl); (case k3x285 => kernel_rfl); (case k4x285 => kernel_rfl); (case k5x285 => kernel_rfl); (case k6x285 => kernel_rfl); (case hSx285 => assumption); (case hYx285 => (refine Or.inl ⟨rfl, ?hyx285⟩; intro w hSw; (try dsimp only at hSw); go_simp; (try with_reducible rfl))); (case hQx285 => exact (fun _ _ _ h => h)); (try simp only [Act.put, List.setIfInBounds_toArray, List.set_cons_zero, List.set_cons_succ]))
          (refine wpAnyL_take (n := 0) (i := 11) (oi := ?ox286) (v := ?vx286) ?hix286 ?k1x286 ?k2x286 ?k3x286 ?k4x286 ?k5x286 ?k6x286 ?hQx286 ?hYx286 ?hSx286 ?restx286; (case hix286 => (simp only [List.getElem?_toArray, List.getElem?_cons_succ, List.getElem?_cons_zero]; exact rfl)); (case k1x286 => kernel_rfl); (case k2x286 => kernel_rfl); (case k3x286 => kernel_rfl); (case k4x286 => kernel_rfl); (case k5x286 => kernel_rfl); (case k6x286 => kernel_rfl); (case hSx286 => assumption); (case hYx286 => (refine Or.inl ⟨rfl, ?hyx286⟩; intro w hSw; (try dsimp only at hSw); go_simp; (try with_reducible rfl))); (case hQx286 => exact (fun _ _ _ h => h)); (try simp only [Act.put, List.setIfInBounds_toArray, List.set_cons_zero, List.set_cons_succ]))
          (refine wpAnyL_take (n := 0) (i := 12) (oi := ?ox287) (v := ?vx287) ?hix287 ?k1x287 ?k2x287 ?k3x287 ?k4x287 ?k5x287 ?k6x287 ?hQx287 ?hYx287 ?hSx287 ?restx287; (case hix287 => (simp only [List.getElem?_toArray, List.getElem?_cons_succ, List.getElem?_cons_zero]; exact rfl)); (case k1x287 => kernel_rfl); (case k2x287 => kernel_rfl); (case k3x287 => kernel_rfl); (case k4x287 => kernel_rfl); (case k5x287 => kernel_rfl); (case k6x287 => kernel_rfl); (case hSx287 => assumption); (case hYx287 => (refine Or.inl ⟨rfl, ?hyx287⟩; intro w hSw; (try dsimp only at hSw); go_simp; (try with_reducible rfl))); (case hQx287 => exact (fun _ _ _ h => h)); (try simp only [Act.put, List.setIfInBounds_toArray, List.set_cons_zero, List.set_cons_succ]))
          (refine wpAnyL_take (n := 0) (i := 13) (oi := ?ox288) (v := ?vx288) ?hix288 ?k1x288 ?k2x288 ?k3x288 ?k4x288 ?k5x288 ?k6x288 ?hQx288 ?hYx288 ?hSx288 ?restx288; (case hix288 => (simp only [List.getElem?_toArray, List.getElem?_cons_succ, List.getElem?_cons_zero]; exact rfl)); (case k1x288 => kernel_rfl); (case k2x288 => kernel_rfl); (case k3x288 => kernel_rfl); (case k4x288 => kernel_rfl); (case k5x288 => kernel_rfl); (case k6x288 => kernel_rfl); (case hSx288 => assumption); (case hYx288 => (refine Or.inl ⟨rfl, ?hyx288⟩; intro w hSw; (try dsimp only at hSw); go_simp; (try with_reducible rfl))); (case hQx288 => exact (fun _ _ _ h => h)); (try simp only [Act.put, List.setIfInBounds_toArray, List.set_cons_zero, List.set_cons_succ]))
          (refine wpAnyL_take (n := 0) (i := 14) (oi := ?ox289) (v := ?vx289) ?hix289 ?k1x289 ?k2x289 ?k3x289 ?k4x289 ?k5x289 ?k6x289 ?hQx289 ?hYx289 ?hSx289 ?restx289; (case hix289 => (simp only [List.getElem?_toArray, List.getElem?_cons_succ, List.getElem?_cons_zero]; exact rfl)); (case k1x289 => kernel_rfl); (case k2x289 => kernel_rfl); (case k3x289 => kernel_rfl); (case k4x289 => kernel_rfl); (case k5x289 => kernel_rfl); (case k6x289 => kernel_rfl); (case hSx289 => assumption); (case hYx289 => (refine Or.inl ⟨rfl, ?hyx289⟩; intro w hSw; (try dsimp only at hSw); go_simp; (try with_reducible rfl))); (case hQx289 => exact (fun _ _ _ h => h)); (try simp only [Act.put, List.setIfInBounds_toArray, List.set_cons_zero, List.set_cons_succ]))
          (refine wpAnyL_take (n := 0) (i := 15) (oi := ?ox290) (v := ?vx290) ?hix290 ?k1x290 ?k2x290 ?k3x290 ?k4x290 ?k5x290 ?k6x290 ?hQx290 ?hYx290 ?hSx290 ?restx290; (case hix290 => (simp only [List.getElem?_toArray, List.getElem?_cons_succ, List.getElem?_cons_zero]; exact rfl)); (case k1x290 => kernel_rfl); (case k2x290 => kernel_rfl); (case k3x290 => kernel_rfl); (case k4x290 => kernel_rfl); (case k5x290 => kernel_rfl); (case k6x290 => kernel_rfl); (case hSx290 => assumption); (case hYx290 => (refine Or.inl ⟨rfl, ?hyx290⟩; intro w hSw; (try dsimp only at hSw); go_simp; (try with_reducible rfl))); (case hQx290 => exact (fun _ _ _ h => h)); (try simp only [Act.put, List.setIfInBounds_toArray, List.set_cons_zero, List.set_cons_succ]))
          (refine wpAnyL_done (by kernel_rfl) ?_ _)
          obtain ⟨hN, hBB, hFV⟩ := HFF.out
          have hBf : B = brkF (aftL l (netL l ws c)) := by rw [← hBB]; exact HWF.out
          have hB1 : -1 ≤ B := by rw [← hBB]; exact fillB_ge l ws c X
          have HOR := Lib.hid (show (F3 = 7 ∧ B = -1) ∨ (F3 = 0 ∧ F1 = B) from by
            rcases HBR.out with ⟨g1, g2⟩ | ⟨g1, g2⟩
            · exact .inl ⟨by simpa using congrArg (·.2.2) g2, by omega⟩
            · exact .inr ⟨by simpa using congrArg (·.2.2) g2, by rw [hBf]; simpa using congrArg (·.1) g2⟩)
          clear hN hBB hFV hBf hB1 HFF HBR
          go_upto_region 13 with fail
          go_cut [141] (fun v wx => v = .bool false ∧ wx = w1)
          case first =>
            rcases HOR.out with ⟨rfl, rfl⟩ | ⟨rfl, rfl⟩
            · go_wp2_with fail
              go_meet
              exact ⟨rfl, rfl⟩
            · go_wp2_with fail
              go_meet
              exact ⟨rfl, rfl⟩
          case rest =>
            obtain ⟨rfl, rfl⟩ := hcut
            clear HOR
            obtain ⟨x0, x1, x2, x3, x4, x5, x6, x7, x8, x9⟩ := HXX.out _ HQ.out
            obtain ⟨bs, os, st, hSA, hbs, hst, s0, s1, s2, s3⟩ := (HRS.out).atT hkn
            subst hSA
            have hkn' : (k : Int) < (nI : Int) := by omega
            have hk0 : (0 : Int) ≤ (k : Int) := by omega
            have hm1 : at_.tmod (nI : Int) = (k : Int) := by rw [HK.out]; exact Int.tmod_eq_emod_of_nonneg hat.1
            have hm2 : at_ % (nI : Int) = (k : Int) := HK.out.symm
            go_upto_region 16 with fail
            clear hm1 hm2
            obtain ⟨sh, sl, si, sv⟩ := st
            simp only at s0 s1 s2 s3
            clear s3
            cases sh
            · clear s1 s2 hst
              clear x0 x1 x2 x3 x4 x5 x6 x7 x8 x9
              go_wp2_with fail
              go_wp2_with fail
              go_at_call 18
              refine (HAW.out _).mono ?_
              rintro e w1 ⟨rfl, hb9⟩
              have t0 := below_tr HB.out hb9
              clear HB
              have HB := Lib.hid t0
              clear t0
              clear hb9 
              go_wp2_with fail
              go_ret
              exact ⟨rfl, HB.out⟩
            · have hgl := stt_goal HOK.out hst rfl
              simp only at hgl
              obtain ⟨G, hG, hGR⟩ : ∃ G, G = (if low then sl else si) ∧ Rch l (netL l ws c) l.soft.2 (k + 1) G := by
                cases low
                · exact ⟨_, rfl, hgl.2⟩
                · exact ⟨_, rfl, hgl.1⟩
              have HGG := Lib.hid hG; have HGR := Lib.hid hGR
              clear hgl hst hG hGR
              go_upto_if 160 with (fail)
              go_cut [22] (fun v wx => v = .int .i64 G ∧ wx = wc)
              case first =>
                cases low
                all_goals
                  go_wp2_with fail
                  go_meet
                  exact ⟨by rw [HGG.out]; rfl, rfl⟩
              case rest =>
                obtain ⟨rfl, rfl⟩ := hcut
                go_wp2_with fail
                go_at_call 48
                refine (back_c (HL.out.below HB.out) (HW.out.below HB.out) (HC.out.below HB.out) HRS.out HOK.out HWO.out HCO.out hkn HGR.out).mono ?_
                rintro e w1 ⟨FA2, cF2, SA2, cS2, X2, rfl, hrx, hc1, hc2, hft2, hv2, hb2, hb9⟩
                have t0 := below_tr HB.out hb9; have t1 := below_tr HQ.out hb9; have t2 := HRS.out.below hb9
                clear HB HQ HRS
                have HB := Lib.hid t0; have HQ := Lib.hid t1; have HRS := Lib.hid t2
                clear t0 t1 t2
                have HRX2 := Lib.hid hrx
                have HFT2 := Lib.hid hft2
                have HV2 := Lib.hid hv2
                have HB2 := Lib.hid hb2
                clear hb9 hrx hft2 hv2 hb2
                clear s0 s1 s2
                go_upto_region 24 with fail
                clear x0 x1 x2 x3 x4 x5 x6 x7 x8 x9
                have hal := (Below.refl w1.heap.size w1).alloc (Nat.le_refl _) (.cells (xA FA2 nI cF2 SA2 nI cS2 X2) 75)
                have hn2 := Blk.new w1 75 (xA FA2 nI cF2 SA2 nI cS2 X2)
                have t0 := below_tr HB.out hal; have t1 := below_tr HQ.out hal; have t2 := HRS.out.below hal; have t3 := HRX2.out.below hal
                clear HB HQ HRS HRX2
                have HB := Lib.hid t0; have HQ := Lib.hid t1; have HRS := Lib.hid t2; have HRX2 := Lib.hid t3
                clear t0 t1 t2 t3
                have HXB2 := Lib.hid hn2
                clear hal hn2
                rw [show #[Value.slice FA2 nI cF2, Value.slice SA2 nI cS2, Value.int IntKind.i64 X2.start, Value.int IntKind.i64 X2.soft] = xA FA2 nI cF2 SA2 nI cS2 X2 from rfl]
                revert HB HQ HRS HRX2 HXB2
                generalize hg2 : w1.heap.size = g2
                generalize (World.alloc w1 (.cells (xA FA2 nI cF2 SA2 nI cS2 X2) 75)) = w1
                intro HB HQ HRS HRX2 HXB2
                clear hg2
                refine wp_region_till [] (fun U => U.cell? ⟨w.heap.size, 0, none⟩ = some (.slice VA nV cV) ∧ U.cell? ⟨w.heap.size, 1, none⟩ = some (.int .i64 l.crest) ∧ U.cell? ⟨w.heap.size, 2, none⟩ = some (.int .i64 l.weak) ∧ U.cell? ⟨w.heap.size, 3, none⟩ = some (.int .i64 l.soft.1) ∧ U.cell? ⟨w.heap.size, 4, none⟩ = some (.int .i64 l.soft.2) ∧ U.cell? ⟨w.heap.size, 5, none⟩ = some (.int .i64 l.start.1) ∧ U.cell? ⟨w.heap.size, 6, none⟩ = some (.int .i64 l.start.2) ∧ U.cell? ⟨w.heap.size, 7, none⟩ = some (.int .i64 l.seep.1) ∧ U.cell? ⟨w.heap.size, 8, none⟩ = some (.int .i64 l.seep.2) ∧ U.cell? ⟨w.heap.size, 9, none⟩ = some (.slice IA nI cI) ∧ U.cell? ⟨g2, 0, none⟩ = some (.slice FA2 nI cF2) ∧ U.cell? ⟨g2, 1, none⟩ = some (.slice SA2 nI cS2) ∧ U.cell? ⟨g2, 2, none⟩ = some (.int .i64 X2.start) ∧ U.cell? ⟨g2, 3, none⟩ = some (.int .i64 X2.soft)) (by kernel_rfl) (by exact and10 (HXX.out _ HQ.out.drew) (blk_xA (show Blk w1.drew g2 _ _ from HXB2.out))) (fun hHeld => ?_)
                have hb9 := (Below.refl w1.heap.size w1).drew
                have t0 := below_tr HB.out hb9; have t1 := below_tr HQ.out hb9; have t2 := HRS.out.below hb9; have t3 := HRX2.out.below hb9; have t4 := HXB2.out.below hb9 HXB2.out.lt
                clear HB HQ HRS HRX2 HXB2
                have HB := Lib.hid t0; have HQ := Lib.hid t1; have HRS := Lib.hid t2; have HRX2 := Lib.hid t3; have HXB2 := Lib.hid t4
                clear t0 t1 t2 t3 t4
                clear hb9
                revert hHeld HB HQ HRS HRX2 HXB2
                generalize w1.drew = w0
                intro hHeld HB HQ HRS HRX2 HXB2
                (refine wpAnyL_take (n := 0) (i := 0) (oi := ?ox291) (v := ?vx291) ?hix291 ?k1x291 ?k2x291 ?k3x291 ?k4x291 ?k5x291 ?k6x291 ?hQx291 ?hYx291 ?hSx291 ?restx291; (case hix291 => (simp only [List.getElem?_toArray, List.getElem?_cons_succ, List.getElem?_cons_zero]; exact rfl)); (case k1x291 => kernel_rfl); (case k2x291 => kernel_rfl); (case k3x291 => kernel_rfl); (case k4x291 => kernel_rfl); (case k5x291 => kernel_rfl); (case k6x291 => kernel_rfl); (case hSx291 => assumption); (case hYx291 => (refine Or.inl ⟨rfl, ?hyx291⟩; intro w hSw; (try dsimp only at hSw); go_simp; (try with_reducible rfl))); (case hQx291 => exact (fun _ _ _ h => h)); (try simp only [Act.put, List.setIfInBounds_toArray, List.set_cons_zero, List.set_cons_succ]))
                (refine wpAnyL_take (n := 0) (i := 2) (oi := ?ox292) (v := ?vx292) ?hix292 ?k1x292 ?k2x292 ?k3x292 ?k4x292 ?k5x292 ?k6x292 ?hQx292 ?hYx292 ?hSx292 ?restx292; (case hix292 => (simp only [List.getElem?_toArray, List.getElem?_cons_succ, List.getElem?_cons_zero]; exact rfl)); (case k1x292 => kernel_rfl); (case k2x292 => kernel_rfl); (case k3x292 => kernel_rfl); (case k4x292 => kernel_rfl); (case k5x292 => kernel_rfl); (case k6x292 => kernel_rfl); (case hSx292 => assumption); (case hYx292 => (refine Or.inl ⟨rfl, ?hyx292⟩; intro w hSw; (try dsimp only at hSw); go_simp; (try with_reducible rfl))); (case hQx292 => exact (fun _ _ _ h => h)); (try simp only [Act.put, List.setIfInBounds_toArray, List.set_cons_zero, List.set_cons_succ]))
                (refine wpAnyL_take (n := 0) (i := 4) (oi := ?ox293) (v := ?vx293) ?hix293 ?k1x293 ?k2x293 ?k3x293 ?k4x293 ?k5x293 ?k6x293 ?hQx293 ?hYx293 ?hSx293 ?restx293; (case hix293 => (simp only [List.getElem?_toArray, List.getElem?_cons_succ, List.getElem?_cons_zero]; exact rfl)); (case k1x293 => kernel_rfl); (case k2x293 => kernel_rfl); (case k3x293 => kernel_rfl); (case k4x293 => kernel_rfl); (case k5x293 => kernel_rfl); (case k6x293 => kernel_rfl); (case hSx293 => assumption); (case hYx293 => (refine Or.inl ⟨rfl, ?hyx293⟩; intro w hSw; (try dsimp only at hSw); go_simp; (try with_reducible rfl))); (case hQx293 => exact (fun _ _ _ h => h)); (try simp only [Act.put, List.setIfInBounds_toArray, List.set_cons_zero, List.set_cons_succ]))
                (refine wpAnyL_take (n := 0) (i := 6) (oi := ?ox294) (v := ?vx294) ?hix294 ?k1x294 ?k2x294 ?k3x294 ?k4x294 ?k5x294 ?k6x294 ?hQx294 ?hYx294 ?hSx294 ?restx294; (case hix294 => (simp only [List.getElem?_toArray, List.getElem?_cons_succ, List.getElem?_cons_zero]; exact rfl)); (case k1x294 => kernel_rfl); (case k2x294 => kernel_rfl); (case k3x294 => kernel_rfl); (case k4x294 => kernel_rfl); (case k5x294 => kernel_rfl); (case k6x294 => kernel_rfl); (case hSx294 => assumption); (case hYx294 => (refine Or.inl ⟨rfl, ?hyx294⟩; intro w hSw; (try dsimp only at hSw); go_simp; (try with_reducible rfl))); (case hQx294 => exact (fun _ _ _ h => h)); (try simp only [Act.put, List.setIfInBounds_toArray, List.set_cons_zero, List.set_cons_succ]))
                refine wpAnyL_ready (rs := [1]) (by kernel_rfl) (by simp) ?_
                refine AllReadyL.cons (o := ?o1x295) ?hi1x295 (fun K hK => ?_) AllReadyL.nil
                (case hi1x295 => (simp only [List.getElem?_toArray, List.getElem?_cons_succ, List.getElem?_cons_zero]; exact rfl))
                go_simp
                go_at_call 20
                refine (HLK.out _ HB.out).mono ?_
                rintro e w1 ⟨VA', cV', IA', cI', rfl, hcv, hci, hrl, hb9⟩
                have t0 := below_tr HB.out hb9; have t1 := below_tr HQ.out hb9; have t2 := HRS.out.below hb9; have t3 := HRX2.out.below hb9; have t4 := HXB2.out.below hb9 HXB2.out.lt
                clear HB HQ HRS HRX2 HXB2
                have HB := Lib.hid t0; have HQ := Lib.hid t1; have HRS := Lib.hid t2; have HRX2 := Lib.hid t3; have HXB2 := Lib.hid t4
                clear t0 t1 t2 t3 t4
                have HRL := Lib.hid hrl
                have HCV := Lib.hid hcv
                have HCI := Lib.hid hci
                clear hb9 hrl hcv hci
                (try go_wp2_with fail)
                (try clear hHeld)
                refine hK.out _ _ (by (try dsimp only); exact and10 (HXX.out _ HQ.out) (blk_xA HXB2.out)) (fun hHeld => ?_)
                clear hK K
                (try simp only [Act.put, List.setIfInBounds_toArray, List.set_cons_zero, List.set_cons_succ])
                refine wpAnyL_ready (rs := [3]) (by kernel_rfl) (by simp) ?_
                refine AllReadyL.cons (o := ?o3x296) ?hi3x296 (fun K hK => ?_) AllReadyL.nil
                (case hi3x296 => (simp only [List.getElem?_toArray, List.getElem?_cons_succ, List.getElem?_cons_zero]; exact rfl))
                go_simp
                go_at_call 21
                refine (HWK.out _ HB.out).mono ?_
                rintro e w1 ⟨WA', cW', rfl, hcw, hrw, hb9⟩
                have t0 := below_tr HB.out hb9; have t1 := below_tr HQ.out hb9; have t2 := HRS.out.below hb9; have t3 := HRX2.out.below hb9; have t4 := HXB2.out.below hb9 HXB2.out.lt; have t5 := HRL.out.below hb9
                clear HB HQ HRS HRX2 HXB2 HRL
                have HB := Lib.hid t0; have HQ := Lib.hid t1; have HRS := Lib.hid t2; have HRX2 := Lib.hid t3; have HXB2 := Lib.hid t4; have HRL := Lib.hid t5
                clear t0 t1 t2 t3 t4 t5
                have HRW := Lib.hid hrw
                have HCW := Lib.hid hcw
                clear hb9 hrw hcw
                (try go_wp2_with fail)
                (try clear hHeld)
                refine hK.out _ _ (by (try dsimp only); exact and10 (HXX.out _ HQ.out) (blk_xA HXB2.out)) (fun hHeld => ?_)
                clear hK K
                (try simp only [Act.put, List.setIfInBounds_toArray, List.set_cons_zero, List.set_cons_succ])
                refine wpAnyL_ready (rs := [5]) (by kernel_rfl) (by simp) ?_
                refine AllReadyL.cons (o := ?o5x297) ?hi5x297 (fun K hK => ?_) AllReadyL.nil
                (case hi5x297 => (simp only [List.getElem?_toArray, List.getElem?_cons_succ, List.getElem?_cons_zero]; exact rfl))
                go_simp
                go_at_call 27
                refine (HLI.out _ HB.out).mono ?_
                rintro e w1 ⟨CA', cC', rfl, hcc, hrc, hb9⟩
                have t0 := below_tr HB.out hb9; have t1 := below_tr HQ.out hb9; have t2 := HRS.out.below hb9; have t3 := HRX2.out.below hb9; have t4 := HXB2.out.below hb9 HXB2.out.lt; have t5 := HRL.out.below hb9; have t6 := HRW.out.below hb9
                clear HB HQ HRS HRX2 HXB2 HRL HRW
                have HB := Lib.hid t0; have HQ := Lib.hid t1; have HRS := Lib.hid t2; have HRX2 := Lib.hid t3; have HXB2 := Lib.hid t4; have HRL := Lib.hid t5; have HRW := Lib.hid t6
                clear t0 t1 t2 t3 t4 t5 t6
                have HRC := Lib.hid hrc
                have HCC := Lib.hid hcc
                clear hb9 hrc hcc
                (try go_wp2_with fail)
                (try clear hHeld)
                refine hK.out _ _ (by (try dsimp only); exact and10 (HXX.out _ HQ.out) (blk_xA HXB2.out)) (fun hHeld => ?_)
                clear hK K
                (try simp only [Act.put, List.setIfInBounds_toArray, List.set_cons_zero, List.set_cons_succ])
                refine wpAnyL_ready (rs := [7]) (by kernel_rfl) (by simp) ?_
                refine AllReadyL.cons (o := ?o7x298) ?hi7x298 (fun K hK => ?_) AllReadyL.nil
                (case hi7x298 => (simp only [List.getElem?_toArray, List.getElem?_cons_succ, List.getElem?_cons_zero]; exact rfl))
                go_simp
                go_at_call 40
                refine (Real_c (x := X2) HRX2.out (by omega) (by omega)).mono ?_
                rintro e w1 ⟨FA', cF', EA', cE', rfl, hrx, hcf, hce, hb9⟩
                have t0 := below_tr HB.out hb9; have t1 := below_tr HQ.out hb9; have t2 := HRS.out.below hb9; have t3 := HRX2.out.below hb9; have t4 := HXB2.out.below hb9 HXB2.out.lt; have t5 := HRL.out.below hb9; have t6 := HRW.out.below hb9; have t7 := HRC.out.below hb9
                clear HB HQ HRS HRX2 HXB2 HRL HRW HRC
                have HB := Lib.hid t0; have HQ := Lib.hid t1; have HRS := Lib.hid t2; have HRX2 := Lib.hid t3; have HXB2 := Lib.hid t4; have HRL := Lib.hid t5; have HRW := Lib.hid t6; have HRC := Lib.hid t7
                clear t0 t1 t2 t3 t4 t5 t6 t7
                have HRY2 := Lib.hid hrx
                clear hb9 hrx
                clear hcf hce
                (try go_wp2_with fail)
                (try clear hHeld)
                refine hK.out _ _ (by (try dsimp only); exact and10 (HXX.out _ HQ.out) (blk_xA HXB2.out)) (fun hHeld => ?_)
                clear hK K
                (try simp only [Act.put, List.setIfInBounds_toArray, List.set_cons_zero, List.set_cons_succ])
                refine wpAnyL_ready (rs := [8]) (by kernel_rfl) (by simp) ?_
                refine AllReadyL.cons (o := ?o8x299) ?hi8x299 (fun K hK => ?_) AllReadyL.nil
                (case hi8x299 => (simp only [List.getElem?_toArray, List.getElem?_cons_succ, List.getElem?_cons_zero]; exact rfl))
                go_simp
                go_at_call 39
                refine (Fill_3 (x := X2) HRL.out HRW.out HRC.out HRY2.out HCV.out HCI.out HOK.out HWO.out HCO.out HFT2.out).mono ?_
                rintro e w1 ⟨RA, cR, N, B2, FV, rfl, hcr, hrr, hff, hb9⟩
                have t0 := below_tr HB.out hb9; have t1 := below_tr HQ.out hb9; have t2 := HRS.out.below hb9; have t3 := HRX2.out.below hb9; have t4 := HXB2.out.below hb9 HXB2.out.lt; have t5 := HRL.out.below hb9; have t6 := HRW.out.below hb9; have t7 := HRC.out.below hb9; have t8 := HRY2.out.below hb9
                clear HB HQ HRS HRX2 HXB2 HRL HRW HRC HRY2
                have HB := Lib.hid t0; have HQ := Lib.hid t1; have HRS := Lib.hid t2; have HRX2 := Lib.hid t3; have HXB2 := Lib.hid t4; have HRL := Lib.hid t5; have HRW := Lib.hid t6; have HRC := Lib.hid t7; have HRY2 := Lib.hid t8
                clear t0 t1 t2 t3 t4 t5 t6 t7 t8
                (try clear HRR)
                have HRR := Lib.hid hrr
                (try clear HCR)
                have HCR := Lib.hid hcr
                have HFF := Lib.hid hff
                clear hb9 hrr hcr hff
                clear HRL HRW HRC HRY2 HCV HCI HCW HCC
                (try go_wp2_with fail)
                (try clear hHeld)
                refine hK.out _ _ (by (try dsimp only); exact and10 (HXX.out _ HQ.out) (blk_xA HXB2.out)) (fun hHeld => ?_)
                clear hK K
                (try simp only [Act.put, List.setIfInBounds_toArray, List.set_cons_zero, List.set_cons_succ])
                (refine wpAnyL_take (n := 0) (i := 9) (oi := ?ox300) (v := ?vx300) ?hix300 ?k1x300 ?k2x300 ?k3x300 ?k4x300 ?k5x300 ?k6x300 ?hQx300 ?hYx300 ?hSx300 ?restx300; (case hix300 => (simp only [List.getElem?_toArray, List.getElem?_cons_succ, List.getElem?_cons_zero]; exact rfl)); (case k1x300 => kernel_rfl); (case k2x300 => kernel_rfl); (case k3x300 => kernel_rfl); (case k4x300 => kernel_rfl); (case k5x300 => kernel_rfl); (case k6x300 => kernel_rfl); (case hSx300 => assumption); (case hYx300 => (refine Or.inl ⟨rfl, ?hyx300⟩; intro w hSw; (try dsimp only at hSw); go_simp; (try with_reducible rfl))); (case hQx300 => exact (fun _ _ _ h => h)); (try simp only [Act.put, List.setIfInBounds_toArray, List.set_cons_zero, List.set_cons_succ]))
                (refine wpAnyL_take (n := 0) (i := 10) (oi := ?ox301) (v := ?vx301) ?hix301 ?k1x301 ?k2x301 ?k3x301 ?k4x301 ?k5x301 ?k6x301 ?hQx301 ?hYx301 ?hSx301 ?restx301; (case hix301 => (simp only [List.getElem?_toArray, List.getElem?_cons_succ, List.getElem?_cons_zero]; exact rfl)); (case k1x301 => kernel_rfl); (case k2x301 => kernel_rfl); (case k3x301 => kernel_rfl); (case k4x301 => kernel_rfl); (case k5x301 => kernel_rfl); (case k6x301 => kernel_rfl); (case hSx301 => assumption); (case hYx301 => (refine Or.inl ⟨rfl, ?hyx301⟩; intro w hSw; (try dsimp only at hSw); go_simp; (try with_reducible rfl))); (case hQx301 => exact (fun _ _ _ h => h)); (try simp only [Act.put, List.setIfInBounds_toArray, List.set_cons_zero, List.set_cons_succ]))
                (refine wpAnyL_take (n := 0) (i := 11) (oi := ?ox302) (v := ?vx302) ?hix302 ?k1x302 ?k2x302 ?k3x302 ?k4x302 ?k5x302 ?k6x302 ?hQx302 ?hYx302 ?hSx302 ?restx302; (case hix302 => (simp only [List.getElem?_toArray, List.getElem?_cons_succ, List.getElem?_cons_zero]; exact rfl)); (case k1x302 => kernel_rfl); (case k2x302 => kernel_rfl); (case k3x302 => kernel_rfl); (case k4x302 => kernel_rfl); (case k5x302 => kernel_rfl); (case k6x302 => kernel_rfl); (case hSx302 => assumption); (case hYx302 => (refine Or.inl ⟨rfl, ?hyx302⟩; intro w hSw; (try dsimp only at hSw); go_simp; (try with_reducible rfl))); (case hQx302 => exact (fun _ _ _ h => h)); (try simp only [Act.put, List.setIfInBounds_toArray, List.set_cons_zero, List.set_cons_succ]))
                (refine wpAnyL_take (n := 0) (i := 12) (oi := ?ox303) (v := ?vx303) ?hix303 ?k1x303 ?k2x303 ?k3x303 ?k4x303 ?k5x303 ?k6x303 ?hQx303 ?hYx303 ?hSx303 ?restx303; (case hix303 => (simp only [List.getElem?_toArray, List.getElem?_cons_succ, List.getElem?_cons_zero]; exact rfl)); (case k1x303 => kernel_rfl); (case k2x303 => kernel_rfl); (case k3x303 => kernel_rfl); (case k4x303 => kernel_rfl); (case k5x303 => kernel_rfl); (case k6x303 => kernel_rfl); (case hSx303 => assumption); (case hYx303 => (refine Or.inl ⟨rfl, ?hyx303⟩; intro w hSw; (try dsimp only at hSw); go_simp; (try with_reducible rfl))); (case hQx303 => exact (fun _ _ _ h => h)); (try simp only [Act.put, List.setIfInBounds_toArray, List.set_cons_zero, List.set_cons_succ]))
                (refine wpAnyL_take (n := 0) (i := 13) (oi := ?ox304) (v := ?vx304) ?hix304 ?k1x304 ?k2x304 ?k3x304 ?k4x304 ?k5x304 ?k6x304 ?hQx304 ?hYx304 ?hSx304 ?restx304; (case hix304 => (simp only [List.getElem?_toArray, List.getElem?_cons_succ, List.getElem?_cons_zero]; exact rfl)); (case k1x304 => kernel_rfl); (case k2x304 => kernel_rfl); (case k3x304 => kernel_rfl); (case k4x304 => kernel_rfl); (case k5x304 => kernel_rfl); (case k6x304 => kernel_rfl); (case hSx304 => assumption); (case hYx304 => (refine Or.inl ⟨rfl, ?hyx304⟩; intro w hSw; (try dsimp only at hSw); go_simp; (try with_reducible rfl))); (case hQx304 => exact (fun _ _ _ h => h)); (try simp only [Act.put, List.setIfInBounds_toArray, List.set_cons_zero, List.set_cons_succ]))
                (refine wpAnyL_take (n := 0) (i := 14) (oi := ?ox305) (v := ?vx305) ?hix305 ?k1x305 ?k2x305 ?k3x305 ?k4x305 ?k5x305 ?k6x305 ?hQx305 ?hYx305 ?hSx305 ?restx305; (case hix305 => (simp only [List.getElem?_toArray, List.getElem?_cons_succ, List.getElem?_cons_zero]; exact rfl)); (case k1x305 => kernel_rfl); (case k2x305 => kernel_rfl); (case k3x305 => kernel_rfl); (case k4x305 => kernel_rfl); (case k5x305 => kernel_rfl); (case k6x305 => kernel_rfl); (case hSx305 => assumption); (case hYx305 => (refine Or.inl ⟨rfl, ?hyx305⟩; intro w hSw; (try dsimp only at hSw); go_simp; (try with_reducible rfl))); (case hQx305 => exact (fun _ _ _ h => h)); (try simp only [Act.put, List.setIfInBounds_toArray, List.set_cons_zero, List.set_cons_succ]))
                (refine wpAnyL_take (n := 0) (i := 15) (oi := ?ox306) (v := ?vx306) ?hix306 ?k1x306 ?k2x306 ?k3x306 ?k4x306 ?k5x306 ?k6x306 ?hQx306 ?hYx306 ?hSx306 ?restx306; (case hix306 => (simp only [List.getElem?_toArray, List.getElem?_cons_succ, List.getElem?_cons_zero]; exact rfl)); (case k1x306 => kernel_rfl); (case k2x306 => kernel_rfl); (case k3x306 => kernel_rfl); (case k4x306 => kernel_rfl); (case k5x306 => kernel_rfl); (case k6x306 => kernel_rfl); (case hSx306 => assumption); (case hYx306 => (refine Or.inl ⟨rfl, ?hyx306⟩; intro w hSw; (try dsimp only at hSw); go_simp; (try with_reducible rfl))); (case hQx306 => exact (fun _ _ _ h => h)); (try simp only [Act.put, List.setIfInBounds_toArray, List.set_cons_zero, List.set_cons_succ]))
                (refine wpAnyL_done (by kernel_rfl) ?_ _)
                have hef := ends_fill (l := l) (ws := ws) (c := c) (x := X2) (by have := HIL.out; omega) HV2.out HB2.out
                obtain ⟨hN, hBB, hFV⟩ := HFF.out
                rw [hN, hBB, hFV] at hef
                obtain ⟨e1, e2, e3⟩ := hef
                obtain ⟨bv, ov, v', hRA, hbv, hv, v0⟩ := HRR.out.at1 e1
                subst hRA
                rw [e2] at hv
                cases hv
                have hkN : (k : Int) < (N : Int) := by omega
                have HE3 := Lib.hid e3
                clear hN hBB hFV e1 e2 e3 HFF
                go_upto_region 25 with fail
                rcases HE3.out with h9 | h9
                · subst h9
                  go_wp2_with fail
                  go_at_call 18
                  refine (HAW.out _).mono ?_
                  rintro e w1 ⟨rfl, hb9⟩
                  have t0 := below_tr HB.out hb9
                  clear HB
                  have HB := Lib.hid t0
                  clear t0
                  clear hb9 
                  go_wp2_with fail
                  go_ret
                  exact ⟨rfl, HB.out⟩
                · have hB0 : ¬ B2 < 0 := by omega
                  go_wp2_with fail
                  go_at_call 18
                  refine (HAW.out _).mono ?_
                  rintro e w1 ⟨rfl, hb9⟩
                  have t0 := below_tr HB.out hb9
                  clear HB
                  have HB := Lib.hid t0
                  clear t0
                  clear hb9 
                  go_wp2_with fail
                  go_ret
                  exact ⟨rfl, HB.out⟩
end
end Go.Proofs.Ytpijmfbpdglchaa
