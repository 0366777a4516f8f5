/- CONTRACT of the law's Few: what is few is thin. -/
import Derived.Test.YtpijmfbpdglchaaKReady
import Derived.Test.YtpijmfbpdglchaaKTool
import Derived.Test.YtpijmfbpdglchaaKReal
set_option linter.unusedVariables false
set_option linter.unusedSimpArgs false
namespace Go.Proofs.Ytpijmfbpdglchaa
open Go.RowKit Go.Proofs
attribute [local go_sem ↓] Go.wp_at_zero Go.wp_at_succ
def FewP (w : World) (l : Lak) (ws : List Wrk) (c : List Int) (e : Ending) (w' : World) : Prop := ∃ b, e = .returned (.bool b) ∧ (b = true → thinA l ws c = true) ∧ Below w.heap.size w w'
theorem FewP.mk {w w' : World} {l : Lak} {ws : List Wrk} {c : List Int} {b : Bool} (h : b = true → thinA l ws c = true) (hb : Below w.heap.size w w') : FewP w l ws c (.returned (.bool b)) w' := ⟨b, rfl, h, hb⟩
section
variable {VA IA WA CA : Option Addr} {nV nI cV cI nW cW nC cC : Nat} {l : Lak} {ws : List Wrk} {c : List Int} {w : World}
set_option maxRecDepth 100000 in
set_option maxHeartbeats 2000000 in
theorem Few_c (h : RdL w VA nV IA nI l) (hw : Rd encW 3 w WA nW ws) (hc : Rd enc1 1 w CA nC c) (hnV : nV ≤ maxLen) (hnI : nI ≤ maxLen) (hnW : nW ≤ maxLen) (hnC : nC ≤ maxLen) :
    Calls Try.prog 16 #[.agg (lA VA nV cV IA nI cI l), .slice WA nW cW, .slice CA nC cC] w (FewP w l ws c) := by
  have hb0 := (Below.refl w.heap.size w).alloc (Nat.le_refl _) (.cells (lA VA nV cV IA nI cI l) 27)
  have HB := Lib.hid hb0
  have hil := h.infl.len
  have HT := Lib.hid (fun (U : World) => Thin_c (w := U) (VA := VA) (IA := IA) (WA := WA) (CA := CA) (cV := cV) (cI := cI) (cW := cW) (cC := cC) h.vols.len h.infl.len hw.len hc.len)
  have HF := Lib.hid (fun (U : World) (hU : Below w.heap.size w U) => rFault_c (cV := cV) (cI := cI) (h.below hU) hnV hnI)
  have HW := Lib.hid (fun (U : World) (hU : Below w.heap.size w U) => rWorksFault_c (c := cW) (hw.below hU) hnW)
  have HXX := Lib.hid (fun U hU => lA_cells (VA := VA) (IA := IA) (nV := nV) (nI := nI) (cV := cV) (cI := cI) (l := l) w (U := U) hU)
  have HQ := Lib.hid (Below.refl (w.alloc (.cells (lA VA nV cV IA nI cI l) 27)).heap.size (w.alloc (.cells (lA VA nV cV IA nI cI l) 27)))
  have HIN := Lib.hid h.infl
  have HOK := Lib.hid (errL_zero (l := l))
  have HTN := Lib.hid (show thinA l ws c = true → nI ≤ 65 from fun hh => by rw [← hil]; unfold thinA at hh; simp only [Bool.and_eq_true, decide_eq_true_eq] at hh; exact hh.2.1)
  have HIL := Lib.hid hil
  clear h hw hc hb0 hil
  obtain ⟨T, hT⟩ : ∃ T, T = thinA l ws c := ⟨_, rfl⟩
  have HTT := Lib.hid hT
  rw [← hT] at HT HTN
  clear hT
  obtain ⟨x0, x1, x2, x3, x4, x5, x6, x7, x8, x9⟩ := HXX.out _ HQ.out
  cases T
  · go_enter Try.func16, Try.ntmps16
    go_wp2_with fail
    go_at_call 38
    refine (HT.out _).mono ?_
    rintro e w1 ⟨rfl, hb9⟩
    have t0 := below_tr HB.out hb9; have t1 := below_tr HQ.out hb9
    clear HB HQ
    have HB := Lib.hid t0; have HQ := Lib.hid t1
    clear t0 t1
    clear hb9 
    obtain ⟨x0, x1, x2, x3, x4, x5, x6, x7, x8, x9⟩ := HXX.out _ HQ.out
    go_wp2_with fail
    go_at_call 38
    refine (HT.out _).mono ?_
    rintro e w1 ⟨rfl, hb9⟩
    have t0 := below_tr HB.out hb9; have t1 := below_tr HQ.out hb9
    clear HB HQ
    have HB := Lib.hid t0; have HQ := Lib.hid t1
    clear t0 t1
    clear hb9 
    go_wp2_with fail
    go_ret
    exact FewP.mk (fun hh => by cases hh) HB.out
  · have hT := HTN.out rfl
    have HTX := Lib.hid (HTT.out)
    clear HTT
    by_cases hL : errL l = 0
    · have hok := HOK.out.1 hL
      rw [hL] at HF
      have HF2 := Lib.hid HF.out; clear HF; have HF := HF2; clear HF2
      have HOO := Lib.hid hok
      clear hL hok
      by_cases hW : errW ws = 0
      · rw [hW] at HW
        have HW2 := Lib.hid HW.out; clear HW; have HW := HW2; clear HW2 hW
        have hst := HOO.out.start; have hse := HOO.out.seep; have hwv := HOO.out.weakV; have hso := HOO.out.soft
        go_enter Try.func16, Try.ntmps16
        go_wp2_with fail
        go_at_call 38
        refine (HT.out _).mono ?_
        rintro e w1 ⟨rfl, hb9⟩
        have t0 := below_tr HB.out hb9; have t1 := below_tr HQ.out hb9
        clear HB HQ
        have HB := Lib.hid t0; have HQ := Lib.hid t1
        clear t0 t1
        clear hb9 
        obtain ⟨x0, x1, x2, x3, x4, x5, x6, x7, x8, x9⟩ := HXX.out _ HQ.out
        go_wp2_with fail
        go_at_call 34
        refine (HF.out _ HB.out).mono ?_
        rintro e w1 ⟨rfl, hb9⟩
        have t0 := below_tr HB.out hb9; have t1 := below_tr HQ.out hb9
        clear HB HQ
        have HB := Lib.hid t0; have HQ := Lib.hid t1
        clear t0 t1
        clear hb9 
        go_wp2_with fail
        go_at_call 56
        refine (HW.out _ HB.out).mono ?_
        rintro e w1 ⟨rfl, hb9⟩
        have t0 := below_tr HB.out hb9; have t1 := below_tr HQ.out hb9
        clear HB HQ
        have HB := Lib.hid t0; have HQ := Lib.hid t1
        clear t0 t1
        clear hb9 
        obtain ⟨x0, x1, x2, x3, x4, x5, x6, x7, x8, x9⟩ := HXX.out _ HQ.out
        go_wp2_with fail
        go_loopw [7, 8] (fun sv iv wr => ∃ (k : Nat) (s : Int), k ≤ nI ∧ iv = .int .i64 k ∧ sv = .int .i64 s ∧ 0 ≤ s ∧ s ≤ 1000000 + 1000000 * (k : Int) ∧ Below w1.heap.size w1 wr) (fun _ iv _ => nI - (intOf iv).toNat)
        case atStart => exact ⟨0, _, Nat.zero_le _, rfl, rfl, by omega, by omega, Below.refl _ _⟩
        case round =>
          obtain ⟨k, s, hk, rfl, rfl, hs0, hs1, hbr⟩ := hrel
          clear x0 x1 x2 x3 x4 x5 x6 x7 x8 x9
          obtain ⟨z0, z1, z2, z3, z4, z5, z6, z7, z8, z9⟩ := HXX.out _ (below_tr HQ.out hbr)
          by_cases hlt : k < nI
          · obtain ⟨b, o, r, hA, hbl, hr, e0, e1⟩ := (HIN.out.below (below_tr HB.out hbr)).at2 hlt
            subst hA
            have hrb := HOO.out.inflow k r hr
            have hkn : (k : Int) < (nI : Int) := by omega
            have hk0 : (0 : Int) ≤ (k : Int) := by omega
            clear hr
            go_wp2_with fail
            have HS9 := Lib.hid (fun (U : World) (hU : Below wr.heap.size wr U) => show U.cell? ⟨w.heap.size, 7, none⟩ = some (.int .i64 l.seep.1) ∧ U.cell? ⟨w.heap.size, 8, none⟩ = some (.int .i64 l.seep.2) ∧ U.cell? ⟨w.heap.size, 9, none⟩ = some (.slice (some ⟨b, o, none⟩) nI cI) ∧ U.cell? ⟨b, o + k * 2, none⟩ = some (.int .i64 r.1) ∧ U.cell? ⟨b, o + k * 2 + 1, none⟩ = some (.int .i64 r.2) from
              ⟨bel_keep hU z7, bel_keep hU z8, bel_keep hU z9, bel_keep hU e0, bel_keep hU e1⟩)
            have HB4 := Lib.hid (Below.refl wr.heap.size wr); have HB5 := Lib.hid (below_tr HB.out hbr); have HB6 := Lib.hid hbr
            have m1 : IntKind.i64.wrap (r.2 - r.1) = r.2 - r.1 := wi (by omega)
            have m2 : IntKind.i64.wrap (r.2 - r.1 + l.seep.2) = r.2 - r.1 + l.seep.2 := wi (by omega)
            have m3 : IntKind.i64.wrap (r.2 - r.1 + l.seep.2 - l.seep.1) = r.2 - r.1 + l.seep.2 - l.seep.1 := wi (by omega)
            clear hbr z0 z1 z2 z3 z4 z5 z6 z7 z8 z9 e0 e1
            refine wp_region_till [] (fun U => U.cell? ⟨w.heap.size, 7, none⟩ = some (.int .i64 l.seep.1) ∧ U.cell? ⟨w.heap.size, 8, none⟩ = some (.int .i64 l.seep.2) ∧ U.cell? ⟨w.heap.size, 9, none⟩ = some (.slice (some ⟨b, o, none⟩) nI cI) ∧ U.cell? ⟨b, o + k * 2, none⟩ = some (.int .i64 r.1) ∧ U.cell? ⟨b, o + k * 2 + 1, none⟩ = some (.int .i64 r.2)) (by kernel_rfl) (by exact HS9.out _ HB4.out.drew) (fun hHeld => ?_)
            have hb9 := (Below.refl wr.heap.size wr).drew
            have t0 := below_tr HB4.out hb9; have t1 := below_tr HB5.out hb9; have t2 := below_tr HB6.out hb9
            clear HB4 HB5 HB6
            have HB4 := Lib.hid t0; have HB5 := Lib.hid t1; have HB6 := Lib.hid t2
            clear t0 t1 t2
            clear hb9
            revert hHeld HB4 HB5 HB6
            generalize wr.drew = w0
            intro hHeld HB4 HB5 HB6
            (refine wpAnyL_take (n := 0) (i := 0) (oi := ?ox1) (v := ?vx1) ?hix1 ?k1x1 ?k2x1 ?k3x1 ?k4x1 ?k5x1 ?k6x1 ?hQx1 ?hYx1 ?hSx1 ?restx1; (case hix1 => (simp only [List.getElem?_toArray, List.getElem?_cons_succ, List.getElem?_cons_zero]; exact rfl)); (case k1x1 => kernel_rfl); (case k2x1 => kernel_rfl); (case k3x1 => kernel_rfl); (case k4x1 => kernel_rfl); (case k5x1 => kernel_rfl); (case k6x1 => kernel_rfl); (case hSx1 => assumption); (case hYx1 => (refine Or.inl ⟨rfl, ?hyx1⟩; intro w hSw; (try dsimp only at hSw); go_simp; (try with_reducible rfl))); (case hQx1 => exact (fun _ _ _ h => h)); (try simp only [Act.put, List.setIfInBounds_toArray, List.set_cons_zero, List.set_cons_succ]))
            (refine wpAnyL_take (n := 0) (i := 1) (oi := ?ox2) (v := ?vx2) ?hix2 ?k1x2 ?k2x2 ?k3x2 ?k4x2 ?k5x2 ?k6x2 ?hQx2 ?hYx2 ?hSx2 ?restx2; (case hix2 => (simp only [List.getElem?_toArray, List.getElem?_cons_succ, List.getElem?_cons_zero]; exact rfl)); (case k1x2 => kernel_rfl); (case k2x2 => kernel_rfl); (case k3x2 => kernel_rfl); (case k4x2 => kernel_rfl); (case k5x2 => kernel_rfl); (case k6x2 => kernel_rfl); (case hSx2 => assumption); (case hYx2 => (refine Or.inl ⟨rfl, ?hyx2⟩; intro w hSw; (try dsimp only at hSw); go_simp; (try with_reducible rfl))); (case hQx2 => exact (fun _ _ _ h => h)); (try simp only [Act.put, List.setIfInBounds_toArray, List.set_cons_zero, List.set_cons_succ]))
            (refine wpAnyL_take (n := 0) (i := 2) (oi := ?ox3) (v := ?vx3) ?hix3 ?k1x3 ?k2x3 ?k3x3 ?k4x3 ?k5x3 ?k6x3 ?hQx3 ?hYx3 ?hSx3 ?restx3; (case hix3 => (simp only [List.getElem?_toArray, List.getElem?_cons_succ, List.getElem?_cons_zero]; exact rfl)); (case k1x3 => kernel_rfl); (case k2x3 => kernel_rfl); (case k3x3 => kernel_rfl); (case k4x3 => kernel_rfl); (case k5x3 => kernel_rfl); (case k6x3 => kernel_rfl); (case hSx3 => assumption); (case hYx3 => (refine Or.inl ⟨rfl, ?hyx3⟩; intro w hSw; (try dsimp only at hSw); go_simp; (try with_reducible rfl))); (case hQx3 => exact (fun _ _ _ h => h)); (try simp only [Act.put, List.setIfInBounds_toArray, List.set_cons_zero, List.set_cons_succ]))
            (refine wpAnyL_take (n := 0) (i := 3) (oi := ?ox4) (v := ?vx4) ?hix4 ?k1x4 ?k2x4 ?k3x4 ?k4x4 ?k5x4 ?k6x4 ?hQx4 ?hYx4 ?hSx4 ?restx4; (case hix4 => (simp only [List.getElem?_toArray, List.getElem?_cons_succ, List.getElem?_cons_zero]; exact rfl)); (case k1x4 => kernel_rfl); (case k2x4 => kernel_rfl); (case k3x4 => kernel_rfl); (case k4x4 => kernel_rfl); (case k5x4 => kernel_rfl); (case k6x4 => kernel_rfl); (case hSx4 => assumption); (case hYx4 => (refine Or.inl ⟨rfl, ?hyx4⟩; intro w hSw; (try dsimp only at hSw); go_simp; (try with_reducible rfl))); (case hQx4 => exact (fun _ _ _ h => h)); (try simp only [Act.put, List.setIfInBounds_toArray, List.set_cons_zero, List.set_cons_succ]))
            (refine wpAnyL_take (n := 0) (i := 4) (oi := ?ox5) (v := ?vx5) ?hix5 ?k1x5 ?k2x5 ?k3x5 ?k4x5 ?k5x5 ?k6x5 ?hQx5 ?hYx5 ?hSx5 ?restx5; (case hix5 => (simp only [List.getElem?_toArray, List.getElem?_cons_succ, List.getElem?_cons_zero]; exact rfl)); (case k1x5 => kernel_rfl); (case k2x5 => kernel_rfl); (case k3x5 => kernel_rfl); (case k4x5 => kernel_rfl); (case k5x5 => kernel_rfl); (case k6x5 => kernel_rfl); (case hSx5 => assumption); (case hYx5 => (refine Or.inl ⟨rfl, ?hyx5⟩; intro w hSw; (try dsimp only at hSw); go_simp; (try with_reducible rfl))); (case hQx5 => exact (fun _ _ _ h => h)); (try simp only [Act.put, List.setIfInBounds_toArray, List.set_cons_zero, List.set_cons_succ]))
            (refine wpAnyL_take (n := 0) (i := 5) (oi := ?ox6) (v := ?vx6) ?hix6 ?k1x6 ?k2x6 ?k3x6 ?k4x6 ?k5x6 ?k6x6 ?hQx6 ?hYx6 ?hSx6 ?restx6; (case hix6 => (simp only [List.getElem?_toArray, List.getElem?_cons_succ, List.getElem?_cons_zero]; exact rfl)); (case k1x6 => kernel_rfl); (case k2x6 => kernel_rfl); (case k3x6 => kernel_rfl); (case k4x6 => kernel_rfl); (case k5x6 => kernel_rfl); (case k6x6 => kernel_rfl); (case hSx6 => assumption); (case hYx6 => (refine Or.inl ⟨rfl, ?hyx6⟩; intro w hSw; (try dsimp only at hSw); go_simp; (try with_reducible rfl))); (case hQx6 => exact (fun _ _ _ h => h)); (try simp only [Act.put, List.setIfInBounds_toArray, List.set_cons_zero, List.set_cons_succ]))
            (refine wpAnyL_take (n := 0) (i := 6) (oi := ?ox7) (v := ?vx7) ?hix7 ?k1x7 ?k2x7 ?k3x7 ?k4x7 ?k5x7 ?k6x7 ?hQx7 ?hYx7 ?hSx7 ?restx7; (case hix7 => (simp only [List.getElem?_toArray, List.getElem?_cons_succ, List.getElem?_cons_zero]; exact rfl)); (case k1x7 => kernel_rfl); (case k2x7 => kernel_rfl); (case k3x7 => kernel_rfl); (case k4x7 => kernel_rfl); (case k5x7 => kernel_rfl); (case k6x7 => kernel_rfl); (case hSx7 => assumption); (case hYx7 => (refine Or.inl ⟨rfl, ?hyx7⟩; intro w hSw; (try dsimp only at hSw); go_simp; (try with_reducible rfl))); (case hQx7 => exact (fun _ _ _ h => h)); (try simp only [Act.put, List.setIfInBounds_toArray, List.set_cons_zero, List.set_cons_succ]))
            (refine wpAnyL_take (n := 0) (i := 7) (oi := ?ox8) (v := ?vx8) ?hix8 ?k1x8 ?k2x8 ?k3x8 ?k4x8 ?k5x8 ?k6x8 ?hQx8 ?hYx8 ?hSx8 ?restx8; (case hix8 => (simp only [List.getElem?_toArray, List.getElem?_cons_succ, List.getElem?_cons_zero]; exact rfl)); (case k1x8 => kernel_rfl); (case k2x8 => kernel_rfl); (case k3x8 => kernel_rfl); (case k4x8 => kernel_rfl); (case k5x8 => kernel_rfl); (case k6x8 => kernel_rfl); (case hSx8 => assumption); (case hYx8 => (refine Or.inl ⟨rfl, ?hyx8⟩; intro w hSw; (try dsimp only at hSw); go_simp; (try with_reducible rfl))); (case hQx8 => exact (fun _ _ _ h => h)); (try simp only [Act.put, List.setIfInBounds_toArray, List.set_cons_zero, List.set_cons_succ]))
            (refine wpAnyL_take (n := 0) (i := 8) (oi := ?ox9) (v := ?vx9) ?hix9 ?k1x9 ?k2x9 ?k3x9 ?k4x9 ?k5x9 ?k6x9 ?hQx9 ?hYx9 ?hSx9 ?restx9; (case hix9 => (simp only [List.getElem?_toArray, List.getElem?_cons_succ, List.getElem?_cons_zero]; exact rfl)); (case k1x9 => kernel_rfl); (case k2x9 => kernel_rfl); (case k3x9 => kernel_rfl); (case k4x9 => kernel_rfl); (case k5x9 => kernel_rfl); (case k6x9 => kernel_rfl); (case hSx9 => assumption); (case hYx9 => (refine Or.inl ⟨rfl, ?hyx9⟩; intro w hSw; (try dsimp only at hSw); go_simp; (try with_reducible rfl))); (case hQx9 => exact (fun _ _ _ h => h)); (try simp only [Act.put, List.setIfInBounds_toArray, List.set_cons_zero, List.set_cons_succ]))
            (refine wpAnyL_take (n := 0) (i := 9) (oi := ?ox10) (v := ?vx10) ?hix10 ?k1x10 ?k2x10 ?k3x10 ?k4x10 ?k5x10 ?k6x10 ?hQx10 ?hYx10 ?hSx10 ?restx10; (case hix10 => (simp only [List.getElem?_toArray, List.getElem?_cons_succ, List.getElem?_cons_zero]; exact rfl)); (case k1x10 => kernel_rfl); (case k2x10 => kernel_rfl); (case k3x10 => kernel_rfl); (case k4x10 => kernel_rfl); (case k5x10 => kernel_rfl); (case k6x10 => kernel_rfl); (case hSx10 => assumption); (case hYx10 => (refine Or.inl ⟨rfl, ?hyx10⟩; intro w hSw; (try dsimp only at hSw); go_simp; (try with_reducible rfl))); (case hQx10 => exact (fun _ _ _ h => h)); (try simp only [Act.put, List.setIfInBounds_toArray, List.set_cons_zero, List.set_cons_succ]))
            (refine wpAnyL_take (n := 0) (i := 10) (oi := ?ox11) (v := ?vx11) ?hix11 ?k1x11 ?k2x11 ?k3x11 ?k4x11 ?k5x11 ?k6x11 ?hQx11 ?hYx11 ?hSx11 ?restx11; (case hix11 => (simp only [List.getElem?_toArray, List.getElem?_cons_succ, List.getElem?_cons_zero]; exact rfl)); (case k1x11 => kernel_rfl); (case k2x11 => kernel_rfl); (case k3x11 => kernel_rfl); (case k4x11 => kernel_rfl); (case k5x11 => kernel_rfl); (case k6x11 => kernel_rfl); (case hSx11 => assumption); (case hYx11 => (refine Or.inl ⟨rfl, ?hyx11⟩; intro w hSw; (try dsimp only at hSw); go_simp; (try with_reducible rfl))); (case hQx11 => exact (fun _ _ _ h => h)); (try simp only [Act.put, List.setIfInBounds_toArray, List.set_cons_zero, List.set_cons_succ]))
            (refine wpAnyL_take (n := 0) (i := 11) (oi := ?ox12) (v := ?vx12) ?hix12 ?k1x12 ?k2x12 ?k3x12 ?k4x12 ?k5x12 ?k6x12 ?hQx12 ?hYx12 ?hSx12 ?restx12; (case hix12 => (simp only [List.getElem?_toArray, List.getElem?_cons_succ, List.getElem?_cons_zero]; exact rfl)); (case k1x12 => kernel_rfl); (case k2x12 => kernel_rfl); (case k3x12 => kernel_rfl); (case k4x12 => kernel_rfl); (case k5x12 => kernel_rfl); (case k6x12 => kernel_rfl); (case hSx12 => assumption); (case hYx12 => (refine Or.inl ⟨rfl, ?hyx12⟩; intro w hSw; (try dsimp only at hSw); go_simp; (try with_reducible rfl))); (case hQx12 => exact (fun _ _ _ h => h)); (try simp only [Act.put, List.setIfInBounds_toArray, List.set_cons_zero, List.set_cons_succ]))
            (refine wpAnyL_take (n := 0) (i := 12) (oi := ?ox13) (v := ?vx13) ?hix13 ?k1x13 ?k2x13 ?k3x13 ?k4x13 ?k5x13 ?k6x13 ?hQx13 ?hYx13 ?hSx13 ?restx13; (case hix13 => (simp only [List.getElem?_toArray, List.getElem?_cons_succ, List.getElem?_cons_zero]; exact rfl)); (case k1x13 => kernel_rfl); (case k2x13 => kernel_rfl); (case k3x13 => kernel_rfl); (case k4x13 => kernel_rfl); (case k5x13 => kernel_rfl); (case k6x13 => kernel_rfl); (case hSx13 => assumption); (case hYx13 => (refine Or.inl ⟨rfl, ?hyx13⟩; intro w hSw; (try dsimp only at hSw); go_simp; (try with_reducible rfl))); (case hQx13 => exact (fun _ _ _ h => h)); (try simp only [Act.put, List.setIfInBounds_toArray, List.set_cons_zero, List.set_cons_succ]))
            (refine wpAnyL_take (n := 0) (i := 13) (oi := ?ox14) (v := ?vx14) ?hix14 ?k1x14 ?k2x14 ?k3x14 ?k4x14 ?k5x14 ?k6x14 ?hQx14 ?hYx14 ?hSx14 ?restx14; (case hix14 => (simp only [List.getElem?_toArray, List.getElem?_cons_succ, List.getElem?_cons_zero]; exact rfl)); (case k1x14 => kernel_rfl); (case k2x14 => kernel_rfl); (case k3x14 => kernel_rfl); (case k4x14 => kernel_rfl); (case k5x14 => kernel_rfl); (case k6x14 => kernel_rfl); (case hSx14 => assumption); (case hYx14 => (refine Or.inl ⟨rfl, ?hyx14⟩; intro w hSw; (try dsimp only at hSw); go_simp; (try with_reducible rfl))); (case hQx14 => exact (fun _ _ _ h => h)); (try simp only [Act.put, List.setIfInBounds_toArray, List.set_cons_zero, List.set_cons_succ]))
            (refine wpAnyL_take (n := 0) (i := 14) (oi := ?ox15) (v := ?vx15) ?hix15 ?k1x15 ?k2x15 ?k3x15 ?k4x15 ?k5x15 ?k6x15 ?hQx15 ?hYx15 ?hSx15 ?restx15; (case hix15 => (simp only [List.getElem?_toArray, List.getElem?_cons_succ, List.getElem?_cons_zero]; exact rfl)); (case k1x15 => kernel_rfl); (case k2x15 => kernel_rfl); (case k3x15 => kernel_rfl); (case k4x15 => kernel_rfl); (case k5x15 => kernel_rfl); (case k6x15 => kernel_rfl); (case hSx15 => assumption); (case hYx15 => (refine Or.inl ⟨rfl, ?hyx15⟩; intro w hSw; (try dsimp only at hSw); go_simp; (try with_reducible rfl))); (case hQx15 => exact (fun _ _ _ h => h)); (try simp only [Act.put, List.setIfInBounds_toArray, List.set_cons_zero, List.set_cons_succ]))
            (refine wpAnyL_take (n := 0) (i := 15) (oi := ?ox16) (v := ?vx16) ?hix16 ?k1x16 ?k2x16 ?k3x16 ?k4x16 ?k5x16 ?k6x16 ?hQx16 ?hYx16 ?hSx16 ?restx16; (case hix16 => (simp only [List.getElem?_toArray, List.getElem?_cons_succ, List.getElem?_cons_zero]; exact rfl)); (case k1x16 => kernel_rfl); (case k2x16 => kernel_rfl); (case k3x16 => kernel_rfl); (case k4x16 => kernel_rfl); (case k5x16 => kernel_rfl); (case k6x16 => kernel_rfl); (case hSx16 => assumption); (case hYx16 => (refine Or.inl ⟨rfl, ?hyx16⟩; intro w hSw; (try dsimp only at hSw); go_simp; (try with_reducible rfl))); (case hQx16 => exact (fun _ _ _ h => h)); (try simp only [Act.put, List.setIfInBounds_toArray, List.set_cons_zero, List.set_cons_succ]))
            (refine wpAnyL_take (n := 0) (i := 16) (oi := ?ox17) (v := ?vx17) ?hix17 ?k1x17 ?k2x17 ?k3x17 ?k4x17 ?k5x17 ?k6x17 ?hQx17 ?hYx17 ?hSx17 ?restx17; (case hix17 => (simp only [List.getElem?_toArray, List.getElem?_cons_succ, List.getElem?_cons_zero]; exact rfl)); (case k1x17 => kernel_rfl); (case k2x17 => kernel_rfl); (case k3x17 => kernel_rfl); (case k4x17 => kernel_rfl); (case k5x17 => kernel_rfl); (case k6x17 => kernel_rfl); (case hSx17 => assumption); (case hYx17 => (refine Or.inl ⟨rfl, ?hyx17⟩; intro w hSw; (try dsimp only at hSw); go_simp; (try with_reducible rfl))); (case hQx17 => exact (fun _ _ _ h => h)); (try simp only [Act.put, List.setIfInBounds_toArray, List.set_cons_zero, List.set_cons_succ]))
            (refine wpAnyL_take (n := 0) (i := 17) (oi := ?ox18) (v := ?vx18) ?hix18 ?k1x18 ?k2x18 ?k3x18 ?k4x18 ?k5x18 ?k6x18 ?hQx18 ?hYx18 ?hSx18 ?restx18; (case hix18 => (simp only [List.getElem?_toArray, List.getElem?_cons_succ, List.getElem?_cons_zero]; exact rfl)); (case k1x18 => kernel_rfl); (case k2x18 => kernel_rfl); (case k3x18 => kernel_rfl); (case k4x18 => kernel_rfl); (case k5x18 => kernel_rfl); (case k6x18 => kernel_rfl); (case hSx18 => assumption); (case hYx18 => (refine Or.inl ⟨rfl, ?hyx18⟩; intro w hSw; (try dsimp only at hSw); go_simp; (try with_reducible rfl))); (case hQx18 => exact (fun _ _ _ h => h)); (try simp only [Act.put, List.setIfInBounds_toArray, List.set_cons_zero, List.set_cons_succ]))
            (refine wpAnyL_take (n := 0) (i := 18) (oi := ?ox19) (v := ?vx19) ?hix19 ?k1x19 ?k2x19 ?k3x19 ?k4x19 ?k5x19 ?k6x19 ?hQx19 ?hYx19 ?hSx19 ?restx19; (case hix19 => (simp only [List.getElem?_toArray, List.getElem?_cons_succ, List.getElem?_cons_zero]; exact rfl)); (case k1x19 => kernel_rfl); (case k2x19 => kernel_rfl); (case k3x19 => kernel_rfl); (case k4x19 => kernel_rfl); (case k5x19 => kernel_rfl); (case k6x19 => kernel_rfl); (case hSx19 => assumption); (case hYx19 => (refine Or.inl ⟨rfl, ?hyx19⟩; intro w hSw; (try dsimp only at hSw); go_simp; (try with_reducible rfl))); (case hQx19 => exact (fun _ _ _ h => h)); (try simp only [Act.put, List.setIfInBounds_toArray, List.set_cons_zero, List.set_cons_succ]))
            (refine wpAnyL_take (n := 0) (i := 19) (oi := ?ox20) (v := ?vx20) ?hix20 ?k1x20 ?k2x20 ?k3x20 ?k4x20 ?k5x20 ?k6x20 ?hQx20 ?hYx20 ?hSx20 ?restx20; (case hix20 => (simp only [List.getElem?_toArray, List.getElem?_cons_succ, List.getElem?_cons_zero]; exact rfl)); (case k1x20 => kernel_rfl); (case k2x20 => kernel_rfl); (case k3x20 => kernel_rfl); (case k4x20 => kernel_rfl); (case k5x20 => kernel_rfl); (case k6x20 => kernel_rfl); (case hSx20 => assumption); (case hYx20 => (refine Or.inl ⟨rfl, ?hyx20⟩; intro w hSw; (try dsimp only at hSw); go_simp; (try with_reducible rfl))); (case hQx20 => exact (fun _ _ _ h => h)); (try simp only [Act.put, List.setIfInBounds_toArray, List.set_cons_zero, List.set_cons_succ]))
            (refine wpAnyL_take (n := 0) (i := 20) (oi := ?ox21) (v := ?vx21) ?hix21 ?k1x21 ?k2x21 ?k3x21 ?k4x21 ?k5x21 ?k6x21 ?hQx21 ?hYx21 ?hSx21 ?restx21; (case hix21 => (simp only [List.getElem?_toArray, List.getElem?_cons_succ, List.getElem?_cons_zero]; exact rfl)); (case k1x21 => kernel_rfl); (case k2x21 => kernel_rfl); (case k3x21 => kernel_rfl); (case k4x21 => kernel_rfl); (case k5x21 => kernel_rfl); (case k6x21 => kernel_rfl); (case hSx21 => assumption); (case hYx21 => (refine Or.inl ⟨rfl, ?hyx21⟩; intro w hSw; (try dsimp only at hSw); go_simp; (try with_reducible rfl))); (case hQx21 => exact (fun _ _ _ h => h)); (try simp only [Act.put, List.setIfInBounds_toArray, List.set_cons_zero, List.set_cons_succ]))
            (refine wpAnyL_take (n := 0) (i := 21) (oi := ?ox22) (v := ?vx22) ?hix22 ?k1x22 ?k2x22 ?k3x22 ?k4x22 ?k5x22 ?k6x22 ?hQx22 ?hYx22 ?hSx22 ?restx22; (case hix22 => (simp only [List.getElem?_toArray, List.getElem?_cons_succ, List.getElem?_cons_zero]; exact rfl)); (case k1x22 => kernel_rfl); (case k2x22 => kernel_rfl); (case k3x22 => kernel_rfl); (case k4x22 => kernel_rfl); (case k5x22 => kernel_rfl); (case k6x22 => kernel_rfl); (case hSx22 => assumption); (case hYx22 => (refine Or.inl ⟨rfl, ?hyx22⟩; intro w hSw; (try dsimp only at hSw); go_simp; (try with_reducible rfl))); (case hQx22 => exact (fun _ _ _ h => h)); (try simp only [Act.put, List.setIfInBounds_toArray, List.set_cons_zero, List.set_cons_succ]))
            (refine wpAnyL_done (by kernel_rfl) ?_ _)
            clear m1 m2 m3
            by_cases h80 : 80 < r.2 - r.1 + l.seep.2 - l.seep.1
            · go_wp2_with fail
              go_ret
              exact FewP.mk (fun hh => by cases hh) HB5.out
            · go_wp2_with fail
              go_roundw
              case rel => exact ⟨k + 1, s + r.2, by omega, by go_num, rfl, by omega, by push_cast; omega, HB6.out⟩
              case measure => simp [intOf] <;> omega
          · go_wp2_with fail
            all_goals
              go_ret
              exact FewP.mk (fun _ => HTX.out.symm) (below_tr HB.out hbr)
      · have h2' : (errW ws != 0) = true := by simpa using hW
        clear hW
        go_enter Try.func16, Try.ntmps16
        go_wp2_with fail
        go_at_call 38
        refine (HT.out _).mono ?_
        rintro e w1 ⟨rfl, hb9⟩
        have t0 := below_tr HB.out hb9; have t1 := below_tr HQ.out hb9
        clear HB HQ
        have HB := Lib.hid t0; have HQ := Lib.hid t1
        clear t0 t1
        clear hb9 
        obtain ⟨x0, x1, x2, x3, x4, x5, x6, x7, x8, x9⟩ := HXX.out _ HQ.out
        go_wp2_with fail
        go_at_call 34
        refine (HF.out _ HB.out).mono ?_
        rintro e w1 ⟨rfl, hb9⟩
        have t0 := below_tr HB.out hb9; have t1 := below_tr HQ.out hb9
        clear HB HQ
        have HB := Lib.hid t0; have HQ := Lib.hid t1
        clear t0 t1
        clear hb9 
        go_wp2_with fail
        go_at_call 56
        refine (HW.out _ HB.out).mono ?_
        rintro e w1 ⟨rfl, hb9⟩
        have t0 := below_tr HB.out hb9; have t1 := below_tr HQ.out hb9
        clear HB HQ
        have HB := Lib.hid t0; have HQ := Lib.hid t1
        clear t0 t1
        clear hb9 
        obtain ⟨x0, x1, x2, x3, x4, x5, x6, x7, x8, x9⟩ := HXX.out _ HQ.out
        go_wp2_with fail
        go_at_call 38
        refine (HT.out _).mono ?_
        rintro e w1 ⟨rfl, hb9⟩
        have t0 := below_tr HB.out hb9; have t1 := below_tr HQ.out hb9
        clear HB HQ
        have HB := Lib.hid t0; have HQ := Lib.hid t1
        clear t0 t1
        clear hb9 
        go_wp2_with fail
        go_ret
        exact FewP.mk (fun _ => HTX.out.symm) HB.out
    · have h1' : (errL l != 0) = true := by simpa using hL
      clear hL
      go_enter Try.func16, Try.ntmps16
      go_wp2_with fail
      go_at_call 38
      refine (HT.out _).mono ?_
      rintro e w1 ⟨rfl, hb9⟩
      have t0 := below_tr HB.out hb9; have t1 := below_tr HQ.out hb9
      clear HB HQ
      have HB := Lib.hid t0; have HQ := Lib.hid t1
      clear t0 t1
      clear hb9 
      obtain ⟨x0, x1, x2, x3, x4, x5, x6, x7, x8, x9⟩ := HXX.out _ HQ.out
      go_wp2_with fail
      go_at_call 34
      refine (HF.out _ HB.out).mono ?_
      rintro e w1 ⟨rfl, hb9⟩
      have t0 := below_tr HB.out hb9; have t1 := below_tr HQ.out hb9
      clear HB HQ
      have HB := Lib.hid t0; have HQ := Lib.hid t1
      clear t0 t1
      clear hb9 
      obtain ⟨x0, x1, x2, x3, x4, x5, x6, x7, x8, x9⟩ := HXX.out _ HQ.out
      go_wp2_with fail
      go_at_call 38
      refine (HT.out _).mono ?_
      rintro e w1 ⟨rfl, hb9⟩
      have t0 := below_tr HB.out hb9; have t1 := below_tr HQ.out hb9
      clear HB HQ
      have HB := Lib.hid t0; have HQ := Lib.hid t1
      clear t0 t1
      clear hb9 
      go_wp2_with fail
      go_ret
      exact FewP.mk (fun _ => HTX.out.symm) HB.out
end
end Go.Proofs.Ytpijmfbpdglchaa
