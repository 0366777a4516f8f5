/- THE WALK of LakeHouses. -/
import Derived.Test.YtpijmfbpdglchaaKReady
import Derived.Test.YtpijmfbpdglchaaKConv
import Derived.Test.YtpijmfbpdglchaaKAwake
import Derived.Test.YtpijmfbpdglchaaKReal
import Derived.Test.YtpijmfbpdglchaaKWaves
import Derived.Test.YtpijmfbpdglchaaKHoused
namespace Go.Proofs.Ytpijmfbpdglchaa
open Go.RowKit Go.Proofs
attribute [local go_sem ↓] Go.wp_at_zero Go.wp_at_succ
/-- two houses' reaches -/
structure TwoQ (y z : Rea) : Prop where
  y0 : 0 ≤ y.height
  z0 : 0 ≤ z.height
  yn : y.may = false → y.frm = 0
  le : z.height ≤ y.height
  may : z.may = true → y.may = true ∧ y.frm ≤ z.frm
theorem twoQ {r : Riv} {L : List Aft} {y z : Hou} (hy : okH y = true) (hz : okH z = true) (hr : okRi r = true) (h1 : y.far ≤ z.far) (h2 : y.high ≤ z.high) (h3 : y.wide ≤ z.wide) : TwoQ (rchOf r y L) (rchOf r z L) := by
  have P := rchOf_p (r := r) (x := y) L (okH_iff.1 hy).2.1.1
  have Q := rchOf_p (r := r) (x := z) L (okH_iff.1 hz).2.1.1
  have o := wave_other (L := L) hy hr h1 h2 h3
  exact ⟨P.pos, Q.pos, P.none_, o.1, o.2⟩
def otherH (x : Hou) (a b c : Int) : Hou := ⟨min 200 (x.far + a), min 10000 (x.high + b), min 10000 (x.wide + c)⟩
theorem other_ok {x : Hou} {a b c : Int} (h : okH x = true) (ha : 0 ≤ a) (hb : 0 ≤ b) (hc : 0 ≤ c) : okH (otherH x a b c) = true ∧ x.far ≤ (otherH x a b c).far ∧ x.high ≤ (otherH x a b c).high ∧ x.wide ≤ (otherH x a b c).wide := by
  have := okH_iff.1 h
  refine ⟨okH_iff.2 ?_, ?_, ?_, ?_⟩ <;> simp only [otherH] <;> omega
theorem two_ok {r : Riv} {x z : Hou} (hr : okRi r = true) (hx : okH x = true) (hz : okH z = true) : HOk r [x, z] := ⟨by simp, hr, fun i y hy => by
  match i, hy with
  | 0, hy => cases hy; exact hx
  | 1, hy => cases hy; exact hz
  | i + 2, hy => cases hy⟩
section
variable {VA IA WA CA : Option Addr} {nV nI cV cI nW cW nC cC : Nat} {l : Lak} {ws : List Wrk} {c : List Int} {r : Riv} {x : Hou} {w : World}
set_option maxRecDepth 100000 in
set_option maxHeartbeats 8000000 in
theorem LakeHouses_w (h : RdL w VA nV IA nI l) (hw : Rd encW 3 w WA nW ws) (hc : Rd enc1 1 w CA nC c) {fa hi wi_ : Int} (hfa : 0 ≤ fa ∧ fa ≤ 255) (hhi : 0 ≤ hi ∧ hi ≤ 255) (hwi : 0 ≤ wi_ ∧ wi_ ≤ 255) (hnV : nV ≤ maxLen) (hnI : nI ≤ maxLen) (hnW : nW ≤ maxLen) (hnC : nC ≤ maxLen) :
    Calls Try.prog 10 #[.agg (lA VA nV cV IA nI cI l), .slice WA nW cW, .slice CA nC cC, .agg (rA r), .agg #[.int .i64 x.far, .int .i64 x.high, .int .i64 x.wide], .int .u8 fa, .int .u8 hi, .int .u8 wi_] w fun e w' => e = .returned (.bool true) ∧ Below w.heap.size w w' := by
  obtain ⟨W, hWW⟩ : ∃ W, W = (((w.alloc (.cells (lA VA nV cV IA nI cI l) 27)).alloc (.cells (rA r) 84)).alloc (.cells #[.int .i64 x.far, .int .i64 x.high, .int .i64 x.wide] 99)) := ⟨_, rfl⟩
  have hb : Below w.heap.size w W := by rw [hWW]; exact (((Below.refl _ _).alloc (Nat.le_refl _) _).alloc (by simp) _).alloc (by simp; omega) _
  have hB1 := ((Blk.new w 27 (lA VA nV cV IA nI cI l)).alloc (.cells (rA r) 84)).alloc (.cells #[.int .i64 x.far, .int .i64 x.high, .int .i64 x.wide] 99)
  have hB2 := (Blk.new (w.alloc (.cells (lA VA nV cV IA nI cI l) 27)) 84 (rA r)).alloc (.cells #[.int .i64 x.far, .int .i64 x.high, .int .i64 x.wide] 99)
  have hB3 := Blk.new ((w.alloc (.cells (lA VA nV cV IA nI cI l) 27)).alloc (.cells (rA r) 84)) 99 #[.int .i64 x.far, .int .i64 x.high, .int .i64 x.wide]
  simp only [World.size_alloc] at hB2 hB3
  rw [← hWW] at hB1 hB2 hB3
  have HWW := Lib.hid hWW; have HB := Lib.hid hb; have HQ := Lib.hid (Below.refl W.heap.size W)
  have HXL := Lib.hid (fun (U : World) (hU : Below W.heap.size W U) => blk_lA (hB1.below hU hB1.lt))
  have HXR := Lib.hid (fun (U : World) (hU : Below W.heap.size W U) => show U.cell? ⟨w.heap.size + 1, 0, none⟩ = some (.int .i64 r.loss) ∧ U.cell? ⟨w.heap.size + 1, 1, none⟩ = some (.int .i64 r.pace.1) ∧ U.cell? ⟨w.heap.size + 1, 2, none⟩ = some (.int .i64 r.pace.2) from ⟨(hB2.below hU hB2.lt).cell 0, (hB2.below hU hB2.lt).cell 1, (hB2.below hU hB2.lt).cell 2⟩)
  have HXH := Lib.hid (fun (U : World) (hU : Below W.heap.size W U) => show U.cell? ⟨w.heap.size + 1 + 1, 0, none⟩ = some (.int .i64 x.far) ∧ U.cell? ⟨w.heap.size + 1 + 1, 1, none⟩ = some (.int .i64 x.high) ∧ U.cell? ⟨w.heap.size + 1 + 1, 2, none⟩ = some (.int .i64 x.wide) from ⟨(hB3.below hU hB3.lt).cell 0, (hB3.below hU hB3.lt).cell 1, (hB3.below hU hB3.lt).cell 2⟩)
  have HRY := Lib.hid (fun (U : World) (hU : Below w.heap.size w U) => ready_c (cV := cV) (cI := cI) (cW := cW) (cC := cC) (h.below hU) (hw.below hU) (hc.below hU) hnV hnI hnW hnC)
  have HL := Lib.hid h; have HW := Lib.hid hw; have HC := Lib.hid hc
  have HAW := Lib.hid (fun (U : World) => awake_c U)
  have HHO := Lib.hid (fun (U : World) => housed_c (r := r) (cp := 1) (n := 1) (Rd.of_blkE encH_len (Blk.new U 99 #[.int .i64 x.far, .int .i64 x.high, .int .i64 x.wide]) (l := [x]) rfl rfl) (by unfold maxLen; omega))
  clear h hw hc hb hB1 hB2 hB3 hWW
  cases hr : readyB l ws c
  · rw [hr] at HRY
    go_enter Try.func10, Try.ntmps10
    go_upto_region 1 with fail
    rw [← HWW.out]
    obtain ⟨x0, x1, x2, x3, x4, x5, x6, x7, x8, x9⟩ := HXL.out _ HQ.out
    go_wp2_with fail
    go_at_call 28
    refine (HRY.out _ HB.out).mono ?_
    rintro e w1 ⟨rfl, hb9⟩
    have t0 := below_tr HB.out hb9
    clear HB
    have HB := Lib.hid t0
    clear t0
    clear hb9 
    go_wp2_with fail
    go_at_call 18
    refine (HAW.out _).mono ?_
    rintro e w1 ⟨rfl, hb9⟩
    have t0 := below_tr HB.out hb9
    clear HB
    have HB := Lib.hid t0
    clear t0
    clear hb9 
    go_wp2_with fail
    go_ret
    exact ⟨rfl, HB.out⟩
  · rw [hr] at HRY
    obtain ⟨hth, hok, hwk, hcho⟩ := readyB_iff.1 hr
    have h30 := hok.n; have h60 := hok.h; have h10 := hwk.n
    have hvl := HL.out.vols.len; have hil := HL.out.infl.len; have hwl := HW.out.len; have hcl := HC.out.len
    have hclen := cho_len hcho
    have HLK := Lib.hid (fun (U : World) (hU : Below w.heap.size w U) => LakeR_c (cV := cV) (cI := cI) (HL.out.below hU) (by omega) (by omega))
    have HWK := Lib.hid (fun (U : World) (hU : Below w.heap.size w U) => WorksR_c (c := cW) (HW.out.below hU) (by omega))
    have HLI := Lib.hid (fun (U : World) (hU : Below w.heap.size w U) => listR_c (c := cC) (HC.out.below hU) (by omega))
    have HOK := Lib.hid hok; have HWO := Lib.hid hwk; have HCO := Lib.hid hcho
    clear hr hth hok hwk hcho h30 h60 h10 hvl hil hwl hcl hclen hnV hnI hnW hnC
    by_cases he : errH r [x] = 0
    · have hho := errH_zero.1 he
      rw [he] at HHO
      have hxo := hho.h 0 x rfl
      have hoo := other_ok hxo hfa.1 hhi.1 hwi.1
      have HRO := Lib.hid hho.r; have HXO := Lib.hid hxo; have HOO := Lib.hid hoo
      have hxb := okH_iff.1 hxo
      clear he hho hxo hoo
      go_enter Try.func10, Try.ntmps10
      go_upto_region 1 with fail
      rw [← HWW.out]
      obtain ⟨x0, x1, x2, x3, x4, x5, x6, x7, x8, x9⟩ := HXL.out _ HQ.out
      go_wp2_with fail
      go_at_call 28
      refine (HRY.out _ HB.out).mono ?_
      rintro e w1 ⟨rfl, hb9⟩
      have t0 := below_tr HB.out hb9; have t1 := below_tr HQ.out hb9
      clear HB HQ
      have HB := Lib.hid t0; have HQ := Lib.hid t1
      clear t0 t1
      clear hb9 
      clear x0 x1 x2 x3 x4 x5 x6 x7 x8 x9
      obtain ⟨y0, y1, y2⟩ := HXR.out _ HQ.out; obtain ⟨z0, z1, z2⟩ := HXH.out _ HQ.out
      go_wp2_with fail
      go_at_call 46
      refine (HHO.out _).mono ?_
      rintro e w2 ⟨rfl, hb9⟩
      have hb9 := below_tr ((Below.refl w1.heap.size w1).alloc (Nat.le_refl _) (.cells #[.int .i64 x.far, .int .i64 x.high, .int .i64 x.wide] 99)) hb9
      have t0 := below_tr HB.out hb9; have t1 := below_tr HQ.out hb9
      clear HB HQ
      have HB := Lib.hid t0; have HQ := Lib.hid t1
      clear t0 t1
      clear hb9 
      clear y0 y1 y2 z0 z1 z2
      obtain ⟨z0, z1, z2⟩ := HXH.out _ HQ.out
      go_upto_region 4 with fail
      obtain ⟨OB, hOB⟩ : ∃ OB, OB = w2.heap.size := ⟨_, rfl⟩
      rw [← hOB]
      obtain ⟨Z, hZ⟩ : ∃ Z, Z = otherH x fa hi wi_ := ⟨_, rfl⟩
      obtain ⟨W3, hW3⟩ : ∃ W3, W3 = w2.alloc (.cells #[.int .i64 Z.far, .int .i64 Z.high, .int .i64 Z.wide] 99) := ⟨_, rfl⟩
      have hb9 : Below w2.heap.size w2 W3 := by rw [hW3]; exact (Below.refl _ _).alloc (Nat.le_refl _) _
      have hob : Blk W3 OB 99 #[.int .i64 Z.far, .int .i64 Z.high, .int .i64 Z.wide] := by rw [hW3, hOB]; exact Blk.new _ _ _
      rw [hZ] at hW3
      simp only [otherH] at hW3
      rw [← hW3]
      have t0 := below_tr HB.out hb9; have t1 := below_tr HQ.out hb9
      clear HB HQ
      have HB := Lib.hid t0; have HQ := Lib.hid t1
      clear t0 t1
      have HOB := Lib.hid hob
      have HZ := Lib.hid hZ
      clear hb9 hob hW3 hOB z0 z1 z2 hZ
      go_cut [18, 19] (fun xv ev wx => ∃ QA cQ, xv = .slice QA 2 cQ ∧ ev = .int .i64 0 ∧ Rd encQ 3 wx QA 2 [rchOf r x (aftL l (netL l ws c)), rchOf r Z (aftL l (netL l ws c))] ∧ Below w.heap.size w wx)
      case first =>
        refine wp_region_till [] (fun U => U.cell? ⟨w.heap.size, 0, none⟩ = some (.slice VA nV cV) ∧ U.cell? ⟨w.heap.size, 1, none⟩ = some (.int .i64 l.crest) ∧ U.cell? ⟨w.heap.size, 2, none⟩ = some (.int .i64 l.weak) ∧ U.cell? ⟨w.heap.size, 3, none⟩ = some (.int .i64 l.soft.1) ∧ U.cell? ⟨w.heap.size, 4, none⟩ = some (.int .i64 l.soft.2) ∧ U.cell? ⟨w.heap.size, 5, none⟩ = some (.int .i64 l.start.1) ∧ U.cell? ⟨w.heap.size, 6, none⟩ = some (.int .i64 l.start.2) ∧ U.cell? ⟨w.heap.size, 7, none⟩ = some (.int .i64 l.seep.1) ∧ U.cell? ⟨w.heap.size, 8, none⟩ = some (.int .i64 l.seep.2) ∧ U.cell? ⟨w.heap.size, 9, none⟩ = some (.slice IA nI cI) ∧ (U.cell? ⟨w.heap.size + 1, 0, none⟩ = some (.int .i64 r.loss) ∧ U.cell? ⟨w.heap.size + 1, 1, none⟩ = some (.int .i64 r.pace.1) ∧ U.cell? ⟨w.heap.size + 1, 2, none⟩ = some (.int .i64 r.pace.2)) ∧ (U.cell? ⟨w.heap.size + 1 + 1, 0, none⟩ = some (.int .i64 x.far) ∧ U.cell? ⟨w.heap.size + 1 + 1, 1, none⟩ = some (.int .i64 x.high) ∧ U.cell? ⟨w.heap.size + 1 + 1, 2, none⟩ = some (.int .i64 x.wide)) ∧ U.cell? ⟨OB, 0, none⟩ = some (.int .i64 Z.far) ∧ U.cell? ⟨OB, 1, none⟩ = some (.int .i64 Z.high) ∧ U.cell? ⟨OB, 2, none⟩ = some (.int .i64 Z.wide)) (by kernel_rfl) (by exact and10 (HXL.out _ HQ.out.drew) ⟨HXR.out _ HQ.out.drew, HXH.out _ HQ.out.drew, HOB.out.cell 0, HOB.out.cell 1, HOB.out.cell 2⟩) (fun hHeld => ?_)
        have hb9 := (Below.refl W3.heap.size W3).drew
        have t0 := below_tr HB.out hb9; have t1 := below_tr HQ.out hb9; have t2 := HOB.out.below hb9 HOB.out.lt
        clear HB HQ HOB
        have HB := Lib.hid t0; have HQ := Lib.hid t1; have HOB := Lib.hid t2
        clear t0 t1 t2
        clear hb9
        revert hHeld HB HQ HOB
        generalize W3.drew = w0
        intro hHeld HB HQ HOB
        (refine wpAnyL_take (n := 0) (i := 0) (oi := ?ox1) (v := ?vx1) ?hix1 ?k1x1 ?k2x1 ?k3x1 ?k4x1 ?k5x1 ?k6x1 ?hQx1 ?hYx1 ?hSx1 ?restx1; (case hix1 => (simp only [List.getElem?_toArray, List.getElem?_cons_succ, List.getElem?_cons_zero]; exact rfl)); (case k1x1 => kernel_rfl); (case k2x1 => kernel_rfl); (case k3x1 => kernel_rfl); (case k4x1 => kernel_rfl); (case k5x1 => kernel_rfl); (case k6x1 => kernel_rfl); (case hSx1 => assumption); (case hYx1 => (refine Or.inl ⟨rfl, ?hyx1⟩; intro w hSw; (try dsimp only at hSw); go_simp; (try with_reducible rfl))); (case hQx1 => exact (fun _ _ _ h => h)); (try simp only [Act.put, List.setIfInBounds_toArray, List.set_cons_zero, List.set_cons_succ]))
        (refine wpAnyL_take (n := 0) (i := 2) (oi := ?ox2) (v := ?vx2) ?hix2 ?k1x2 ?k2x2 ?k3x2 ?k4x2 ?k5x2 ?k6x2 ?hQx2 ?hYx2 ?hSx2 ?restx2; (case hix2 => (simp only [List.getElem?_toArray, List.getElem?_cons_succ, List.getElem?_cons_zero]; exact rfl)); (case k1x2 => kernel_rfl); (case k2x2 => kernel_rfl); (case k3x2 => kernel_rfl); (case k4x2 => kernel_rfl); (case k5x2 => kernel_rfl); (case k6x2 => kernel_rfl); (case hSx2 => assumption); (case hYx2 => (refine Or.inl ⟨rfl, ?hyx2⟩; intro w hSw; (try dsimp only at hSw); go_simp; (try with_reducible rfl))); (case hQx2 => exact (fun _ _ _ h => h)); (try simp only [Act.put, List.setIfInBounds_toArray, List.set_cons_zero, List.set_cons_succ]))
        (refine wpAnyL_take (n := 0) (i := 4) (oi := ?ox3) (v := ?vx3) ?hix3 ?k1x3 ?k2x3 ?k3x3 ?k4x3 ?k5x3 ?k6x3 ?hQx3 ?hYx3 ?hSx3 ?restx3; (case hix3 => (simp only [List.getElem?_toArray, List.getElem?_cons_succ, List.getElem?_cons_zero]; exact rfl)); (case k1x3 => kernel_rfl); (case k2x3 => kernel_rfl); (case k3x3 => kernel_rfl); (case k4x3 => kernel_rfl); (case k5x3 => kernel_rfl); (case k6x3 => kernel_rfl); (case hSx3 => assumption); (case hYx3 => (refine Or.inl ⟨rfl, ?hyx3⟩; intro w hSw; (try dsimp only at hSw); go_simp; (try with_reducible rfl))); (case hQx3 => exact (fun _ _ _ h => h)); (try simp only [Act.put, List.setIfInBounds_toArray, List.set_cons_zero, List.set_cons_succ]))
        (refine wpAnyL_take (n := 0) (i := 6) (oi := ?ox4) (v := ?vx4) ?hix4 ?k1x4 ?k2x4 ?k3x4 ?k4x4 ?k5x4 ?k6x4 ?hQx4 ?hYx4 ?hSx4 ?restx4; (case hix4 => (simp only [List.getElem?_toArray, List.getElem?_cons_succ, List.getElem?_cons_zero]; exact rfl)); (case k1x4 => kernel_rfl); (case k2x4 => kernel_rfl); (case k3x4 => kernel_rfl); (case k4x4 => kernel_rfl); (case k5x4 => kernel_rfl); (case k6x4 => kernel_rfl); (case hSx4 => assumption); (case hYx4 => (refine Or.inl ⟨rfl, ?hyx4⟩; intro w hSw; (try dsimp only at hSw); go_simp; (try with_reducible rfl))); (case hQx4 => exact (fun _ _ _ h => h)); (try simp only [Act.put, List.setIfInBounds_toArray, List.set_cons_zero, List.set_cons_succ]))
        (refine wpAnyL_take (n := 0) (i := 8) (oi := ?ox5) (v := ?vx5) ?hix5 ?k1x5 ?k2x5 ?k3x5 ?k4x5 ?k5x5 ?k6x5 ?hQx5 ?hYx5 ?hSx5 ?restx5; (case hix5 => (simp only [List.getElem?_toArray, List.getElem?_cons_succ, List.getElem?_cons_zero]; exact rfl)); (case k1x5 => kernel_rfl); (case k2x5 => kernel_rfl); (case k3x5 => kernel_rfl); (case k4x5 => kernel_rfl); (case k5x5 => kernel_rfl); (case k6x5 => kernel_rfl); (case hSx5 => assumption); (case hYx5 => (refine Or.inl ⟨rfl, ?hyx5⟩; intro w hSw; (try dsimp only at hSw); go_simp; (try with_reducible rfl))); (case hQx5 => exact (fun _ _ _ h => h)); (try simp only [Act.put, List.setIfInBounds_toArray, List.set_cons_zero, List.set_cons_succ]))
        (refine wpAnyL_take (n := 0) (i := 9) (oi := ?ox6) (v := ?vx6) ?hix6 ?k1x6 ?k2x6 ?k3x6 ?k4x6 ?k5x6 ?k6x6 ?hQx6 ?hYx6 ?hSx6 ?restx6; (case hix6 => (simp only [List.getElem?_toArray, List.getElem?_cons_succ, List.getElem?_cons_zero]; exact rfl)); (case k1x6 => kernel_rfl); (case k2x6 => kernel_rfl); (case k3x6 => kernel_rfl); (case k4x6 => kernel_rfl); (case k5x6 => kernel_rfl); (case k6x6 => kernel_rfl); (case hSx6 => assumption); (case hYx6 => (refine Or.inl ⟨rfl, ?hyx6⟩; intro w hSw; (try dsimp only at hSw); go_simp; (try with_reducible rfl))); (case hQx6 => exact (fun _ _ _ h => h)); (try simp only [Act.put, List.setIfInBounds_toArray, List.set_cons_zero, List.set_cons_succ]))
        refine wpAnyL_ready (rs := [1, 10]) (by kernel_rfl) (by simp) ?_
        refine AllReadyL.cons (o := ?o1x7) ?hi1x7 (fun K hK => ?_) (AllReadyL.cons (o := ?o10x7) ?hi10x7 (fun K hK => ?_) AllReadyL.nil)
        (case hi1x7 => (simp only [List.getElem?_toArray, List.getElem?_cons_succ, List.getElem?_cons_zero]; exact rfl))
        (case hi10x7 => (simp only [List.getElem?_toArray, List.getElem?_cons_succ, List.getElem?_cons_zero]; exact rfl))
        · skip
          go_simp
          go_at_call 20
          refine (HLK.out _ HB.out).mono ?_
          rintro e w1 ⟨VA', cV', IA', cI', rfl, hcv, hci, hrl, hb9⟩
          have t0 := below_tr HB.out hb9; have t1 := below_tr HQ.out hb9; have t2 := HOB.out.below hb9 HOB.out.lt
          clear HB HQ HOB
          have HB := Lib.hid t0; have HQ := Lib.hid t1; have HOB := Lib.hid t2
          clear t0 t1 t2
          have HRL := Lib.hid hrl
          have HCV := Lib.hid hcv
          have HCI := Lib.hid hci
          clear hb9 hrl hcv hci
          (try go_wp2_with fail)
          (try clear hHeld)
          refine hK.out _ _ (by (try dsimp only); exact and10 (HXL.out _ HQ.out) ⟨HXR.out _ HQ.out, HXH.out _ HQ.out, HOB.out.cell 0, HOB.out.cell 1, HOB.out.cell 2⟩) (fun hHeld => ?_)
          clear hK K
          (try simp only [Act.put, List.setIfInBounds_toArray, List.set_cons_zero, List.set_cons_succ])
          refine wpAnyL_ready (rs := [3, 10]) (by kernel_rfl) (by simp) ?_
          refine AllReadyL.cons (o := ?o3x8) ?hi3x8 (fun K hK => ?_) (AllReadyL.cons (o := ?o10x8) ?hi10x8 (fun K hK => ?_) AllReadyL.nil)
          (case hi3x8 => (simp only [List.getElem?_toArray, List.getElem?_cons_succ, List.getElem?_cons_zero]; exact rfl))
          (case hi10x8 => (simp only [List.getElem?_toArray, List.getElem?_cons_succ, List.getElem?_cons_zero]; exact rfl))
          · skip
            go_simp
            go_at_call 21
            refine (HWK.out _ HB.out).mono ?_
            rintro e w1 ⟨WA', cW', rfl, hcw, hrw, hb9⟩
            have t0 := below_tr HB.out hb9; have t1 := below_tr HQ.out hb9; have t2 := HOB.out.below hb9 HOB.out.lt; have t3 := HRL.out.below hb9
            clear HB HQ HOB HRL
            have HB := Lib.hid t0; have HQ := Lib.hid t1; have HOB := Lib.hid t2; have HRL := Lib.hid t3
            clear t0 t1 t2 t3
            have HRW := Lib.hid hrw
            have HCW := Lib.hid hcw
            clear hb9 hrw hcw
            (try go_wp2_with fail)
            (try clear hHeld)
            refine hK.out _ _ (by (try dsimp only); exact and10 (HXL.out _ HQ.out) ⟨HXR.out _ HQ.out, HXH.out _ HQ.out, HOB.out.cell 0, HOB.out.cell 1, HOB.out.cell 2⟩) (fun hHeld => ?_)
            clear hK K
            (try simp only [Act.put, List.setIfInBounds_toArray, List.set_cons_zero, List.set_cons_succ])
            refine wpAnyL_ready (rs := [5, 10]) (by kernel_rfl) (by simp) ?_
            refine AllReadyL.cons (o := ?o5x9) ?hi5x9 (fun K hK => ?_) (AllReadyL.cons (o := ?o10x9) ?hi10x9 (fun K hK => ?_) AllReadyL.nil)
            (case hi5x9 => (simp only [List.getElem?_toArray, List.getElem?_cons_succ, List.getElem?_cons_zero]; exact rfl))
            (case hi10x9 => (simp only [List.getElem?_toArray, List.getElem?_cons_succ, List.getElem?_cons_zero]; exact rfl))
            · skip
              go_simp
              go_at_call 27
              refine (HLI.out _ HB.out).mono ?_
              rintro e w1 ⟨CA', cC', rfl, hcc, hrc, hb9⟩
              have t0 := below_tr HB.out hb9; have t1 := below_tr HQ.out hb9; have t2 := HOB.out.below hb9 HOB.out.lt; have t3 := HRL.out.below hb9; have t4 := HRW.out.below hb9
              clear HB HQ HOB HRL HRW
              have HB := Lib.hid t0; have HQ := Lib.hid t1; have HOB := Lib.hid t2; have HRL := Lib.hid t3; have HRW := Lib.hid t4
              clear t0 t1 t2 t3 t4
              have HRC := Lib.hid hrc
              have HCC := Lib.hid hcc
              clear hb9 hrc hcc
              (try go_wp2_with fail)
              (try clear hHeld)
              refine hK.out _ _ (by (try dsimp only); exact and10 (HXL.out _ HQ.out) ⟨HXR.out _ HQ.out, HXH.out _ HQ.out, HOB.out.cell 0, HOB.out.cell 1, HOB.out.cell 2⟩) (fun hHeld => ?_)
              clear hK K
              (try simp only [Act.put, List.setIfInBounds_toArray, List.set_cons_zero, List.set_cons_succ])
              refine wpAnyL_ready (rs := [7, 10]) (by kernel_rfl) (by simp) ?_
              refine AllReadyL.cons (o := ?o7x10) ?hi7x10 (fun K hK => ?_) (AllReadyL.cons (o := ?o10x10) ?hi10x10 (fun K hK => ?_) AllReadyL.nil)
              (case hi7x10 => (simp only [List.getElem?_toArray, List.getElem?_cons_succ, List.getElem?_cons_zero]; exact rfl))
              (case hi10x10 => (simp only [List.getElem?_toArray, List.getElem?_cons_succ, List.getElem?_cons_zero]; exact rfl))
              · skip
                go_simp
                go_at_call 44
                refine (River_c _ _).mono ?_
                rintro e w1 ⟨rfl, hb9⟩
                have t0 := below_tr HB.out hb9; have t1 := below_tr HQ.out hb9; have t2 := HOB.out.below hb9 HOB.out.lt; have t3 := HRL.out.below hb9; have t4 := HRW.out.below hb9; have t5 := HRC.out.below hb9
                clear HB HQ HOB HRL HRW HRC
                have HB := Lib.hid t0; have HQ := Lib.hid t1; have HOB := Lib.hid t2; have HRL := Lib.hid t3; have HRW := Lib.hid t4; have HRC := Lib.hid t5
                clear t0 t1 t2 t3 t4 t5
                clear hb9 
                (try go_wp2_with fail)
                (try clear hHeld)
                refine hK.out _ _ (by (try dsimp only); exact and10 (HXL.out _ HQ.out) ⟨HXR.out _ HQ.out, HXH.out _ HQ.out, HOB.out.cell 0, HOB.out.cell 1, HOB.out.cell 2⟩) (fun hHeld => ?_)
                clear hK K
                (try simp only [Act.put, List.setIfInBounds_toArray, List.set_cons_zero, List.set_cons_succ])
                refine wpAnyL_ready (rs := [10]) (by kernel_rfl) (by simp) ?_
                refine AllReadyL.cons (o := ?o10x11) ?hi10x11 (fun K hK => ?_) AllReadyL.nil
                (case hi10x11 => (simp only [List.getElem?_toArray, List.getElem?_cons_succ, List.getElem?_cons_zero]; exact rfl))
                go_simp
                have hb9 := (Below.refl w1.heap.size w1).alloc (Nat.le_refl _) (.cells #[.int .i64 x.far, .int .i64 x.high, .int .i64 x.wide, .int .i64 Z.far, .int .i64 Z.high, .int .i64 Z.wide] 99)
                have hhs : Rd encH 3 (w1.alloc (.cells #[.int .i64 x.far, .int .i64 x.high, .int .i64 x.wide, .int .i64 Z.far, .int .i64 Z.high, .int .i64 Z.wide] 99)) (some ⟨w1.heap.size, 0, none⟩) 2 [x, Z] := Rd.of_blkE encH_len (Blk.new _ _ _) rfl rfl
                have t0 := below_tr HB.out hb9; have t1 := below_tr HQ.out hb9; have t2 := HOB.out.below hb9 HOB.out.lt; have t3 := HRL.out.below hb9; have t4 := HRW.out.below hb9; have t5 := HRC.out.below hb9
                clear HB HQ HOB HRL HRW HRC
                have HB := Lib.hid t0; have HQ := Lib.hid t1; have HOB := Lib.hid t2; have HRL := Lib.hid t3; have HRW := Lib.hid t4; have HRC := Lib.hid t5
                clear t0 t1 t2 t3 t4 t5
                have HHS := Lib.hid hhs
                clear hb9 hhs
                (try clear hHeld)
                refine hK.out _ _ (by (try dsimp only); exact and10 (HXL.out _ HQ.out) ⟨HXR.out _ HQ.out, HXH.out _ HQ.out, HOB.out.cell 0, HOB.out.cell 1, HOB.out.cell 2⟩) (fun hHeld => ?_)
                clear hK K
                (try simp only [Act.put, List.setIfInBounds_toArray, List.set_cons_zero, List.set_cons_succ])
                revert HB HQ HOB HRL HRW HRC HHS hHeld
                generalize (World.alloc w1 (.cells #[.int .i64 x.far, .int .i64 x.high, .int .i64 x.wide, .int .i64 Z.far, .int .i64 Z.high, .int .i64 Z.wide] 99)) = wB
                intro HB HQ HOB HRL HRW HRC HHS hHeld
                refine wpAnyL_ready (rs := [11]) (by kernel_rfl) (by simp) ?_
                refine AllReadyL.cons (o := ?o11x12) ?hi11x12 (fun K hK => ?_) AllReadyL.nil
                (case hi11x12 => (simp only [List.getElem?_toArray, List.getElem?_cons_succ, List.getElem?_cons_zero]; exact rfl))
                go_simp
                go_at_call 45
                refine (HousesR_c HHS.out (by omega)).mono ?_
                rintro e w1 ⟨GA, cG, rfl, hcg, hrg, hb9⟩
                have t0 := below_tr HB.out hb9; have t1 := below_tr HQ.out hb9; have t2 := HOB.out.below hb9 HOB.out.lt; have t3 := HRL.out.below hb9; have t4 := HRW.out.below hb9; have t5 := HRC.out.below hb9; have t6 := HHS.out.below hb9
                clear HB HQ HOB HRL HRW HRC HHS
                have HB := Lib.hid t0; have HQ := Lib.hid t1; have HOB := Lib.hid t2; have HRL := Lib.hid t3; have HRW := Lib.hid t4; have HRC := Lib.hid t5; have HHS := Lib.hid t6
                clear t0 t1 t2 t3 t4 t5 t6
                have HRG := Lib.hid hrg
                have HCG := Lib.hid hcg
                clear hb9 hrg hcg
                (try go_wp2_with fail)
                (try clear hHeld)
                refine hK.out _ _ (by (try dsimp only); exact and10 (HXL.out _ HQ.out) ⟨HXR.out _ HQ.out, HXH.out _ HQ.out, HOB.out.cell 0, HOB.out.cell 1, HOB.out.cell 2⟩) (fun hHeld => ?_)
                clear hK K
                (try simp only [Act.put, List.setIfInBounds_toArray, List.set_cons_zero, List.set_cons_succ])
                refine wpAnyL_ready (rs := [12]) (by kernel_rfl) (by simp) ?_
                refine AllReadyL.cons (o := ?o12x13) ?hi12x13 (fun K hK => ?_) AllReadyL.nil
                (case hi12x13 => (simp only [List.getElem?_toArray, List.getElem?_cons_succ, List.getElem?_cons_zero]; exact rfl))
                go_simp
                go_at_call 43
                refine (Waves_v HRL.out HRW.out HRC.out HRG.out HCV.out HCI.out HOK.out HWO.out HCO.out (two_ok HRO.out HXO.out (HZ.out ▸ HOO.out.1))).mono ?_
                rintro e w1 ⟨QA, cQ, rfl, hcq, hrq, hb9⟩
                have t0 := below_tr HB.out hb9; have t1 := below_tr HQ.out hb9; have t2 := HOB.out.below hb9 HOB.out.lt; have t3 := HRL.out.below hb9; have t4 := HRW.out.below hb9; have t5 := HRC.out.below hb9; have t6 := HHS.out.below hb9; have t7 := HRG.out.below hb9
                clear HB HQ HOB HRL HRW HRC HHS HRG
                have HB := Lib.hid t0; have HQ := Lib.hid t1; have HOB := Lib.hid t2; have HRL := Lib.hid t3; have HRW := Lib.hid t4; have HRC := Lib.hid t5; have HHS := Lib.hid t6; have HRG := Lib.hid t7
                clear t0 t1 t2 t3 t4 t5 t6 t7
                have HRQ := Lib.hid hrq
                clear hb9 hrq
                (try go_wp2_with fail)
                (try clear hHeld)
                refine hK.out _ _ (by (try dsimp only); exact and10 (HXL.out _ HQ.out) ⟨HXR.out _ HQ.out, HXH.out _ HQ.out, HOB.out.cell 0, HOB.out.cell 1, HOB.out.cell 2⟩) (fun hHeld => ?_)
                clear hK K
                (try simp only [Act.put, List.setIfInBounds_toArray, List.set_cons_zero, List.set_cons_succ])
                (refine wpAnyL_take (n := 0) (i := 13) (oi := ?ox14) (v := ?vx14) ?hix14 ?k1x14 ?k2x14 ?k3x14 ?k4x14 ?k5x14 ?k6x14 ?hQx14 ?hYx14 ?hSx14 ?restx14; (case hix14 => (simp only [List.getElem?_toArray, List.getElem?_cons_succ, List.getElem?_cons_zero]; exact rfl)); (case k1x14 => kernel_rfl); (case k2x14 => kernel_rfl); (case k3x14 => kernel_rfl); (case k4x14 => kernel_rfl); (case k5x14 => kernel_rfl); (case k6x14 => kernel_rfl); (case hSx14 => assumption); (case hYx14 => (refine Or.inl ⟨rfl, ?hyx14⟩; intro w hSw; (try dsimp only at hSw); go_simp; (try with_reducible rfl))); (case hQx14 => exact (fun _ _ _ h => h)); (try simp only [Act.put, List.setIfInBounds_toArray, List.set_cons_zero, List.set_cons_succ]))
                (refine wpAnyL_take (n := 0) (i := 14) (oi := ?ox15) (v := ?vx15) ?hix15 ?k1x15 ?k2x15 ?k3x15 ?k4x15 ?k5x15 ?k6x15 ?hQx15 ?hYx15 ?hSx15 ?restx15; (case hix15 => (simp only [List.getElem?_toArray, List.getElem?_cons_succ, List.getElem?_cons_zero]; exact rfl)); (case k1x15 => kernel_rfl); (case k2x15 => kernel_rfl); (case k3x15 => kernel_rfl); (case k4x15 => kernel_rfl); (case k5x15 => kernel_rfl); (case k6x15 => kernel_rfl); (case hSx15 => assumption); (case hYx15 => (refine Or.inl ⟨rfl, ?hyx15⟩; intro w hSw; (try dsimp only at hSw); go_simp; (try with_reducible rfl))); (case hQx15 => exact (fun _ _ _ h => h)); (try simp only [Act.put, List.setIfInBounds_toArray, List.set_cons_zero, List.set_cons_succ]))
                (refine wpAnyL_take (n := 0) (i := 15) (oi := ?ox16) (v := ?vx16) ?hix16 ?k1x16 ?k2x16 ?k3x16 ?k4x16 ?k5x16 ?k6x16 ?hQx16 ?hYx16 ?hSx16 ?restx16; (case hix16 => (simp only [List.getElem?_toArray, List.getElem?_cons_succ, List.getElem?_cons_zero]; exact rfl)); (case k1x16 => kernel_rfl); (case k2x16 => kernel_rfl); (case k3x16 => kernel_rfl); (case k4x16 => kernel_rfl); (case k5x16 => kernel_rfl); (case k6x16 => kernel_rfl); (case hSx16 => assumption); (case hYx16 => (refine Or.inl ⟨rfl, ?hyx16⟩; intro w hSw; (try dsimp only at hSw); go_simp; (try with_reducible rfl))); (case hQx16 => exact (fun _ _ _ h => h)); (try simp only [Act.put, List.setIfInBounds_toArray, List.set_cons_zero, List.set_cons_succ]))
                (refine wpAnyL_take (n := 0) (i := 16) (oi := ?ox17) (v := ?vx17) ?hix17 ?k1x17 ?k2x17 ?k3x17 ?k4x17 ?k5x17 ?k6x17 ?hQx17 ?hYx17 ?hSx17 ?restx17; (case hix17 => (simp only [List.getElem?_toArray, List.getElem?_cons_succ, List.getElem?_cons_zero]; exact rfl)); (case k1x17 => kernel_rfl); (case k2x17 => kernel_rfl); (case k3x17 => kernel_rfl); (case k4x17 => kernel_rfl); (case k5x17 => kernel_rfl); (case k6x17 => kernel_rfl); (case hSx17 => assumption); (case hYx17 => (refine Or.inl ⟨rfl, ?hyx17⟩; intro w hSw; (try dsimp only at hSw); go_simp; (try with_reducible rfl))); (case hQx17 => exact (fun _ _ _ h => h)); (try simp only [Act.put, List.setIfInBounds_toArray, List.set_cons_zero, List.set_cons_succ]))
                (refine wpAnyL_take (n := 0) (i := 17) (oi := ?ox18) (v := ?vx18) ?hix18 ?k1x18 ?k2x18 ?k3x18 ?k4x18 ?k5x18 ?k6x18 ?hQx18 ?hYx18 ?hSx18 ?restx18; (case hix18 => (simp only [List.getElem?_toArray, List.getElem?_cons_succ, List.getElem?_cons_zero]; exact rfl)); (case k1x18 => kernel_rfl); (case k2x18 => kernel_rfl); (case k3x18 => kernel_rfl); (case k4x18 => kernel_rfl); (case k5x18 => kernel_rfl); (case k6x18 => kernel_rfl); (case hSx18 => assumption); (case hYx18 => (refine Or.inl ⟨rfl, ?hyx18⟩; intro w hSw; (try dsimp only at hSw); go_simp; (try with_reducible rfl))); (case hQx18 => exact (fun _ _ _ h => h)); (try simp only [Act.put, List.setIfInBounds_toArray, List.set_cons_zero, List.set_cons_succ]))
                (refine wpAnyL_done (by kernel_rfl) ?_ _)
                go_wp2_with fail
                go_meet
                exact ⟨QA, cQ, rfl, rfl, HRQ.out, HB.out⟩
              · skip
                go_simp
                have hb9 := (Below.refl w1.heap.size w1).alloc (Nat.le_refl _) (.cells #[.int .i64 x.far, .int .i64 x.high, .int .i64 x.wide, .int .i64 Z.far, .int .i64 Z.high, .int .i64 Z.wide] 99)
                have hhs : Rd encH 3 (w1.alloc (.cells #[.int .i64 x.far, .int .i64 x.high, .int .i64 x.wide, .int .i64 Z.far, .int .i64 Z.high, .int .i64 Z.wide] 99)) (some ⟨w1.heap.size, 0, none⟩) 2 [x, Z] := Rd.of_blkE encH_len (Blk.new _ _ _) rfl rfl
                have t0 := below_tr HB.out hb9; have t1 := below_tr HQ.out hb9; have t2 := HOB.out.below hb9 HOB.out.lt; have t3 := HRL.out.below hb9; have t4 := HRW.out.below hb9; have t5 := HRC.out.below hb9
                clear HB HQ HOB HRL HRW HRC
                have HB := Lib.hid t0; have HQ := Lib.hid t1; have HOB := Lib.hid t2; have HRL := Lib.hid t3; have HRW := Lib.hid t4; have HRC := Lib.hid t5
                clear t0 t1 t2 t3 t4 t5
                have HHS := Lib.hid hhs
                clear hb9 hhs
                (try clear hHeld)
                refine hK.out _ _ (by (try dsimp only); exact and10 (HXL.out _ HQ.out) ⟨HXR.out _ HQ.out, HXH.out _ HQ.out, HOB.out.cell 0, HOB.out.cell 1, HOB.out.cell 2⟩) (fun hHeld => ?_)
                clear hK K
                (try simp only [Act.put, List.setIfInBounds_toArray, List.set_cons_zero, List.set_cons_succ])
                revert HB HQ HOB HRL HRW HRC HHS hHeld
                generalize (World.alloc w1 (.cells #[.int .i64 x.far, .int .i64 x.high, .int .i64 x.wide, .int .i64 Z.far, .int .i64 Z.high, .int .i64 Z.wide] 99)) = wB
                intro HB HQ HOB HRL HRW HRC HHS hHeld
                refine wpAnyL_ready (rs := [7]) (by kernel_rfl) (by simp) ?_
                refine AllReadyL.cons (o := ?o7x19) ?hi7x19 (fun K hK => ?_) AllReadyL.nil
                (case hi7x19 => (simp only [List.getElem?_toArray, List.getElem?_cons_succ, List.getElem?_cons_zero]; exact rfl))
                go_simp
                go_at_call 44
                refine (River_c _ _).mono ?_
                rintro e w1 ⟨rfl, hb9⟩
                have t0 := below_tr HB.out hb9; have t1 := below_tr HQ.out hb9; have t2 := HOB.out.below hb9 HOB.out.lt; have t3 := HRL.out.below hb9; have t4 := HRW.out.below hb9; have t5 := HRC.out.below hb9; have t6 := HHS.out.below hb9
                clear HB HQ HOB HRL HRW HRC HHS
                have HB := Lib.hid t0; have HQ := Lib.hid t1; have HOB := Lib.hid t2; have HRL := Lib.hid t3; have HRW := Lib.hid t4; have HRC := Lib.hid t5; have HHS := Lib.hid t6
                clear t0 t1 t2 t3 t4 t5 t6
                clear hb9 
                (try go_wp2_with fail)
                (try clear hHeld)
                refine hK.out _ _ (by (try dsimp only); exact and10 (HXL.out _ HQ.out) ⟨HXR.out _ HQ.out, HXH.out _ HQ.out, HOB.out.cell 0, HOB.out.cell 1, HOB.out.cell 2⟩) (fun hHeld => ?_)
                clear hK K
                (try simp only [Act.put, List.setIfInBounds_toArray, List.set_cons_zero, List.set_cons_succ])
                refine wpAnyL_ready (rs := [11]) (by kernel_rfl) (by simp) ?_
                refine AllReadyL.cons (o := ?o11x20) ?hi11x20 (fun K hK => ?_) AllReadyL.nil
                (case hi11x20 => (simp only [List.getElem?_toArray, List.getElem?_cons_succ, List.getElem?_cons_zero]; exact rfl))
                go_simp
                go_at_call 45
                refine (HousesR_c HHS.out (by omega)).mono ?_
                rintro e w1 ⟨GA, cG, rfl, hcg, hrg, hb9⟩
                have t0 := below_tr HB.out hb9; have t1 := below_tr HQ.out hb9; have t2 := HOB.out.below hb9 HOB.out.lt; have t3 := HRL.out.below hb9; have t4 := HRW.out.below hb9; have t5 := HRC.out.below hb9; have t6 := HHS.out.below hb9
                clear HB HQ HOB HRL HRW HRC HHS
                have HB := Lib.hid t0; have HQ := Lib.hid t1; have HOB := Lib.hid t2; have HRL := Lib.hid t3; have HRW := Lib.hid t4; have HRC := Lib.hid t5; have HHS := Lib.hid t6
                clear t0 t1 t2 t3 t4 t5 t6
                have HRG := Lib.hid hrg
                have HCG := Lib.hid hcg
                clear hb9 hrg hcg
                (try go_wp2_with fail)
                (try clear hHeld)
                refine hK.out _ _ (by (try dsimp only); exact and10 (HXL.out _ HQ.out) ⟨HXR.out _ HQ.out, HXH.out _ HQ.out, HOB.out.cell 0, HOB.out.cell 1, HOB.out.cell 2⟩) (fun hHeld => ?_)
                clear hK K
                (try simp only [Act.put, List.setIfInBounds_toArray, List.set_cons_zero, List.set_cons_succ])
                refine wpAnyL_ready (rs := [12]) (by kernel_rfl) (by simp) ?_
                refine AllReadyL.cons (o := ?o12x21) ?hi12x21 (fun K hK => ?_) AllReadyL.nil
                (case hi12x21 => (simp only [List.getElem?_toArray, List.getElem?_cons_succ, List.getElem?_cons_zero]; exact rfl))
                go_simp
                go_at_call 43
                refine (Waves_v HRL.out HRW.out HRC.out HRG.out HCV.out HCI.out HOK.out HWO.out HCO.out (two_ok HRO.out HXO.out (HZ.out ▸ HOO.out.1))).mono ?_
                rintro e w1 ⟨QA, cQ, rfl, hcq, hrq, hb9⟩
                have t0 := below_tr HB.out hb9; have t1 := below_tr HQ.out hb9; have t2 := HOB.out.below hb9 HOB.out.lt; have t3 := HRL.out.below hb9; have t4 := HRW.out.below hb9; have t5 := HRC.out.below hb9; have t6 := HHS.out.below hb9; have t7 := HRG.out.below hb9
                clear HB HQ HOB HRL HRW HRC HHS HRG
                have HB := Lib.hid t0; have HQ := Lib.hid t1; have HOB := Lib.hid t2; have HRL := Lib.hid t3; have HRW := Lib.hid t4; have HRC := Lib.hid t5; have HHS := Lib.hid t6; have HRG := Lib.hid t7
                clear t0 t1 t2 t3 t4 t5 t6 t7
                have HRQ := Lib.hid hrq
                clear hb9 hrq
                (try go_wp2_with fail)
                (try clear hHeld)
                refine hK.out _ _ (by (try dsimp only); exact and10 (HXL.out _ HQ.out) ⟨HXR.out _ HQ.out, HXH.out _ HQ.out, HOB.out.cell 0, HOB.out.cell 1, HOB.out.cell 2⟩) (fun hHeld => ?_)
                clear hK K
                (try simp only [Act.put, List.setIfInBounds_toArray, List.set_cons_zero, List.set_cons_succ])
                (refine wpAnyL_take (n := 0) (i := 13) (oi := ?ox22) (v := ?vx22) ?hix22 ?k1x22 ?k2x22 ?k3x22 ?k4x22 ?k5x22 ?k6x22 ?hQx22 ?hYx22 ?hSx22 ?restx22; (case hix22 => (simp only [List.getElem?_toArray, List.getElem?_cons_succ, List.getElem?_cons_zero]; exact rfl)); (case k1x22 => kernel_rfl); (case k2x22 => kernel_rfl); (case k3x22 => kernel_rfl); (case k4x22 => kernel_rfl); (case k5x22 => kernel_rfl); (case k6x22 => kernel_rfl); (case hSx22 => assumption); (case hYx22 => (refine Or.inl ⟨rfl, ?hyx22⟩; intro w hSw; (try dsimp only at hSw); go_simp; (try with_reducible rfl))); (case hQx22 => exact (fun _ _ _ h => h)); (try simp only [Act.put, List.setIfInBounds_toArray, List.set_cons_zero, List.set_cons_succ]))
                (refine wpAnyL_take (n := 0) (i := 14) (oi := ?ox23) (v := ?vx23) ?hix23 ?k1x23 ?k2x23 ?k3x23 ?k4x23 ?k5x23 ?k6x23 ?hQx23 ?hYx23 ?hSx23 ?restx23; (case hix23 => (simp only [List.getElem?_toArray, List.getElem?_cons_succ, List.getElem?_cons_zero]; exact rfl)); (case k1x23 => kernel_rfl); (case k2x23 => kernel_rfl); (case k3x23 => kernel_rfl); (case k4x23 => kernel_rfl); (case k5x23 => kernel_rfl); (case k6x23 => kernel_rfl); (case hSx23 => assumption); (case hYx23 => (refine Or.inl ⟨rfl, ?hyx23⟩; intro w hSw; (try dsimp only at hSw); go_simp; (try with_reducible rfl))); (case hQx23 => exact (fun _ _ _ h => h)); (try simp only [Act.put, List.setIfInBounds_toArray, List.set_cons_zero, List.set_cons_succ]))
                (refine wpAnyL_take (n := 0) (i := 15) (oi := ?ox24) (v := ?vx24) ?hix24 ?k1x24 ?k2x24 ?k3x24 ?k4x24 ?k5x24 ?k6x24 ?hQx24 ?hYx24 ?hSx24 ?restx24; (case hix24 => (simp only [List.getElem?_toArray, List.getElem?_cons_succ, List.getElem?_cons_zero]; exact rfl)); (case k1x24 => kernel_rfl); (case k2x24 => kernel_rfl); (case k3x24 => kernel_rfl); (case k4x24 => kernel_rfl); (case k5x24 => kernel_rfl); (case k6x24 => kernel_rfl); (case hSx24 => assumption); (case hYx24 => (refine Or.inl ⟨rfl, ?hyx24⟩; intro w hSw; (try dsimp only at hSw); go_simp; (try with_reducible rfl))); (case hQx24 => exact (fun _ _ _ h => h)); (try simp only [Act.put, List.setIfInBounds_toArray, List.set_cons_zero, List.set_cons_succ]))
                (refine wpAnyL_take (n := 0) (i := 16) (oi := ?ox25) (v := ?vx25) ?hix25 ?k1x25 ?k2x25 ?k3x25 ?k4x25 ?k5x25 ?k6x25 ?hQx25 ?hYx25 ?hSx25 ?restx25; (case hix25 => (simp only [List.getElem?_toArray, List.getElem?_cons_succ, List.getElem?_cons_zero]; exact rfl)); (case k1x25 => kernel_rfl); (case k2x25 => kernel_rfl); (case k3x25 => kernel_rfl); (case k4x25 => kernel_rfl); (case k5x25 => kernel_rfl); (case k6x25 => kernel_rfl); (case hSx25 => assumption); (case hYx25 => (refine Or.inl ⟨rfl, ?hyx25⟩; intro w hSw; (try dsimp only at hSw); go_simp; (try with_reducible rfl))); (case hQx25 => exact (fun _ _ _ h => h)); (try simp only [Act.put, List.setIfInBounds_toArray, List.set_cons_zero, List.set_cons_succ]))
                (refine wpAnyL_take (n := 0) (i := 17) (oi := ?ox26) (v := ?vx26) ?hix26 ?k1x26 ?k2x26 ?k3x26 ?k4x26 ?k5x26 ?k6x26 ?hQx26 ?hYx26 ?hSx26 ?restx26; (case hix26 => (simp only [List.getElem?_toArray, List.getElem?_cons_succ, List.getElem?_cons_zero]; exact rfl)); (case k1x26 => kernel_rfl); (case k2x26 => kernel_rfl); (case k3x26 => kernel_rfl); (case k4x26 => kernel_rfl); (case k5x26 => kernel_rfl); (case k6x26 => kernel_rfl); (case hSx26 => assumption); (case hYx26 => (refine Or.inl ⟨rfl, ?hyx26⟩; intro w hSw; (try dsimp only at hSw); go_simp; (try with_reducible rfl))); (case hQx26 => exact (fun _ _ _ h => h)); (try simp only [Act.put, List.setIfInBounds_toArray, List.set_cons_zero, List.set_cons_succ]))
                (refine wpAnyL_done (by kernel_rfl) ?_ _)
                go_wp2_with fail
                go_meet
                exact ⟨QA, cQ, rfl, rfl, HRQ.out, HB.out⟩
            · skip
              go_simp
              have hb9 := (Below.refl w1.heap.size w1).alloc (Nat.le_refl _) (.cells #[.int .i64 x.far, .int .i64 x.high, .int .i64 x.wide, .int .i64 Z.far, .int .i64 Z.high, .int .i64 Z.wide] 99)
              have hhs : Rd encH 3 (w1.alloc (.cells #[.int .i64 x.far, .int .i64 x.high, .int .i64 x.wide, .int .i64 Z.far, .int .i64 Z.high, .int .i64 Z.wide] 99)) (some ⟨w1.heap.size, 0, none⟩) 2 [x, Z] := Rd.of_blkE encH_len (Blk.new _ _ _) rfl rfl
              have t0 := below_tr HB.out hb9; have t1 := below_tr HQ.out hb9; have t2 := HOB.out.below hb9 HOB.out.lt; have t3 := HRL.out.below hb9; have t4 := HRW.out.below hb9
              clear HB HQ HOB HRL HRW
              have HB := Lib.hid t0; have HQ := Lib.hid t1; have HOB := Lib.hid t2; have HRL := Lib.hid t3; have HRW := Lib.hid t4
              clear t0 t1 t2 t3 t4
              have HHS := Lib.hid hhs
              clear hb9 hhs
              (try clear hHeld)
              refine hK.out _ _ (by (try dsimp only); exact and10 (HXL.out _ HQ.out) ⟨HXR.out _ HQ.out, HXH.out _ HQ.out, HOB.out.cell 0, HOB.out.cell 1, HOB.out.cell 2⟩) (fun hHeld => ?_)
              clear hK K
              (try simp only [Act.put, List.setIfInBounds_toArray, List.set_cons_zero, List.set_cons_succ])
              revert HB HQ HOB HRL HRW HHS hHeld
              generalize (World.alloc w1 (.cells #[.int .i64 x.far, .int .i64 x.high, .int .i64 x.wide, .int .i64 Z.far, .int .i64 Z.high, .int .i64 Z.wide] 99)) = wB
              intro HB HQ HOB HRL HRW HHS hHeld
              refine wpAnyL_ready (rs := [5]) (by kernel_rfl) (by simp) ?_
              refine AllReadyL.cons (o := ?o5x27) ?hi5x27 (fun K hK => ?_) AllReadyL.nil
              (case hi5x27 => (simp only [List.getElem?_toArray, List.getElem?_cons_succ, List.getElem?_cons_zero]; exact rfl))
              go_simp
              go_at_call 27
              refine (HLI.out _ HB.out).mono ?_
              rintro e w1 ⟨CA', cC', rfl, hcc, hrc, hb9⟩
              have t0 := below_tr HB.out hb9; have t1 := below_tr HQ.out hb9; have t2 := HOB.out.below hb9 HOB.out.lt; have t3 := HRL.out.below hb9; have t4 := HRW.out.below hb9; have t5 := HHS.out.below hb9
              clear HB HQ HOB HRL HRW HHS
              have HB := Lib.hid t0; have HQ := Lib.hid t1; have HOB := Lib.hid t2; have HRL := Lib.hid t3; have HRW := Lib.hid t4; have HHS := Lib.hid t5
              clear t0 t1 t2 t3 t4 t5
              have HRC := Lib.hid hrc
              have HCC := Lib.hid hcc
              clear hb9 hrc hcc
              (try go_wp2_with fail)
              (try clear hHeld)
              refine hK.out _ _ (by (try dsimp only); exact and10 (HXL.out _ HQ.out) ⟨HXR.out _ HQ.out, HXH.out _ HQ.out, HOB.out.cell 0, HOB.out.cell 1, HOB.out.cell 2⟩) (fun hHeld => ?_)
              clear hK K
              (try simp only [Act.put, List.setIfInBounds_toArray, List.set_cons_zero, List.set_cons_succ])
              refine wpAnyL_ready (rs := [7]) (by kernel_rfl) (by simp) ?_
              refine AllReadyL.cons (o := ?o7x28) ?hi7x28 (fun K hK => ?_) AllReadyL.nil
              (case hi7x28 => (simp only [List.getElem?_toArray, List.getElem?_cons_succ, List.getElem?_cons_zero]; exact rfl))
              go_simp
              go_at_call 44
              refine (River_c _ _).mono ?_
              rintro e w1 ⟨rfl, hb9⟩
              have t0 := below_tr HB.out hb9; have t1 := below_tr HQ.out hb9; have t2 := HOB.out.below hb9 HOB.out.lt; have t3 := HRL.out.below hb9; have t4 := HRW.out.below hb9; have t5 := HHS.out.below hb9; have t6 := HRC.out.below hb9
              clear HB HQ HOB HRL HRW HHS HRC
              have HB := Lib.hid t0; have HQ := Lib.hid t1; have HOB := Lib.hid t2; have HRL := Lib.hid t3; have HRW := Lib.hid t4; have HHS := Lib.hid t5; have HRC := Lib.hid t6
              clear t0 t1 t2 t3 t4 t5 t6
              clear hb9 
              (try go_wp2_with fail)
              (try clear hHeld)
              refine hK.out _ _ (by (try dsimp only); exact and10 (HXL.out _ HQ.out) ⟨HXR.out _ HQ.out, HXH.out _ HQ.out, HOB.out.cell 0, HOB.out.cell 1, HOB.out.cell 2⟩) (fun hHeld => ?_)
              clear hK K
              (try simp only [Act.put, List.setIfInBounds_toArray, List.set_cons_zero, List.set_cons_succ])
              refine wpAnyL_ready (rs := [11]) (by kernel_rfl) (by simp) ?_
              refine AllReadyL.cons (o := ?o11x29) ?hi11x29 (fun K hK => ?_) AllReadyL.nil
              (case hi11x29 => (simp only [List.getElem?_toArray, List.getElem?_cons_succ, List.getElem?_cons_zero]; exact rfl))
              go_simp
              go_at_call 45
              refine (HousesR_c HHS.out (by omega)).mono ?_
              rintro e w1 ⟨GA, cG, rfl, hcg, hrg, hb9⟩
              have t0 := below_tr HB.out hb9; have t1 := below_tr HQ.out hb9; have t2 := HOB.out.below hb9 HOB.out.lt; have t3 := HRL.out.below hb9; have t4 := HRW.out.below hb9; have t5 := HHS.out.below hb9; have t6 := HRC.out.below hb9
              clear HB HQ HOB HRL HRW HHS HRC
              have HB := Lib.hid t0; have HQ := Lib.hid t1; have HOB := Lib.hid t2; have HRL := Lib.hid t3; have HRW := Lib.hid t4; have HHS := Lib.hid t5; have HRC := Lib.hid t6
              clear t0 t1 t2 t3 t4 t5 t6
              have HRG := Lib.hid hrg
              have HCG := Lib.hid hcg
              clear hb9 hrg hcg
              (try go_wp2_with fail)
              (try clear hHeld)
              refine hK.out _ _ (by (try dsimp only); exact and10 (HXL.out _ HQ.out) ⟨HXR.out _ HQ.out, HXH.out _ HQ.out, HOB.out.cell 0, HOB.out.cell 1, HOB.out.cell 2⟩) (fun hHeld => ?_)
              clear hK K
              (try simp only [Act.put, List.setIfInBounds_toArray, List.set_cons_zero, List.set_cons_succ])
              refine wpAnyL_ready (rs := [12]) (by kernel_rfl) (by simp) ?_
              refine AllReadyL.cons (o := ?o12x30) ?hi12x30 (fun K hK => ?_) AllReadyL.nil
              (case hi12x30 => (simp only [List.getElem?_toArray, List.getElem?_cons_succ, List.getElem?_cons_zero]; exact rfl))
              go_simp
              go_at_call 43
              refine (Waves_v HRL.out HRW.out HRC.out HRG.out HCV.out HCI.out HOK.out HWO.out HCO.out (two_ok HRO.out HXO.out (HZ.out ▸ HOO.out.1))).mono ?_
              rintro e w1 ⟨QA, cQ, rfl, hcq, hrq, hb9⟩
              have t0 := below_tr HB.out hb9; have t1 := below_tr HQ.out hb9; have t2 := HOB.out.below hb9 HOB.out.lt; have t3 := HRL.out.below hb9; have t4 := HRW.out.below hb9; have t5 := HHS.out.below hb9; have t6 := HRC.out.below hb9; have t7 := HRG.out.below hb9
              clear HB HQ HOB HRL HRW HHS HRC HRG
              have HB := Lib.hid t0; have HQ := Lib.hid t1; have HOB := Lib.hid t2; have HRL := Lib.hid t3; have HRW := Lib.hid t4; have HHS := Lib.hid t5; have HRC := Lib.hid t6; have HRG := Lib.hid t7
              clear t0 t1 t2 t3 t4 t5 t6 t7
              have HRQ := Lib.hid hrq
              clear hb9 hrq
              (try go_wp2_with fail)
              (try clear hHeld)
              refine hK.out _ _ (by (try dsimp only); exact and10 (HXL.out _ HQ.out) ⟨HXR.out _ HQ.out, HXH.out _ HQ.out, HOB.out.cell 0, HOB.out.cell 1, HOB.out.cell 2⟩) (fun hHeld => ?_)
              clear hK K
              (try simp only [Act.put, List.setIfInBounds_toArray, List.set_cons_zero, List.set_cons_succ])
              (refine wpAnyL_take (n := 0) (i := 13) (oi := ?ox31) (v := ?vx31) ?hix31 ?k1x31 ?k2x31 ?k3x31 ?k4x31 ?k5x31 ?k6x31 ?hQx31 ?hYx31 ?hSx31 ?restx31; (case hix31 => (simp only [List.getElem?_toArray, List.getElem?_cons_succ, List.getElem?_cons_zero]; exact rfl)); (case k1x31 => kernel_rfl); (case k2x31 => kernel_rfl); (case k3x31 => kernel_rfl); (case k4x31 => kernel_rfl); (case k5x31 => kernel_rfl); (case k6x31 => kernel_rfl); (case hSx31 => assumption); (case hYx31 => (refine Or.inl ⟨rfl, ?hyx31⟩; intro w hSw; (try dsimp only at hSw); go_simp; (try with_reducible rfl))); (case hQx31 => exact (fun _ _ _ h => h)); (try simp only [Act.put, List.setIfInBounds_toArray, List.set_cons_zero, List.set_cons_succ]))
              (refine wpAnyL_take (n := 0) (i := 14) (oi := ?ox32) (v := ?vx32) ?hix32 ?k1x32 ?k2x32 ?k3x32 ?k4x32 ?k5x32 ?k6x32 ?hQx32 ?hYx32 ?hSx32 ?restx32; (case hix32 => (simp only [List.getElem?_toArray, List.getElem?_cons_succ, List.getElem?_cons_zero]; exact rfl)); (case k1x32 => kernel_rfl); (case k2x32 => kernel_rfl); (case k3x32 => kernel_rfl); (case k4x32 => kernel_rfl); (case k5x32 => kernel_rfl); (case k6x32 => kernel_rfl); (case hSx32 => assumption); (case hYx32 => (refine Or.inl ⟨rfl, ?hyx32⟩; intro w hSw; (try dsimp only at hSw); go_simp; (try with_reducible rfl))); (case hQx32 => exact (fun _ _ _ h => h)); (try simp only [Act.put, List.setIfInBounds_toArray, List.set_cons_zero, List.set_cons_succ]))
              (refine wpAnyL_take (n := 0) (i := 15) (oi := ?ox33) (v := ?vx33) ?hix33 ?k1x33 ?k2x33 ?k3x33 ?k4x33 ?k5x33 ?k6x33 ?hQx33 ?hYx33 ?hSx33 ?restx33; (case hix33 => (simp only [List.getElem?_toArray, List.getElem?_cons_succ, List.getElem?_cons_zero]; exact rfl)); (case k1x33 => kernel_rfl); (case k2x33 => kernel_rfl); (case k3x33 => kernel_rfl); (case k4x33 => kernel_rfl); (case k5x33 => kernel_rfl); (case k6x33 => kernel_rfl); (case hSx33 => assumption); (case hYx33 => (refine Or.inl ⟨rfl, ?hyx33⟩; intro w hSw; (try dsimp only at hSw); go_simp; (try with_reducible rfl))); (case hQx33 => exact (fun _ _ _ h => h)); (try simp only [Act.put, List.setIfInBounds_toArray, List.set_cons_zero, List.set_cons_succ]))
              (refine wpAnyL_take (n := 0) (i := 16) (oi := ?ox34) (v := ?vx34) ?hix34 ?k1x34 ?k2x34 ?k3x34 ?k4x34 ?k5x34 ?k6x34 ?hQx34 ?hYx34 ?hSx34 ?restx34; (case hix34 => (simp only [List.getElem?_toArray, List.getElem?_cons_succ, List.getElem?_cons_zero]; exact rfl)); (case k1x34 => kernel_rfl); (case k2x34 => kernel_rfl); (case k3x34 => kernel_rfl); (case k4x34 => kernel_rfl); (case k5x34 => kernel_rfl); (case k6x34 => kernel_rfl); (case hSx34 => assumption); (case hYx34 => (refine Or.inl ⟨rfl, ?hyx34⟩; intro w hSw; (try dsimp only at hSw); go_simp; (try with_reducible rfl))); (case hQx34 => exact (fun _ _ _ h => h)); (try simp only [Act.put, List.setIfInBounds_toArray, List.set_cons_zero, List.set_cons_succ]))
              (refine wpAnyL_take (n := 0) (i := 17) (oi := ?ox35) (v := ?vx35) ?hix35 ?k1x35 ?k2x35 ?k3x35 ?k4x35 ?k5x35 ?k6x35 ?hQx35 ?hYx35 ?hSx35 ?restx35; (case hix35 => (simp only [List.getElem?_toArray, List.getElem?_cons_succ, List.getElem?_cons_zero]; exact rfl)); (case k1x35 => kernel_rfl); (case k2x35 => kernel_rfl); (case k3x35 => kernel_rfl); (case k4x35 => kernel_rfl); (case k5x35 => kernel_rfl); (case k6x35 => kernel_rfl); (case hSx35 => assumption); (case hYx35 => (refine Or.inl ⟨rfl, ?hyx35⟩; intro w hSw; (try dsimp only at hSw); go_simp; (try with_reducible rfl))); (case hQx35 => exact (fun _ _ _ h => h)); (try simp only [Act.put, List.setIfInBounds_toArray, List.set_cons_zero, List.set_cons_succ]))
              (refine wpAnyL_done (by kernel_rfl) ?_ _)
              go_wp2_with fail
              go_meet
              exact ⟨QA, cQ, rfl, rfl, HRQ.out, HB.out⟩
          · skip
            go_simp
            have hb9 := (Below.refl w1.heap.size w1).alloc (Nat.le_refl _) (.cells #[.int .i64 x.far, .int .i64 x.high, .int .i64 x.wide, .int .i64 Z.far, .int .i64 Z.high, .int .i64 Z.wide] 99)
            have hhs : Rd encH 3 (w1.alloc (.cells #[.int .i64 x.far, .int .i64 x.high, .int .i64 x.wide, .int .i64 Z.far, .int .i64 Z.high, .int .i64 Z.wide] 99)) (some ⟨w1.heap.size, 0, none⟩) 2 [x, Z] := Rd.of_blkE encH_len (Blk.new _ _ _) rfl rfl
            have t0 := below_tr HB.out hb9; have t1 := below_tr HQ.out hb9; have t2 := HOB.out.below hb9 HOB.out.lt; have t3 := HRL.out.below hb9
            clear HB HQ HOB HRL
            have HB := Lib.hid t0; have HQ := Lib.hid t1; have HOB := Lib.hid t2; have HRL := Lib.hid t3
            clear t0 t1 t2 t3
            have HHS := Lib.hid hhs
            clear hb9 hhs
            (try clear hHeld)
            refine hK.out _ _ (by (try dsimp only); exact and10 (HXL.out _ HQ.out) ⟨HXR.out _ HQ.out, HXH.out _ HQ.out, HOB.out.cell 0, HOB.out.cell 1, HOB.out.cell 2⟩) (fun hHeld => ?_)
            clear hK K
            (try simp only [Act.put, List.setIfInBounds_toArray, List.set_cons_zero, List.set_cons_succ])
            revert HB HQ HOB HRL HHS hHeld
            generalize (World.alloc w1 (.cells #[.int .i64 x.far, .int .i64 x.high, .int .i64 x.wide, .int .i64 Z.far, .int .i64 Z.high, .int .i64 Z.wide] 99)) = wB
            intro HB HQ HOB HRL HHS hHeld
            refine wpAnyL_ready (rs := [3]) (by kernel_rfl) (by simp) ?_
            refine AllReadyL.cons (o := ?o3x36) ?hi3x36 (fun K hK => ?_) AllReadyL.nil
            (case hi3x36 => (simp only [List.getElem?_toArray, List.getElem?_cons_succ, List.getElem?_cons_zero]; exact rfl))
            go_simp
            go_at_call 21
            refine (HWK.out _ HB.out).mono ?_
            rintro e w1 ⟨WA', cW', rfl, hcw, hrw, hb9⟩
            have t0 := below_tr HB.out hb9; have t1 := below_tr HQ.out hb9; have t2 := HOB.out.below hb9 HOB.out.lt; have t3 := HRL.out.below hb9; have t4 := HHS.out.below hb9
            clear HB HQ HOB HRL HHS
            have HB := Lib.hid t0; have HQ := Lib.hid t1; have HOB := Lib.hid t2; have HRL := Lib.hid t3; have HHS := Lib.hid t4
            clear t0 t1 t2 t3 t4
            have HRW := Lib.hid hrw
            have HCW := Lib.hid hcw
            clear hb9 hrw hcw
            (try go_wp2_with fail)
            (try clear hHeld)
            refine hK.out _ _ (by (try dsimp only); exact and10 (HXL.out _ HQ.out) ⟨HXR.out _ HQ.out, HXH.out _ HQ.out, HOB.out.cell 0, HOB.out.cell 1, HOB.out.cell 2⟩) (fun hHeld => ?_)
            clear hK K
            (try simp only [Act.put, List.setIfInBounds_toArray, List.set_cons_zero, List.set_cons_succ])
            refine wpAnyL_ready (rs := [5]) (by kernel_rfl) (by simp) ?_
            refine AllReadyL.cons (o := ?o5x37) ?hi5x37 (fun K hK => ?_) AllReadyL.nil
            (case hi5x37 => (simp only [List.getElem?_toArray, List.getElem?_cons_succ, List.getElem?_cons_zero]; exact rfl))
            go_simp
            go_at_call 27
            refine (HLI.out _ HB.out).mono ?_
            rintro e w1 ⟨CA', cC', rfl, hcc, hrc, hb9⟩
            have t0 := below_tr HB.out hb9; have t1 := below_tr HQ.out hb9; have t2 := HOB.out.below hb9 HOB.out.lt; have t3 := HRL.out.below hb9; have t4 := HHS.out.below hb9; have t5 := HRW.out.below hb9
            clear HB HQ HOB HRL HHS HRW
            have HB := Lib.hid t0; have HQ := Lib.hid t1; have HOB := Lib.hid t2; have HRL := Lib.hid t3; have HHS := Lib.hid t4; have HRW := Lib.hid t5
            clear t0 t1 t2 t3 t4 t5
            have HRC := Lib.hid hrc
            have HCC := Lib.hid hcc
            clear hb9 hrc hcc
            (try go_wp2_with fail)
            (try clear hHeld)
            refine hK.out _ _ (by (try dsimp only); exact and10 (HXL.out _ HQ.out) ⟨HXR.out _ HQ.out, HXH.out _ HQ.out, HOB.out.cell 0, HOB.out.cell 1, HOB.out.cell 2⟩) (fun hHeld => ?_)
            clear hK K
            (try simp only [Act.put, List.setIfInBounds_toArray, List.set_cons_zero, List.set_cons_succ])
            refine wpAnyL_ready (rs := [7]) (by kernel_rfl) (by simp) ?_
            refine AllReadyL.cons (o := ?o7x38) ?hi7x38 (fun K hK => ?_) AllReadyL.nil
            (case hi7x38 => (simp only [List.getElem?_toArray, List.getElem?_cons_succ, List.getElem?_cons_zero]; exact rfl))
            go_simp
            go_at_call 44
            refine (River_c _ _).mono ?_
            rintro e w1 ⟨rfl, hb9⟩
            have t0 := below_tr HB.out hb9; have t1 := below_tr HQ.out hb9; have t2 := HOB.out.below hb9 HOB.out.lt; have t3 := HRL.out.below hb9; have t4 := HHS.out.below hb9; have t5 := HRW.out.below hb9; have t6 := HRC.out.below hb9
            clear HB HQ HOB HRL HHS HRW HRC
            have HB := Lib.hid t0; have HQ := Lib.hid t1; have HOB := Lib.hid t2; have HRL := Lib.hid t3; have HHS := Lib.hid t4; have HRW := Lib.hid t5; have HRC := Lib.hid t6
            clear t0 t1 t2 t3 t4 t5 t6
            clear hb9 
            (try go_wp2_with fail)
            (try clear hHeld)
            refine hK.out _ _ (by (try dsimp only); exact and10 (HXL.out _ HQ.out) ⟨HXR.out _ HQ.out, HXH.out _ HQ.out, HOB.out.cell 0, HOB.out.cell 1, HOB.out.cell 2⟩) (fun hHeld => ?_)
            clear hK K
            (try simp only [Act.put, List.setIfInBounds_toArray, List.set_cons_zero, List.set_cons_succ])
            refine wpAnyL_ready (rs := [11]) (by kernel_rfl) (by simp) ?_
            refine AllReadyL.cons (o := ?o11x39) ?hi11x39 (fun K hK => ?_) AllReadyL.nil
            (case hi11x39 => (simp only [List.getElem?_toArray, List.getElem?_cons_succ, List.getElem?_cons_zero]; exact rfl))
            go_simp
            go_at_call 45
            refine (HousesR_c HHS.out (by omega)).mono ?_
            rintro e w1 ⟨GA, cG, rfl, hcg, hrg, hb9⟩
            have t0 := below_tr HB.out hb9; have t1 := below_tr HQ.out hb9; have t2 := HOB.out.below hb9 HOB.out.lt; have t3 := HRL.out.below hb9; have t4 := HHS.out.below hb9; have t5 := HRW.out.below hb9; have t6 := HRC.out.below hb9
            clear HB HQ HOB HRL HHS HRW HRC
            have HB := Lib.hid t0; have HQ := Lib.hid t1; have HOB := Lib.hid t2; have HRL := Lib.hid t3; have HHS := Lib.hid t4; have HRW := Lib.hid t5; have HRC := Lib.hid t6
            clear t0 t1 t2 t3 t4 t5 t6
            have HRG := Lib.hid hrg
            have HCG := Lib.hid hcg
            clear hb9 hrg hcg
            (try go_wp2_with fail)
            (try clear hHeld)
            refine hK.out _ _ (by (try dsimp only); exact and10 (HXL.out _ HQ.out) ⟨HXR.out _ HQ.out, HXH.out _ HQ.out, HOB.out.cell 0, HOB.out.cell 1, HOB.out.cell 2⟩) (fun hHeld => ?_)
            clear hK K
            (try simp only [Act.put, List.setIfInBounds_toArray, List.set_cons_zero, List.set_cons_succ])
            refine wpAnyL_ready (rs := [12]) (by kernel_rfl) (by simp) ?_
            refine AllReadyL.cons (o := ?o12x40) ?hi12x40 (fun K hK => ?_) AllReadyL.nil
            (case hi12x40 => (simp only [List.getElem?_toArray, List.getElem?_cons_succ, List.getElem?_cons_zero]; exact rfl))
            go_simp
            go_at_call 43
            refine (Waves_v HRL.out HRW.out HRC.out HRG.out HCV.out HCI.out HOK.out HWO.out HCO.out (two_ok HRO.out HXO.out (HZ.out ▸ HOO.out.1))).mono ?_
            rintro e w1 ⟨QA, cQ, rfl, hcq, hrq, hb9⟩
            have t0 := below_tr HB.out hb9; have t1 := below_tr HQ.out hb9; have t2 := HOB.out.below hb9 HOB.out.lt; have t3 := HRL.out.below hb9; have t4 := HHS.out.below hb9; have t5 := HRW.out.below hb9; have t6 := HRC.out.below hb9; have t7 := HRG.out.below hb9
            clear HB HQ HOB HRL HHS HRW HRC HRG
            have HB := Lib.hid t0; have HQ := Lib.hid t1; have HOB := Lib.hid t2; have HRL := Lib.hid t3; have HHS := Lib.hid t4; have HRW := Lib.hid t5; have HRC := Lib.hid t6; have HRG := Lib.hid t7
            clear t0 t1 t2 t3 t4 t5 t6 t7
            have HRQ := Lib.hid hrq
            clear hb9 hrq
            (try go_wp2_with fail)
            (try clear hHeld)
            refine hK.out _ _ (by (try dsimp only); exact and10 (HXL.out _ HQ.out) ⟨HXR.out _ HQ.out, HXH.out _ HQ.out, HOB.out.cell 0, HOB.out.cell 1, HOB.out.cell 2⟩) (fun hHeld => ?_)
            clear hK K
            (try simp only [Act.put, List.setIfInBounds_toArray, List.set_cons_zero, List.set_cons_succ])
            (refine wpAnyL_take (n := 0) (i := 13) (oi := ?ox41) (v := ?vx41) ?hix41 ?k1x41 ?k2x41 ?k3x41 ?k4x41 ?k5x41 ?k6x41 ?hQx41 ?hYx41 ?hSx41 ?restx41; (case hix41 => (simp only [List.getElem?_toArray, List.getElem?_cons_succ, List.getElem?_cons_zero]; exact rfl)); (case k1x41 => kernel_rfl); (case k2x41 => kernel_rfl); (case k3x41 => kernel_rfl); (case k4x41 => kernel_rfl); (case k5x41 => kernel_rfl); (case k6x41 => kernel_rfl); (case hSx41 => assumption); (case hYx41 => (refine Or.inl ⟨rfl, ?hyx41⟩; intro w hSw; (try dsimp only at hSw); go_simp; (try with_reducible rfl))); (case hQx41 => exact (fun _ _ _ h => h)); (try simp only [Act.put, List.setIfInBounds_toArray, List.set_cons_zero, List.set_cons_succ]))
            (refine wpAnyL_take (n := 0) (i := 14) (oi := ?ox42) (v := ?vx42) ?hix42 ?k1x42 ?k2x42 ?k3x42 ?k4x42 ?k5x42 ?k6x42 ?hQx42 ?hYx42 ?hSx42 ?restx42; (case hix42 => (simp only [List.getElem?_toArray, List.getElem?_cons_succ, List.getElem?_cons_zero]; exact rfl)); (case k1x42 => kernel_rfl); (case k2x42 => kernel_rfl); (case k3x42 => kernel_rfl); (case k4x42 => kernel_rfl); (case k5x42 => kernel_rfl); (case k6x42 => kernel_rfl); (case hSx42 => assumption); (case hYx42 => (refine Or.inl ⟨rfl, ?hyx42⟩; intro w hSw; (try dsimp only at hSw); go_simp; (try with_reducible rfl))); (case hQx42 => exact (fun _ _ _ h => h)); (try simp only [Act.put, List.setIfInBounds_toArray, List.set_cons_zero, List.set_cons_succ]))
            (refine wpAnyL_take (n := 0) (i := 15) (oi := ?ox43) (v := ?vx43) ?hix43 ?k1x43 ?k2x43 ?k3x43 ?k4x43 ?k5x43 ?k6x43 ?hQx43 ?hYx43 ?hSx43 ?restx43; (case hix43 => (simp only [List.getElem?_toArray, List.getElem?_cons_succ, List.getElem?_cons_zero]; exact rfl)); (case k1x43 => kernel_rfl); (case k2x43 => kernel_rfl); (case k3x43 => kernel_rfl); (case k4x43 => kernel_rfl); (case k5x43 => kernel_rfl); (case k6x43 => kernel_rfl); (case hSx43 => assumption); (case hYx43 => (refine Or.inl ⟨rfl, ?hyx43⟩; intro w hSw; (try dsimp only at hSw); go_simp; (try with_reducible rfl))); (case hQx43 => exact (fun _ _ _ h => h)); (try simp only [Act.put, List.setIfInBounds_toArray, List.set_cons_zero, List.set_cons_succ]))
            (refine wpAnyL_take (n := 0) (i := 16) (oi := ?ox44) (v := ?vx44) ?hix44 ?k1x44 ?k2x44 ?k3x44 ?k4x44 ?k5x44 ?k6x44 ?hQx44 ?hYx44 ?hSx44 ?restx44; (case hix44 => (simp only [List.getElem?_toArray, List.getElem?_cons_succ, List.getElem?_cons_zero]; exact rfl)); (case k1x44 => kernel_rfl); (case k2x44 => kernel_rfl); (case k3x44 => kernel_rfl); (case k4x44 => kernel_rfl); (case k5x44 => kernel_rfl); (case k6x44 => kernel_rfl); (case hSx44 => assumption); (case hYx44 => (refine Or.inl ⟨rfl, ?hyx44⟩; intro w hSw; (try dsimp only at hSw); go_simp; (try with_reducible rfl))); (case hQx44 => exact (fun _ _ _ h => h)); (try simp only [Act.put, List.setIfInBounds_toArray, List.set_cons_zero, List.set_cons_succ]))
            (refine wpAnyL_take (n := 0) (i := 17) (oi := ?ox45) (v := ?vx45) ?hix45 ?k1x45 ?k2x45 ?k3x45 ?k4x45 ?k5x45 ?k6x45 ?hQx45 ?hYx45 ?hSx45 ?restx45; (case hix45 => (simp only [List.getElem?_toArray, List.getElem?_cons_succ, List.getElem?_cons_zero]; exact rfl)); (case k1x45 => kernel_rfl); (case k2x45 => kernel_rfl); (case k3x45 => kernel_rfl); (case k4x45 => kernel_rfl); (case k5x45 => kernel_rfl); (case k6x45 => kernel_rfl); (case hSx45 => assumption); (case hYx45 => (refine Or.inl ⟨rfl, ?hyx45⟩; intro w hSw; (try dsimp only at hSw); go_simp; (try with_reducible rfl))); (case hQx45 => exact (fun _ _ _ h => h)); (try simp only [Act.put, List.setIfInBounds_toArray, List.set_cons_zero, List.set_cons_succ]))
            (refine wpAnyL_done (by kernel_rfl) ?_ _)
            go_wp2_with fail
            go_meet
            exact ⟨QA, cQ, rfl, rfl, HRQ.out, HB.out⟩
        · skip
          go_simp
          have hb9 := (Below.refl w0.heap.size w0).alloc (Nat.le_refl _) (.cells #[.int .i64 x.far, .int .i64 x.high, .int .i64 x.wide, .int .i64 Z.far, .int .i64 Z.high, .int .i64 Z.wide] 99)
          have hhs : Rd encH 3 (w0.alloc (.cells #[.int .i64 x.far, .int .i64 x.high, .int .i64 x.wide, .int .i64 Z.far, .int .i64 Z.high, .int .i64 Z.wide] 99)) (some ⟨w0.heap.size, 0, none⟩) 2 [x, Z] := Rd.of_blkE encH_len (Blk.new _ _ _) rfl rfl
          have t0 := below_tr HB.out hb9; have t1 := below_tr HQ.out hb9; have t2 := HOB.out.below hb9 HOB.out.lt
          clear HB HQ HOB
          have HB := Lib.hid t0; have HQ := Lib.hid t1; have HOB := Lib.hid t2
          clear t0 t1 t2
          have HHS := Lib.hid hhs
          clear hb9 hhs
          (try clear hHeld)
          refine hK.out _ _ (by (try dsimp only); exact and10 (HXL.out _ HQ.out) ⟨HXR.out _ HQ.out, HXH.out _ HQ.out, HOB.out.cell 0, HOB.out.cell 1, HOB.out.cell 2⟩) (fun hHeld => ?_)
          clear hK K
          (try simp only [Act.put, List.setIfInBounds_toArray, List.set_cons_zero, List.set_cons_succ])
          revert HB HQ HOB HHS hHeld
          generalize (World.alloc w0 (.cells #[.int .i64 x.far, .int .i64 x.high, .int .i64 x.wide, .int .i64 Z.far, .int .i64 Z.high, .int .i64 Z.wide] 99)) = wB
          intro HB HQ HOB HHS hHeld
          refine wpAnyL_ready (rs := [1]) (by kernel_rfl) (by simp) ?_
          refine AllReadyL.cons (o := ?o1x46) ?hi1x46 (fun K hK => ?_) AllReadyL.nil
          (case hi1x46 => (simp only [List.getElem?_toArray, List.getElem?_cons_succ, List.getElem?_cons_zero]; exact rfl))
          go_simp
          go_at_call 20
          refine (HLK.out _ HB.out).mono ?_
          rintro e w1 ⟨VA', cV', IA', cI', rfl, hcv, hci, hrl, hb9⟩
          have t0 := below_tr HB.out hb9; have t1 := below_tr HQ.out hb9; have t2 := HOB.out.below hb9 HOB.out.lt; have t3 := HHS.out.below hb9
          clear HB HQ HOB HHS
          have HB := Lib.hid t0; have HQ := Lib.hid t1; have HOB := Lib.hid t2; have HHS := Lib.hid t3
          clear t0 t1 t2 t3
          have HRL := Lib.hid hrl
          have HCV := Lib.hid hcv
          have HCI := Lib.hid hci
          clear hb9 hrl hcv hci
          (try go_wp2_with fail)
          (try clear hHeld)
          refine hK.out _ _ (by (try dsimp only); exact and10 (HXL.out _ HQ.out) ⟨HXR.out _ HQ.out, HXH.out _ HQ.out, HOB.out.cell 0, HOB.out.cell 1, HOB.out.cell 2⟩) (fun hHeld => ?_)
          clear hK K
          (try simp only [Act.put, List.setIfInBounds_toArray, List.set_cons_zero, List.set_cons_succ])
          refine wpAnyL_ready (rs := [3]) (by kernel_rfl) (by simp) ?_
          refine AllReadyL.cons (o := ?o3x47) ?hi3x47 (fun K hK => ?_) AllReadyL.nil
          (case hi3x47 => (simp only [List.getElem?_toArray, List.getElem?_cons_succ, List.getElem?_cons_zero]; exact rfl))
          go_simp
          go_at_call 21
          refine (HWK.out _ HB.out).mono ?_
          rintro e w1 ⟨WA', cW', rfl, hcw, hrw, hb9⟩
          have t0 := below_tr HB.out hb9; have t1 := below_tr HQ.out hb9; have t2 := HOB.out.below hb9 HOB.out.lt; have t3 := HHS.out.below hb9; have t4 := HRL.out.below hb9
          clear HB HQ HOB HHS HRL
          have HB := Lib.hid t0; have HQ := Lib.hid t1; have HOB := Lib.hid t2; have HHS := Lib.hid t3; have HRL := Lib.hid t4
          clear t0 t1 t2 t3 t4
          have HRW := Lib.hid hrw
          have HCW := Lib.hid hcw
          clear hb9 hrw hcw
          (try go_wp2_with fail)
          (try clear hHeld)
          refine hK.out _ _ (by (try dsimp only); exact and10 (HXL.out _ HQ.out) ⟨HXR.out _ HQ.out, HXH.out _ HQ.out, HOB.out.cell 0, HOB.out.cell 1, HOB.out.cell 2⟩) (fun hHeld => ?_)
          clear hK K
          (try simp only [Act.put, List.setIfInBounds_toArray, List.set_cons_zero, List.set_cons_succ])
          refine wpAnyL_ready (rs := [5]) (by kernel_rfl) (by simp) ?_
          refine AllReadyL.cons (o := ?o5x48) ?hi5x48 (fun K hK => ?_) AllReadyL.nil
          (case hi5x48 => (simp only [List.getElem?_toArray, List.getElem?_cons_succ, List.getElem?_cons_zero]; exact rfl))
          go_simp
          go_at_call 27
          refine (HLI.out _ HB.out).mono ?_
          rintro e w1 ⟨CA', cC', rfl, hcc, hrc, hb9⟩
          have t0 := below_tr HB.out hb9; have t1 := below_tr HQ.out hb9; have t2 := HOB.out.below hb9 HOB.out.lt; have t3 := HHS.out.below hb9; have t4 := HRL.out.below hb9; have t5 := HRW.out.below hb9
          clear HB HQ HOB HHS HRL HRW
          have HB := Lib.hid t0; have HQ := Lib.hid t1; have HOB := Lib.hid t2; have HHS := Lib.hid t3; have HRL := Lib.hid t4; have HRW := Lib.hid t5
          clear t0 t1 t2 t3 t4 t5
          have HRC := Lib.hid hrc
          have HCC := Lib.hid hcc
          clear hb9 hrc hcc
          (try go_wp2_with fail)
          (try clear hHeld)
          refine hK.out _ _ (by (try dsimp only); exact and10 (HXL.out _ HQ.out) ⟨HXR.out _ HQ.out, HXH.out _ HQ.out, HOB.out.cell 0, HOB.out.cell 1, HOB.out.cell 2⟩) (fun hHeld => ?_)
          clear hK K
          (try simp only [Act.put, List.setIfInBounds_toArray, List.set_cons_zero, List.set_cons_succ])
          refine wpAnyL_ready (rs := [7]) (by kernel_rfl) (by simp) ?_
          refine AllReadyL.cons (o := ?o7x49) ?hi7x49 (fun K hK => ?_) AllReadyL.nil
          (case hi7x49 => (simp only [List.getElem?_toArray, List.getElem?_cons_succ, List.getElem?_cons_zero]; exact rfl))
          go_simp
          go_at_call 44
          refine (River_c _ _).mono ?_
          rintro e w1 ⟨rfl, hb9⟩
          have t0 := below_tr HB.out hb9; have t1 := below_tr HQ.out hb9; have t2 := HOB.out.below hb9 HOB.out.lt; have t3 := HHS.out.below hb9; have t4 := HRL.out.below hb9; have t5 := HRW.out.below hb9; have t6 := HRC.out.below hb9
          clear HB HQ HOB HHS HRL HRW HRC
          have HB := Lib.hid t0; have HQ := Lib.hid t1; have HOB := Lib.hid t2; have HHS := Lib.hid t3; have HRL := Lib.hid t4; have HRW := Lib.hid t5; have HRC := Lib.hid t6
          clear t0 t1 t2 t3 t4 t5 t6
          clear hb9 
          (try go_wp2_with fail)
          (try clear hHeld)
          refine hK.out _ _ (by (try dsimp only); exact and10 (HXL.out _ HQ.out) ⟨HXR.out _ HQ.out, HXH.out _ HQ.out, HOB.out.cell 0, HOB.out.cell 1, HOB.out.cell 2⟩) (fun hHeld => ?_)
          clear hK K
          (try simp only [Act.put, List.setIfInBounds_toArray, List.set_cons_zero, List.set_cons_succ])
          refine wpAnyL_ready (rs := [11]) (by kernel_rfl) (by simp) ?_
          refine AllReadyL.cons (o := ?o11x50) ?hi11x50 (fun K hK => ?_) AllReadyL.nil
          (case hi11x50 => (simp only [List.getElem?_toArray, List.getElem?_cons_succ, List.getElem?_cons_zero]; exact rfl))
          go_simp
          go_at_call 45
          refine (HousesR_c HHS.out (by omega)).mono ?_
          rintro e w1 ⟨GA, cG, rfl, hcg, hrg, hb9⟩
          have t0 := below_tr HB.out hb9; have t1 := below_tr HQ.out hb9; have t2 := HOB.out.below hb9 HOB.out.lt; have t3 := HHS.out.below hb9; have t4 := HRL.out.below hb9; have t5 := HRW.out.below hb9; have t6 := HRC.out.below hb9
          clear HB HQ HOB HHS HRL HRW HRC
          have HB := Lib.hid t0; have HQ := Lib.hid t1; have HOB := Lib.hid t2; have HHS := Lib.hid t3; have HRL := Lib.hid t4; have HRW := Lib.hid t5; have HRC := Lib.hid t6
          clear t0 t1 t2 t3 t4 t5 t6
          have HRG := Lib.hid hrg
          have HCG := Lib.hid hcg
          clear hb9 hrg hcg
          (try go_wp2_with fail)
          (try clear hHeld)
          refine hK.out _ _ (by (try dsimp only); exact and10 (HXL.out _ HQ.out) ⟨HXR.out _ HQ.out, HXH.out _ HQ.out, HOB.out.cell 0, HOB.out.cell 1, HOB.out.cell 2⟩) (fun hHeld => ?_)
          clear hK K
          (try simp only [Act.put, List.setIfInBounds_toArray, List.set_cons_zero, List.set_cons_succ])
          refine wpAnyL_ready (rs := [12]) (by kernel_rfl) (by simp) ?_
          refine AllReadyL.cons (o := ?o12x51) ?hi12x51 (fun K hK => ?_) AllReadyL.nil
          (case hi12x51 => (simp only [List.getElem?_toArray, List.getElem?_cons_succ, List.getElem?_cons_zero]; exact rfl))
          go_simp
          go_at_call 43
          refine (Waves_v HRL.out HRW.out HRC.out HRG.out HCV.out HCI.out HOK.out HWO.out HCO.out (two_ok HRO.out HXO.out (HZ.out ▸ HOO.out.1))).mono ?_
          rintro e w1 ⟨QA, cQ, rfl, hcq, hrq, hb9⟩
          have t0 := below_tr HB.out hb9; have t1 := below_tr HQ.out hb9; have t2 := HOB.out.below hb9 HOB.out.lt; have t3 := HHS.out.below hb9; have t4 := HRL.out.below hb9; have t5 := HRW.out.below hb9; have t6 := HRC.out.below hb9; have t7 := HRG.out.below hb9
          clear HB HQ HOB HHS HRL HRW HRC HRG
          have HB := Lib.hid t0; have HQ := Lib.hid t1; have HOB := Lib.hid t2; have HHS := Lib.hid t3; have HRL := Lib.hid t4; have HRW := Lib.hid t5; have HRC := Lib.hid t6; have HRG := Lib.hid t7
          clear t0 t1 t2 t3 t4 t5 t6 t7
          have HRQ := Lib.hid hrq
          clear hb9 hrq
          (try go_wp2_with fail)
          (try clear hHeld)
          refine hK.out _ _ (by (try dsimp only); exact and10 (HXL.out _ HQ.out) ⟨HXR.out _ HQ.out, HXH.out _ HQ.out, HOB.out.cell 0, HOB.out.cell 1, HOB.out.cell 2⟩) (fun hHeld => ?_)
          clear hK K
          (try simp only [Act.put, List.setIfInBounds_toArray, List.set_cons_zero, List.set_cons_succ])
          (refine wpAnyL_take (n := 0) (i := 13) (oi := ?ox52) (v := ?vx52) ?hix52 ?k1x52 ?k2x52 ?k3x52 ?k4x52 ?k5x52 ?k6x52 ?hQx52 ?hYx52 ?hSx52 ?restx52; (case hix52 => (simp only [List.getElem?_toArray, List.getElem?_cons_succ, List.getElem?_cons_zero]; exact rfl)); (case k1x52 => kernel_rfl); (case k2x52 => kernel_rfl); (case k3x52 => kernel_rfl); (case k4x52 => kernel_rfl); (case k5x52 => kernel_rfl); (case k6x52 => kernel_rfl); (case hSx52 => assumption); (case hYx52 => (refine Or.inl ⟨rfl, ?hyx52⟩; intro w hSw; (try dsimp only at hSw); go_simp; (try with_reducible rfl))); (case hQx52 => exact (fun _ _ _ h => h)); (try simp only [Act.put, List.setIfInBounds_toArray, List.set_cons_zero, List.set_cons_succ]))
          (refine wpAnyL_take (n := 0) (i := 14) (oi := ?ox53) (v := ?vx53) ?hix53 ?k1x53 ?k2x53 ?k3x53 ?k4x53 ?k5x53 ?k6x53 ?hQx53 ?hYx53 ?hSx53 ?restx53; (case hix53 => (simp only [List.getElem?_toArray, List.getElem?_cons_succ, List.getElem?_cons_zero]; exact rfl)); (case k1x53 => kernel_rfl); (case k2x53 => kernel_rfl); (case k3x53 => kernel_rfl); (case k4x53 => kernel_rfl); (case k5x53 => kernel_rfl); (case k6x53 => kernel_rfl); (case hSx53 => assumption); (case hYx53 => (refine Or.inl ⟨rfl, ?hyx53⟩; intro w hSw; (try dsimp only at hSw); go_simp; (try with_reducible rfl))); (case hQx53 => exact (fun _ _ _ h => h)); (try simp only [Act.put, List.setIfInBounds_toArray, List.set_cons_zero, List.set_cons_succ]))
          (refine wpAnyL_take (n := 0) (i := 15) (oi := ?ox54) (v := ?vx54) ?hix54 ?k1x54 ?k2x54 ?k3x54 ?k4x54 ?k5x54 ?k6x54 ?hQx54 ?hYx54 ?hSx54 ?restx54; (case hix54 => (simp only [List.getElem?_toArray, List.getElem?_cons_succ, List.getElem?_cons_zero]; exact rfl)); (case k1x54 => kernel_rfl); (case k2x54 => kernel_rfl); (case k3x54 => kernel_rfl); (case k4x54 => kernel_rfl); (case k5x54 => kernel_rfl); (case k6x54 => kernel_rfl); (case hSx54 => assumption); (case hYx54 => (refine Or.inl ⟨rfl, ?hyx54⟩; intro w hSw; (try dsimp only at hSw); go_simp; (try with_reducible rfl))); (case hQx54 => exact (fun _ _ _ h => h)); (try simp only [Act.put, List.setIfInBounds_toArray, List.set_cons_zero, List.set_cons_succ]))
          (refine wpAnyL_take (n := 0) (i := 16) (oi := ?ox55) (v := ?vx55) ?hix55 ?k1x55 ?k2x55 ?k3x55 ?k4x55 ?k5x55 ?k6x55 ?hQx55 ?hYx55 ?hSx55 ?restx55; (case hix55 => (simp only [List.getElem?_toArray, List.getElem?_cons_succ, List.getElem?_cons_zero]; exact rfl)); (case k1x55 => kernel_rfl); (case k2x55 => kernel_rfl); (case k3x55 => kernel_rfl); (case k4x55 => kernel_rfl); (case k5x55 => kernel_rfl); (case k6x55 => kernel_rfl); (case hSx55 => assumption); (case hYx55 => (refine Or.inl ⟨rfl, ?hyx55⟩; intro w hSw; (try dsimp only at hSw); go_simp; (try with_reducible rfl))); (case hQx55 => exact (fun _ _ _ h => h)); (try simp only [Act.put, List.setIfInBounds_toArray, List.set_cons_zero, List.set_cons_succ]))
          (refine wpAnyL_take (n := 0) (i := 17) (oi := ?ox56) (v := ?vx56) ?hix56 ?k1x56 ?k2x56 ?k3x56 ?k4x56 ?k5x56 ?k6x56 ?hQx56 ?hYx56 ?hSx56 ?restx56; (case hix56 => (simp only [List.getElem?_toArray, List.getElem?_cons_succ, List.getElem?_cons_zero]; exact rfl)); (case k1x56 => kernel_rfl); (case k2x56 => kernel_rfl); (case k3x56 => kernel_rfl); (case k4x56 => kernel_rfl); (case k5x56 => kernel_rfl); (case k6x56 => kernel_rfl); (case hSx56 => assumption); (case hYx56 => (refine Or.inl ⟨rfl, ?hyx56⟩; intro w hSw; (try dsimp only at hSw); go_simp; (try with_reducible rfl))); (case hQx56 => exact (fun _ _ _ h => h)); (try simp only [Act.put, List.setIfInBounds_toArray, List.set_cons_zero, List.set_cons_succ]))
          (refine wpAnyL_done (by kernel_rfl) ?_ _)
          go_wp2_with fail
          go_meet
          exact ⟨QA, cQ, rfl, rfl, HRQ.out, HB.out⟩
      case rest =>
        obtain ⟨QA, cQ, rfl, rfl, hrq, hb⟩ := hcut
        have htq := twoQ (L := aftL l (netL l ws c)) HXO.out (HZ.out ▸ HOO.out.1) HRO.out (HZ.out ▸ HOO.out.2.1) (HZ.out ▸ HOO.out.2.2.1) (HZ.out ▸ HOO.out.2.2.2)
        obtain ⟨y, hy⟩ : ∃ y, y = rchOf r x (aftL l (netL l ws c)) := ⟨_, rfl⟩
        obtain ⟨z, hz⟩ : ∃ z, z = rchOf r Z (aftL l (netL l ws c)) := ⟨_, rfl⟩
        rw [← hy, ← hz] at htq hrq
        clear HB HQ HOB hy hz
        have HB := Lib.hid hb
        obtain ⟨b, o, y', rfl, hbl, h0, c0, c1, c2⟩ := hrq.atQ (i := 0) (by omega)
        obtain ⟨b', o', z', hA, _, h1, d0, d1, d2⟩ := hrq.atQ (i := 1) (by omega)
        simp only [Option.some.injEq, Addr.mk.injEq, and_true] at hA
        obtain ⟨rfl, rfl⟩ := hA
        simp at h0 h1
        subst h0; subst h1
        simp only [Nat.zero_mul, Nat.one_mul, Nat.add_zero] at c0 c1 c2 d0 d1 d2
        obtain ⟨w1, hw1⟩ : ∃ w1, w1 = wc := ⟨_, rfl⟩
        rw [← hw1] at HB c0 c1 c2 d0 d1 d2 hbl ⊢
        obtain ⟨t1, t2, t3, t4, t5⟩ := htq
        have HT3 := Lib.hid t3; have HT5 := Lib.hid t5
        have n1 : ¬ y.height < 0 := by omega
        have n2 : ¬ z.height < 0 := by omega
        have n3 : z.height ≤ y.height := t4
        clear t3 t5 hw1 hrq hb
        cases hym : y.may
        · have hyf : y.frm = 0 := HT3.out hym
          have hzm : z.may = false := by
            cases hq : z.may
            · rfl
            · have := (HT5.out hq).1; rw [hym] at this; cases this
          rw [hym] at c0; rw [hzm] at d0; rw [hyf] at c2
          have HYF := Lib.hid hyf
          clear hym hzm hyf
          have HS := Lib.hid (fun (U : World) (hU : Below w1.heap.size w1 U) => show U.cell? ⟨b, o, none⟩ = some (.bool false) ∧ U.cell? ⟨b, o + 1, none⟩ = some (.int .i64 y.height) ∧ U.cell? ⟨b, o + 2, none⟩ = some (.int .i64 0) ∧ U.cell? ⟨b, o + 3, none⟩ = some (.bool false) ∧ U.cell? ⟨b, o + 3 + 1, none⟩ = some (.int .i64 z.height) ∧ U.cell? ⟨b, o + 3 + 2, none⟩ = some (.int .i64 z.frm) from ⟨bel_keep hU c0, bel_keep hU c1, bel_keep hU c2, bel_keep hU d0, bel_keep hU d1, bel_keep hU d2⟩)
          have HBC := Lib.hid (Below.refl w1.heap.size w1)
          go_upto_region 7 with fail
          clear c0 c1 c2 d0 d1 d2
          refine wp_region_till [] (fun U => U.cell? ⟨b, o, none⟩ = some (.bool false) ∧ U.cell? ⟨b, o + 1, none⟩ = some (.int .i64 y.height) ∧ U.cell? ⟨b, o + 2, none⟩ = some (.int .i64 0) ∧ U.cell? ⟨b, o + 3, none⟩ = some (.bool false) ∧ U.cell? ⟨b, o + 3 + 1, none⟩ = some (.int .i64 z.height) ∧ U.cell? ⟨b, o + 3 + 2, none⟩ = some (.int .i64 z.frm)) (by kernel_rfl) (by exact HS.out _ HBC.out.drew) (fun hHeld => ?_)
          have hb9 := (Below.refl w1.heap.size w1).drew
          have t0 := below_tr HB.out hb9; have t1 := below_tr HBC.out hb9
          clear HB HBC
          have HB := Lib.hid t0; have HBC := Lib.hid t1
          clear t0 t1
          clear hb9
          revert hHeld HB HBC
          generalize w1.drew = w0
          intro hHeld HB HBC
          (refine wpAnyL_take (n := 0) (i := 0) (oi := ?ox57) (v := ?vx57) ?hix57 ?k1x57 ?k2x57 ?k3x57 ?k4x57 ?k5x57 ?k6x57 ?hQx57 ?hYx57 ?hSx57 ?restx57; (case hix57 => (simp only [List.getElem?_toArray, List.getElem?_cons_succ, List.getElem?_cons_zero]; exact rfl)); (case k1x57 => kernel_rfl); (case k2x57 => kernel_rfl); (case k3x57 => kernel_rfl); (case k4x57 => kernel_rfl); (case k5x57 => kernel_rfl); (case k6x57 => kernel_rfl); (case hSx57 => assumption); (case hYx57 => (refine Or.inl ⟨rfl, ?hyx57⟩; intro w hSw; (try dsimp only at hSw); go_simp; (try with_reducible rfl))); (case hQx57 => exact (fun _ _ _ h => h)); (try simp only [Act.put, List.setIfInBounds_toArray, List.set_cons_zero, List.set_cons_succ]))
          (refine wpAnyL_take (n := 0) (i := 1) (oi := ?ox58) (v := ?vx58) ?hix58 ?k1x58 ?k2x58 ?k3x58 ?k4x58 ?k5x58 ?k6x58 ?hQx58 ?hYx58 ?hSx58 ?restx58; (case hix58 => (simp only [List.getElem?_toArray, List.getElem?_cons_succ, List.getElem?_cons_zero]; exact rfl)); (case k1x58 => kernel_rfl); (case k2x58 => kernel_rfl); (case k3x58 => kernel_rfl); (case k4x58 => kernel_rfl); (case k5x58 => kernel_rfl); (case k6x58 => kernel_rfl); (case hSx58 => assumption); (case hYx58 => (refine Or.inl ⟨rfl, ?hyx58⟩; intro w hSw; (try dsimp only at hSw); go_simp; (try with_reducible rfl))); (case hQx58 => exact (fun _ _ _ h => h)); (try simp only [Act.put, List.setIfInBounds_toArray, List.set_cons_zero, List.set_cons_succ]))
          (refine wpAnyL_take (n := 0) (i := 2) (oi := ?ox59) (v := ?vx59) ?hix59 ?k1x59 ?k2x59 ?k3x59 ?k4x59 ?k5x59 ?k6x59 ?hQx59 ?hYx59 ?hSx59 ?restx59; (case hix59 => (simp only [List.getElem?_toArray, List.getElem?_cons_succ, List.getElem?_cons_zero]; exact rfl)); (case k1x59 => kernel_rfl); (case k2x59 => kernel_rfl); (case k3x59 => kernel_rfl); (case k4x59 => kernel_rfl); (case k5x59 => kernel_rfl); (case k6x59 => kernel_rfl); (case hSx59 => assumption); (case hYx59 => (refine Or.inl ⟨rfl, ?hyx59⟩; intro w hSw; (try dsimp only at hSw); go_simp; (try with_reducible rfl))); (case hQx59 => exact (fun _ _ _ h => h)); (try simp only [Act.put, List.setIfInBounds_toArray, List.set_cons_zero, List.set_cons_succ]))
          (refine wpAnyL_take (n := 0) (i := 3) (oi := ?ox60) (v := ?vx60) ?hix60 ?k1x60 ?k2x60 ?k3x60 ?k4x60 ?k5x60 ?k6x60 ?hQx60 ?hYx60 ?hSx60 ?restx60; (case hix60 => (simp only [List.getElem?_toArray, List.getElem?_cons_succ, List.getElem?_cons_zero]; exact rfl)); (case k1x60 => kernel_rfl); (case k2x60 => kernel_rfl); (case k3x60 => kernel_rfl); (case k4x60 => kernel_rfl); (case k5x60 => kernel_rfl); (case k6x60 => kernel_rfl); (case hSx60 => assumption); (case hYx60 => (refine Or.inl ⟨rfl, ?hyx60⟩; intro w hSw; (try dsimp only at hSw); go_simp; (try with_reducible rfl))); (case hQx60 => exact (fun _ _ _ h => h)); (try simp only [Act.put, List.setIfInBounds_toArray, List.set_cons_zero, List.set_cons_succ]))
          (refine wpAnyL_take (n := 0) (i := 4) (oi := ?ox61) (v := ?vx61) ?hix61 ?k1x61 ?k2x61 ?k3x61 ?k4x61 ?k5x61 ?k6x61 ?hQx61 ?hYx61 ?hSx61 ?restx61; (case hix61 => (simp only [List.getElem?_toArray, List.getElem?_cons_succ, List.getElem?_cons_zero]; exact rfl)); (case k1x61 => kernel_rfl); (case k2x61 => kernel_rfl); (case k3x61 => kernel_rfl); (case k4x61 => kernel_rfl); (case k5x61 => kernel_rfl); (case k6x61 => kernel_rfl); (case hSx61 => assumption); (case hYx61 => (refine Or.inl ⟨rfl, ?hyx61⟩; intro w hSw; (try dsimp only at hSw); go_simp; (try with_reducible rfl))); (case hQx61 => exact (fun _ _ _ h => h)); (try simp only [Act.put, List.setIfInBounds_toArray, List.set_cons_zero, List.set_cons_succ]))
          (refine wpAnyL_take (n := 0) (i := 5) (oi := ?ox62) (v := ?vx62) ?hix62 ?k1x62 ?k2x62 ?k3x62 ?k4x62 ?k5x62 ?k6x62 ?hQx62 ?hYx62 ?hSx62 ?restx62; (case hix62 => (simp only [List.getElem?_toArray, List.getElem?_cons_succ, List.getElem?_cons_zero]; exact rfl)); (case k1x62 => kernel_rfl); (case k2x62 => kernel_rfl); (case k3x62 => kernel_rfl); (case k4x62 => kernel_rfl); (case k5x62 => kernel_rfl); (case k6x62 => kernel_rfl); (case hSx62 => assumption); (case hYx62 => (refine Or.inl ⟨rfl, ?hyx62⟩; intro w hSw; (try dsimp only at hSw); go_simp; (try with_reducible rfl))); (case hQx62 => exact (fun _ _ _ h => h)); (try simp only [Act.put, List.setIfInBounds_toArray, List.set_cons_zero, List.set_cons_succ]))
          (refine wpAnyL_take (n := 0) (i := 6) (oi := ?ox63) (v := ?vx63) ?hix63 ?k1x63 ?k2x63 ?k3x63 ?k4x63 ?k5x63 ?k6x63 ?hQx63 ?hYx63 ?hSx63 ?restx63; (case hix63 => (simp only [List.getElem?_toArray, List.getElem?_cons_succ, List.getElem?_cons_zero]; exact rfl)); (case k1x63 => kernel_rfl); (case k2x63 => kernel_rfl); (case k3x63 => kernel_rfl); (case k4x63 => kernel_rfl); (case k5x63 => kernel_rfl); (case k6x63 => kernel_rfl); (case hSx63 => assumption); (case hYx63 => (refine Or.inl ⟨rfl, ?hyx63⟩; intro w hSw; (try dsimp only at hSw); go_simp; (try with_reducible rfl))); (case hQx63 => exact (fun _ _ _ h => h)); (try simp only [Act.put, List.setIfInBounds_toArray, List.set_cons_zero, List.set_cons_succ]))
          (refine wpAnyL_take (n := 0) (i := 7) (oi := ?ox64) (v := ?vx64) ?hix64 ?k1x64 ?k2x64 ?k3x64 ?k4x64 ?k5x64 ?k6x64 ?hQx64 ?hYx64 ?hSx64 ?restx64; (case hix64 => (simp only [List.getElem?_toArray, List.getElem?_cons_succ, List.getElem?_cons_zero]; exact rfl)); (case k1x64 => kernel_rfl); (case k2x64 => kernel_rfl); (case k3x64 => kernel_rfl); (case k4x64 => kernel_rfl); (case k5x64 => kernel_rfl); (case k6x64 => kernel_rfl); (case hSx64 => assumption); (case hYx64 => (refine Or.inl ⟨rfl, ?hyx64⟩; intro w hSw; (try dsimp only at hSw); go_simp; (try with_reducible rfl))); (case hQx64 => exact (fun _ _ _ h => h)); (try simp only [Act.put, List.setIfInBounds_toArray, List.set_cons_zero, List.set_cons_succ]))
          (refine wpAnyL_take (n := 0) (i := 8) (oi := ?ox65) (v := ?vx65) ?hix65 ?k1x65 ?k2x65 ?k3x65 ?k4x65 ?k5x65 ?k6x65 ?hQx65 ?hYx65 ?hSx65 ?restx65; (case hix65 => (simp only [List.getElem?_toArray, List.getElem?_cons_succ, List.getElem?_cons_zero]; exact rfl)); (case k1x65 => kernel_rfl); (case k2x65 => kernel_rfl); (case k3x65 => kernel_rfl); (case k4x65 => kernel_rfl); (case k5x65 => kernel_rfl); (case k6x65 => kernel_rfl); (case hSx65 => assumption); (case hYx65 => (refine Or.inl ⟨rfl, ?hyx65⟩; intro w hSw; (try dsimp only at hSw); go_simp; (try with_reducible rfl))); (case hQx65 => exact (fun _ _ _ h => h)); (try simp only [Act.put, List.setIfInBounds_toArray, List.set_cons_zero, List.set_cons_succ]))
          (refine wpAnyL_take (n := 0) (i := 9) (oi := ?ox66) (v := ?vx66) ?hix66 ?k1x66 ?k2x66 ?k3x66 ?k4x66 ?k5x66 ?k6x66 ?hQx66 ?hYx66 ?hSx66 ?restx66; (case hix66 => (simp only [List.getElem?_toArray, List.getElem?_cons_succ, List.getElem?_cons_zero]; exact rfl)); (case k1x66 => kernel_rfl); (case k2x66 => kernel_rfl); (case k3x66 => kernel_rfl); (case k4x66 => kernel_rfl); (case k5x66 => kernel_rfl); (case k6x66 => kernel_rfl); (case hSx66 => assumption); (case hYx66 => (refine Or.inl ⟨rfl, ?hyx66⟩; intro w hSw; (try dsimp only at hSw); go_simp; (try with_reducible rfl))); (case hQx66 => exact (fun _ _ _ h => h)); (try simp only [Act.put, List.setIfInBounds_toArray, List.set_cons_zero, List.set_cons_succ]))
          (refine wpAnyL_take (n := 0) (i := 10) (oi := ?ox67) (v := ?vx67) ?hix67 ?k1x67 ?k2x67 ?k3x67 ?k4x67 ?k5x67 ?k6x67 ?hQx67 ?hYx67 ?hSx67 ?restx67; (case hix67 => (simp only [List.getElem?_toArray, List.getElem?_cons_succ, List.getElem?_cons_zero]; exact rfl)); (case k1x67 => kernel_rfl); (case k2x67 => kernel_rfl); (case k3x67 => kernel_rfl); (case k4x67 => kernel_rfl); (case k5x67 => kernel_rfl); (case k6x67 => kernel_rfl); (case hSx67 => assumption); (case hYx67 => (refine Or.inl ⟨rfl, ?hyx67⟩; intro w hSw; (try dsimp only at hSw); go_simp; (try with_reducible rfl))); (case hQx67 => exact (fun _ _ _ h => h)); (try simp only [Act.put, List.setIfInBounds_toArray, List.set_cons_zero, List.set_cons_succ]))
          (refine wpAnyL_take (n := 0) (i := 11) (oi := ?ox68) (v := ?vx68) ?hix68 ?k1x68 ?k2x68 ?k3x68 ?k4x68 ?k5x68 ?k6x68 ?hQx68 ?hYx68 ?hSx68 ?restx68; (case hix68 => (simp only [List.getElem?_toArray, List.getElem?_cons_succ, List.getElem?_cons_zero]; exact rfl)); (case k1x68 => kernel_rfl); (case k2x68 => kernel_rfl); (case k3x68 => kernel_rfl); (case k4x68 => kernel_rfl); (case k5x68 => kernel_rfl); (case k6x68 => kernel_rfl); (case hSx68 => assumption); (case hYx68 => (refine Or.inl ⟨rfl, ?hyx68⟩; intro w hSw; (try dsimp only at hSw); go_simp; (try with_reducible rfl))); (case hQx68 => exact (fun _ _ _ h => h)); (try simp only [Act.put, List.setIfInBounds_toArray, List.set_cons_zero, List.set_cons_succ]))
          (refine wpAnyL_take (n := 0) (i := 12) (oi := ?ox69) (v := ?vx69) ?hix69 ?k1x69 ?k2x69 ?k3x69 ?k4x69 ?k5x69 ?k6x69 ?hQx69 ?hYx69 ?hSx69 ?restx69; (case hix69 => (simp only [List.getElem?_toArray, List.getElem?_cons_succ, List.getElem?_cons_zero]; exact rfl)); (case k1x69 => kernel_rfl); (case k2x69 => kernel_rfl); (case k3x69 => kernel_rfl); (case k4x69 => kernel_rfl); (case k5x69 => kernel_rfl); (case k6x69 => kernel_rfl); (case hSx69 => assumption); (case hYx69 => (refine Or.inl ⟨rfl, ?hyx69⟩; intro w hSw; (try dsimp only at hSw); go_simp; (try with_reducible rfl))); (case hQx69 => exact (fun _ _ _ h => h)); (try simp only [Act.put, List.setIfInBounds_toArray, List.set_cons_zero, List.set_cons_succ]))
          (refine wpAnyL_take (n := 0) (i := 13) (oi := ?ox70) (v := ?vx70) ?hix70 ?k1x70 ?k2x70 ?k3x70 ?k4x70 ?k5x70 ?k6x70 ?hQx70 ?hYx70 ?hSx70 ?restx70; (case hix70 => (simp only [List.getElem?_toArray, List.getElem?_cons_succ, List.getElem?_cons_zero]; exact rfl)); (case k1x70 => kernel_rfl); (case k2x70 => kernel_rfl); (case k3x70 => kernel_rfl); (case k4x70 => kernel_rfl); (case k5x70 => kernel_rfl); (case k6x70 => kernel_rfl); (case hSx70 => assumption); (case hYx70 => (refine Or.inl ⟨rfl, ?hyx70⟩; intro w hSw; (try dsimp only at hSw); go_simp; (try with_reducible rfl))); (case hQx70 => exact (fun _ _ _ h => h)); (try simp only [Act.put, List.setIfInBounds_toArray, List.set_cons_zero, List.set_cons_succ]))
          (refine wpAnyL_take (n := 0) (i := 14) (oi := ?ox71) (v := ?vx71) ?hix71 ?k1x71 ?k2x71 ?k3x71 ?k4x71 ?k5x71 ?k6x71 ?hQx71 ?hYx71 ?hSx71 ?restx71; (case hix71 => (simp only [List.getElem?_toArray, List.getElem?_cons_succ, List.getElem?_cons_zero]; exact rfl)); (case k1x71 => kernel_rfl); (case k2x71 => kernel_rfl); (case k3x71 => kernel_rfl); (case k4x71 => kernel_rfl); (case k5x71 => kernel_rfl); (case k6x71 => kernel_rfl); (case hSx71 => assumption); (case hYx71 => (refine Or.inl ⟨rfl, ?hyx71⟩; intro w hSw; (try dsimp only at hSw); go_simp; (try with_reducible rfl))); (case hQx71 => exact (fun _ _ _ h => h)); (try simp only [Act.put, List.setIfInBounds_toArray, List.set_cons_zero, List.set_cons_succ]))
          (refine wpAnyL_take (n := 0) (i := 15) (oi := ?ox72) (v := ?vx72) ?hix72 ?k1x72 ?k2x72 ?k3x72 ?k4x72 ?k5x72 ?k6x72 ?hQx72 ?hYx72 ?hSx72 ?restx72; (case hix72 => (simp only [List.getElem?_toArray, List.getElem?_cons_succ, List.getElem?_cons_zero]; exact rfl)); (case k1x72 => kernel_rfl); (case k2x72 => kernel_rfl); (case k3x72 => kernel_rfl); (case k4x72 => kernel_rfl); (case k5x72 => kernel_rfl); (case k6x72 => kernel_rfl); (case hSx72 => assumption); (case hYx72 => (refine Or.inl ⟨rfl, ?hyx72⟩; intro w hSw; (try dsimp only at hSw); go_simp; (try with_reducible rfl))); (case hQx72 => exact (fun _ _ _ h => h)); (try simp only [Act.put, List.setIfInBounds_toArray, List.set_cons_zero, List.set_cons_succ]))
          (refine wpAnyL_take (n := 0) (i := 16) (oi := ?ox73) (v := undef) ?hix73 ?k1x73 ?k2x73 ?k3x73 ?k4x73 ?k5x73 ?k6x73 ?hQx73 ?hYx73 ?hSx73 ?restx73; (case hix73 => (simp only [List.getElem?_toArray, List.getElem?_cons_succ, List.getElem?_cons_zero]; exact rfl)); (case k1x73 => kernel_rfl); (case k2x73 => kernel_rfl); (case k3x73 => kernel_rfl); (case k4x73 => kernel_rfl); (case k5x73 => kernel_rfl); (case k6x73 => kernel_rfl); (case hSx73 => assumption); (case hYx73 => (refine Or.inr ⟨?hyx73, rfl⟩; (first | rfl | kernel_rfl | (go_simp; done)))); (case hQx73 => exact (fun _ _ _ h => h)); (try simp only [Act.put, List.setIfInBounds_toArray, List.set_cons_zero, List.set_cons_succ]))
          (refine wpAnyL_take (n := 0) (i := 17) (oi := ?ox74) (v := undef) ?hix74 ?k1x74 ?k2x74 ?k3x74 ?k4x74 ?k5x74 ?k6x74 ?hQx74 ?hYx74 ?hSx74 ?restx74; (case hix74 => (simp only [List.getElem?_toArray, List.getElem?_cons_succ, List.getElem?_cons_zero]; exact rfl)); (case k1x74 => kernel_rfl); (case k2x74 => kernel_rfl); (case k3x74 => kernel_rfl); (case k4x74 => kernel_rfl); (case k5x74 => kernel_rfl); (case k6x74 => kernel_rfl); (case hSx74 => assumption); (case hYx74 => (refine Or.inr ⟨?hyx74, rfl⟩; (first | rfl | kernel_rfl | (go_simp; done)))); (case hQx74 => exact (fun _ _ _ h => h)); (try simp only [Act.put, List.setIfInBounds_toArray, List.set_cons_zero, List.set_cons_succ]))
          (refine wpAnyL_take (n := 0) (i := 18) (oi := ?ox75) (v := undef) ?hix75 ?k1x75 ?k2x75 ?k3x75 ?k4x75 ?k5x75 ?k6x75 ?hQx75 ?hYx75 ?hSx75 ?restx75; (case hix75 => (simp only [List.getElem?_toArray, List.getElem?_cons_succ, List.getElem?_cons_zero]; exact rfl)); (case k1x75 => kernel_rfl); (case k2x75 => kernel_rfl); (case k3x75 => kernel_rfl); (case k4x75 => kernel_rfl); (case k5x75 => kernel_rfl); (case k6x75 => kernel_rfl); (case hSx75 => assumption); (case hYx75 => (refine Or.inr ⟨?hyx75, rfl⟩; (first | rfl | kernel_rfl | (go_simp; done)))); (case hQx75 => exact (fun _ _ _ h => h)); (try simp only [Act.put, List.setIfInBounds_toArray, List.set_cons_zero, List.set_cons_succ]))
          (refine wpAnyL_take (n := 0) (i := 19) (oi := ?ox76) (v := undef) ?hix76 ?k1x76 ?k2x76 ?k3x76 ?k4x76 ?k5x76 ?k6x76 ?hQx76 ?hYx76 ?hSx76 ?restx76; (case hix76 => (simp only [List.getElem?_toArray, List.getElem?_cons_succ, List.getElem?_cons_zero]; exact rfl)); (case k1x76 => kernel_rfl); (case k2x76 => kernel_rfl); (case k3x76 => kernel_rfl); (case k4x76 => kernel_rfl); (case k5x76 => kernel_rfl); (case k6x76 => kernel_rfl); (case hSx76 => assumption); (case hYx76 => (refine Or.inr ⟨?hyx76, rfl⟩; (first | rfl | kernel_rfl | (go_simp; done)))); (case hQx76 => exact (fun _ _ _ h => h)); (try simp only [Act.put, List.setIfInBounds_toArray, List.set_cons_zero, List.set_cons_succ]))
          (refine wpAnyL_take (n := 0) (i := 20) (oi := ?ox77) (v := undef) ?hix77 ?k1x77 ?k2x77 ?k3x77 ?k4x77 ?k5x77 ?k6x77 ?hQx77 ?hYx77 ?hSx77 ?restx77; (case hix77 => (simp only [List.getElem?_toArray, List.getElem?_cons_succ, List.getElem?_cons_zero]; exact rfl)); (case k1x77 => kernel_rfl); (case k2x77 => kernel_rfl); (case k3x77 => kernel_rfl); (case k4x77 => kernel_rfl); (case k5x77 => kernel_rfl); (case k6x77 => kernel_rfl); (case hSx77 => assumption); (case hYx77 => (refine Or.inr ⟨?hyx77, rfl⟩; (first | rfl | kernel_rfl | (go_simp; done)))); (case hQx77 => exact (fun _ _ _ h => h)); (try simp only [Act.put, List.setIfInBounds_toArray, List.set_cons_zero, List.set_cons_succ]))
          (refine wpAnyL_take (n := 0) (i := 21) (oi := ?ox78) (v := undef) ?hix78 ?k1x78 ?k2x78 ?k3x78 ?k4x78 ?k5x78 ?k6x78 ?hQx78 ?hYx78 ?hSx78 ?restx78; (case hix78 => (simp only [List.getElem?_toArray, List.getElem?_cons_succ, List.getElem?_cons_zero]; exact rfl)); (case k1x78 => kernel_rfl); (case k2x78 => kernel_rfl); (case k3x78 => kernel_rfl); (case k4x78 => kernel_rfl); (case k5x78 => kernel_rfl); (case k6x78 => kernel_rfl); (case hSx78 => assumption); (case hYx78 => (refine Or.inr ⟨?hyx78, rfl⟩; (first | rfl | kernel_rfl | (go_simp; done)))); (case hQx78 => exact (fun _ _ _ h => h)); (try simp only [Act.put, List.setIfInBounds_toArray, List.set_cons_zero, List.set_cons_succ]))
          (refine wpAnyL_take (n := 0) (i := 22) (oi := ?ox79) (v := undef) ?hix79 ?k1x79 ?k2x79 ?k3x79 ?k4x79 ?k5x79 ?k6x79 ?hQx79 ?hYx79 ?hSx79 ?restx79; (case hix79 => (simp only [List.getElem?_toArray, List.getElem?_cons_succ, List.getElem?_cons_zero]; exact rfl)); (case k1x79 => kernel_rfl); (case k2x79 => kernel_rfl); (case k3x79 => kernel_rfl); (case k4x79 => kernel_rfl); (case k5x79 => kernel_rfl); (case k6x79 => kernel_rfl); (case hSx79 => assumption); (case hYx79 => (refine Or.inr ⟨?hyx79, rfl⟩; (first | rfl | kernel_rfl | (go_simp; done)))); (case hQx79 => exact (fun _ _ _ h => h)); (try simp only [Act.put, List.setIfInBounds_toArray, List.set_cons_zero, List.set_cons_succ]))
          (refine wpAnyL_take (n := 0) (i := 23) (oi := ?ox80) (v := undef) ?hix80 ?k1x80 ?k2x80 ?k3x80 ?k4x80 ?k5x80 ?k6x80 ?hQx80 ?hYx80 ?hSx80 ?restx80; (case hix80 => (simp only [List.getElem?_toArray, List.getElem?_cons_succ, List.getElem?_cons_zero]; exact rfl)); (case k1x80 => kernel_rfl); (case k2x80 => kernel_rfl); (case k3x80 => kernel_rfl); (case k4x80 => kernel_rfl); (case k5x80 => kernel_rfl); (case k6x80 => kernel_rfl); (case hSx80 => assumption); (case hYx80 => (refine Or.inr ⟨?hyx80, rfl⟩; (first | rfl | kernel_rfl | (go_simp; done)))); (case hQx80 => exact (fun _ _ _ h => h)); (try simp only [Act.put, List.setIfInBounds_toArray, List.set_cons_zero, List.set_cons_succ]))
          (refine wpAnyL_take (n := 0) (i := 24) (oi := ?ox81) (v := undef) ?hix81 ?k1x81 ?k2x81 ?k3x81 ?k4x81 ?k5x81 ?k6x81 ?hQx81 ?hYx81 ?hSx81 ?restx81; (case hix81 => (simp only [List.getElem?_toArray, List.getElem?_cons_succ, List.getElem?_cons_zero]; exact rfl)); (case k1x81 => kernel_rfl); (case k2x81 => kernel_rfl); (case k3x81 => kernel_rfl); (case k4x81 => kernel_rfl); (case k5x81 => kernel_rfl); (case k6x81 => kernel_rfl); (case hSx81 => assumption); (case hYx81 => (refine Or.inr ⟨?hyx81, rfl⟩; (first | rfl | kernel_rfl | (go_simp; done)))); (case hQx81 => exact (fun _ _ _ h => h)); (try simp only [Act.put, List.setIfInBounds_toArray, List.set_cons_zero, List.set_cons_succ]))
          (refine wpAnyL_take (n := 0) (i := 25) (oi := ?ox82) (v := undef) ?hix82 ?k1x82 ?k2x82 ?k3x82 ?k4x82 ?k5x82 ?k6x82 ?hQx82 ?hYx82 ?hSx82 ?restx82; (case hix82 => (simp only [List.getElem?_toArray, List.getElem?_cons_succ, List.getElem?_cons_zero]; exact rfl)); (case k1x82 => kernel_rfl); (case k2x82 => kernel_rfl); (case k3x82 => kernel_rfl); (case k4x82 => kernel_rfl); (case k5x82 => kernel_rfl); (case k6x82 => kernel_rfl); (case hSx82 => assumption); (case hYx82 => (refine Or.inr ⟨?hyx82, rfl⟩; (first | rfl | kernel_rfl | (go_simp; done)))); (case hQx82 => exact (fun _ _ _ h => h)); (try simp only [Act.put, List.setIfInBounds_toArray, List.set_cons_zero, List.set_cons_succ]))
          (refine wpAnyL_take (n := 0) (i := 26) (oi := ?ox83) (v := undef) ?hix83 ?k1x83 ?k2x83 ?k3x83 ?k4x83 ?k5x83 ?k6x83 ?hQx83 ?hYx83 ?hSx83 ?restx83; (case hix83 => (simp only [List.getElem?_toArray, List.getElem?_cons_succ, List.getElem?_cons_zero]; exact rfl)); (case k1x83 => kernel_rfl); (case k2x83 => kernel_rfl); (case k3x83 => kernel_rfl); (case k4x83 => kernel_rfl); (case k5x83 => kernel_rfl); (case k6x83 => kernel_rfl); (case hSx83 => assumption); (case hYx83 => (refine Or.inr ⟨?hyx83, rfl⟩; (first | rfl | kernel_rfl | (go_simp; done)))); (case hQx83 => exact (fun _ _ _ h => h)); (try simp only [Act.put, List.setIfInBounds_toArray, List.set_cons_zero, List.set_cons_succ]))
          (refine wpAnyL_take (n := 0) (i := 27) (oi := ?ox84) (v := undef) ?hix84 ?k1x84 ?k2x84 ?k3x84 ?k4x84 ?k5x84 ?k6x84 ?hQx84 ?hYx84 ?hSx84 ?restx84; (case hix84 => (simp only [List.getElem?_toArray, List.getElem?_cons_succ, List.getElem?_cons_zero]; exact rfl)); (case k1x84 => kernel_rfl); (case k2x84 => kernel_rfl); (case k3x84 => kernel_rfl); (case k4x84 => kernel_rfl); (case k5x84 => kernel_rfl); (case k6x84 => kernel_rfl); (case hSx84 => assumption); (case hYx84 => (refine Or.inr ⟨?hyx84, rfl⟩; (first | rfl | kernel_rfl | (go_simp; done)))); (case hQx84 => exact (fun _ _ _ h => h)); (try simp only [Act.put, List.setIfInBounds_toArray, List.set_cons_zero, List.set_cons_succ]))
          (refine wpAnyL_take (n := 0) (i := 28) (oi := ?ox85) (v := undef) ?hix85 ?k1x85 ?k2x85 ?k3x85 ?k4x85 ?k5x85 ?k6x85 ?hQx85 ?hYx85 ?hSx85 ?restx85; (case hix85 => (simp only [List.getElem?_toArray, List.getElem?_cons_succ, List.getElem?_cons_zero]; exact rfl)); (case k1x85 => kernel_rfl); (case k2x85 => kernel_rfl); (case k3x85 => kernel_rfl); (case k4x85 => kernel_rfl); (case k5x85 => kernel_rfl); (case k6x85 => kernel_rfl); (case hSx85 => assumption); (case hYx85 => (refine Or.inr ⟨?hyx85, rfl⟩; (first | rfl | kernel_rfl | (go_simp; done)))); (case hQx85 => exact (fun _ _ _ h => h)); (try simp only [Act.put, List.setIfInBounds_toArray, List.set_cons_zero, List.set_cons_succ]))
          (refine wpAnyL_take (n := 0) (i := 29) (oi := ?ox86) (v := undef) ?hix86 ?k1x86 ?k2x86 ?k3x86 ?k4x86 ?k5x86 ?k6x86 ?hQx86 ?hYx86 ?hSx86 ?restx86; (case hix86 => (simp only [List.getElem?_toArray, List.getElem?_cons_succ, List.getElem?_cons_zero]; exact rfl)); (case k1x86 => kernel_rfl); (case k2x86 => kernel_rfl); (case k3x86 => kernel_rfl); (case k4x86 => kernel_rfl); (case k5x86 => kernel_rfl); (case k6x86 => kernel_rfl); (case hSx86 => assumption); (case hYx86 => (refine Or.inr ⟨?hyx86, rfl⟩; (first | rfl | kernel_rfl | (go_simp; done)))); (case hQx86 => exact (fun _ _ _ h => h)); (try simp only [Act.put, List.setIfInBounds_toArray, List.set_cons_zero, List.set_cons_succ]))
          (refine wpAnyL_take (n := 0) (i := 30) (oi := ?ox87) (v := undef) ?hix87 ?k1x87 ?k2x87 ?k3x87 ?k4x87 ?k5x87 ?k6x87 ?hQx87 ?hYx87 ?hSx87 ?restx87; (case hix87 => (simp only [List.getElem?_toArray, List.getElem?_cons_succ, List.getElem?_cons_zero]; exact rfl)); (case k1x87 => kernel_rfl); (case k2x87 => kernel_rfl); (case k3x87 => kernel_rfl); (case k4x87 => kernel_rfl); (case k5x87 => kernel_rfl); (case k6x87 => kernel_rfl); (case hSx87 => assumption); (case hYx87 => (refine Or.inr ⟨?hyx87, rfl⟩; (first | rfl | kernel_rfl | (go_simp; done)))); (case hQx87 => exact (fun _ _ _ h => h)); (try simp only [Act.put, List.setIfInBounds_toArray, List.set_cons_zero, List.set_cons_succ]))
          (refine wpAnyL_take (n := 0) (i := 31) (oi := ?ox88) (v := ?vx88) ?hix88 ?k1x88 ?k2x88 ?k3x88 ?k4x88 ?k5x88 ?k6x88 ?hQx88 ?hYx88 ?hSx88 ?restx88; (case hix88 => (simp only [List.getElem?_toArray, List.getElem?_cons_succ, List.getElem?_cons_zero]; exact rfl)); (case k1x88 => kernel_rfl); (case k2x88 => kernel_rfl); (case k3x88 => kernel_rfl); (case k4x88 => kernel_rfl); (case k5x88 => kernel_rfl); (case k6x88 => kernel_rfl); (case hSx88 => assumption); (case hYx88 => (refine Or.inl ⟨rfl, ?hyx88⟩; intro w hSw; (try dsimp only at hSw); go_simp; (try with_reducible rfl))); (case hQx88 => exact (fun _ _ _ h => h)); (try simp only [Act.put, List.setIfInBounds_toArray, List.set_cons_zero, List.set_cons_succ]))
          (refine wpAnyL_take (n := 0) (i := 32) (oi := ?ox89) (v := ?vx89) ?hix89 ?k1x89 ?k2x89 ?k3x89 ?k4x89 ?k5x89 ?k6x89 ?hQx89 ?hYx89 ?hSx89 ?restx89; (case hix89 => (simp only [List.getElem?_toArray, List.getElem?_cons_succ, List.getElem?_cons_zero]; exact rfl)); (case k1x89 => kernel_rfl); (case k2x89 => kernel_rfl); (case k3x89 => kernel_rfl); (case k4x89 => kernel_rfl); (case k5x89 => kernel_rfl); (case k6x89 => kernel_rfl); (case hSx89 => assumption); (case hYx89 => (refine Or.inl ⟨rfl, ?hyx89⟩; intro w hSw; (try dsimp only at hSw); go_simp; (try with_reducible rfl))); (case hQx89 => exact (fun _ _ _ h => h)); (try simp only [Act.put, List.setIfInBounds_toArray, List.set_cons_zero, List.set_cons_succ]))
          (refine wpAnyL_take (n := 0) (i := 33) (oi := ?ox90) (v := ?vx90) ?hix90 ?k1x90 ?k2x90 ?k3x90 ?k4x90 ?k5x90 ?k6x90 ?hQx90 ?hYx90 ?hSx90 ?restx90; (case hix90 => (simp only [List.getElem?_toArray, List.getElem?_cons_succ, List.getElem?_cons_zero]; exact rfl)); (case k1x90 => kernel_rfl); (case k2x90 => kernel_rfl); (case k3x90 => kernel_rfl); (case k4x90 => kernel_rfl); (case k5x90 => kernel_rfl); (case k6x90 => kernel_rfl); (case hSx90 => assumption); (case hYx90 => (refine Or.inl ⟨rfl, ?hyx90⟩; intro w hSw; (try dsimp only at hSw); go_simp; (try with_reducible rfl))); (case hQx90 => exact (fun _ _ _ h => h)); (try simp only [Act.put, List.setIfInBounds_toArray, List.set_cons_zero, List.set_cons_succ]))
          refine wpAnyL_ready (rs := [34]) (by kernel_rfl) (by simp) ?_
          refine AllReadyL.cons (o := ?o34x91) ?hi34x91 (fun K hK => ?_) AllReadyL.nil
          (case hi34x91 => (simp only [List.getElem?_toArray, List.getElem?_cons_succ, List.getElem?_cons_zero]; exact rfl))
          go_simp
          go_at_call 18
          refine (HAW.out _).mono ?_
          rintro e w1 ⟨rfl, hb9⟩
          have t0 := below_tr HB.out hb9; have t1 := below_tr HBC.out hb9
          clear HB HBC
          have HB := Lib.hid t0; have HBC := Lib.hid t1
          clear t0 t1
          clear hb9 
          (try go_wp2_with fail)
          (try clear hHeld)
          refine hK.out _ _ (by (try dsimp only); exact HS.out _ HBC.out) (fun hHeld => ?_)
          clear hK K
          (try simp only [Act.put, List.setIfInBounds_toArray, List.set_cons_zero, List.set_cons_succ])
          (refine wpAnyL_take (n := 0) (i := 35) (oi := ?ox92) (v := ?vx92) ?hix92 ?k1x92 ?k2x92 ?k3x92 ?k4x92 ?k5x92 ?k6x92 ?hQx92 ?hYx92 ?hSx92 ?restx92; (case hix92 => (simp only [List.getElem?_toArray, List.getElem?_cons_succ, List.getElem?_cons_zero]; exact rfl)); (case k1x92 => kernel_rfl); (case k2x92 => kernel_rfl); (case k3x92 => kernel_rfl); (case k4x92 => kernel_rfl); (case k5x92 => kernel_rfl); (case k6x92 => kernel_rfl); (case hSx92 => assumption); (case hYx92 => (refine Or.inl ⟨rfl, ?hyx92⟩; intro w hSw; (try dsimp only at hSw); go_simp; (try with_reducible rfl))); (case hQx92 => exact (fun _ _ _ h => h)); (try simp only [Act.put, List.setIfInBounds_toArray, List.set_cons_zero, List.set_cons_succ]))
          (refine wpAnyL_take (n := 0) (i := 36) (oi := ?ox93) (v := ?vx93) ?hix93 ?k1x93 ?k2x93 ?k3x93 ?k4x93 ?k5x93 ?k6x93 ?hQx93 ?hYx93 ?hSx93 ?restx93; (case hix93 => (simp only [List.getElem?_toArray, List.getElem?_cons_succ, List.getElem?_cons_zero]; exact rfl)); (case k1x93 => kernel_rfl); (case k2x93 => kernel_rfl); (case k3x93 => kernel_rfl); (case k4x93 => kernel_rfl); (case k5x93 => kernel_rfl); (case k6x93 => kernel_rfl); (case hSx93 => assumption); (case hYx93 => (refine Or.inl ⟨rfl, ?hyx93⟩; intro w hSw; (try dsimp only at hSw); go_simp; (try with_reducible rfl))); (case hQx93 => exact (fun _ _ _ h => h)); (try simp only [Act.put, List.setIfInBounds_toArray, List.set_cons_zero, List.set_cons_succ]))
          (refine wpAnyL_done (by kernel_rfl) ?_ _)
          go_wp2_with fail
          go_ret
          exact ⟨rfl, HB.out⟩
        · cases hzm : z.may
          · rw [hym] at c0; rw [hzm] at d0
            clear hym hzm
            have HS := Lib.hid (fun (U : World) (hU : Below w1.heap.size w1 U) => show U.cell? ⟨b, o, none⟩ = some (.bool true) ∧ U.cell? ⟨b, o + 1, none⟩ = some (.int .i64 y.height) ∧ U.cell? ⟨b, o + 2, none⟩ = some (.int .i64 y.frm) ∧ U.cell? ⟨b, o + 3, none⟩ = some (.bool false) ∧ U.cell? ⟨b, o + 3 + 1, none⟩ = some (.int .i64 z.height) ∧ U.cell? ⟨b, o + 3 + 2, none⟩ = some (.int .i64 z.frm) from ⟨bel_keep hU c0, bel_keep hU c1, bel_keep hU c2, bel_keep hU d0, bel_keep hU d1, bel_keep hU d2⟩)
            have HBC := Lib.hid (Below.refl w1.heap.size w1)
            go_upto_region 7 with fail
            clear c0 c1 c2 d0 d1 d2
            refine wp_region_till [] (fun U => U.cell? ⟨b, o, none⟩ = some (.bool true) ∧ U.cell? ⟨b, o + 1, none⟩ = some (.int .i64 y.height) ∧ U.cell? ⟨b, o + 2, none⟩ = some (.int .i64 y.frm) ∧ U.cell? ⟨b, o + 3, none⟩ = some (.bool false) ∧ U.cell? ⟨b, o + 3 + 1, none⟩ = some (.int .i64 z.height) ∧ U.cell? ⟨b, o + 3 + 2, none⟩ = some (.int .i64 z.frm)) (by kernel_rfl) (by exact HS.out _ HBC.out.drew) (fun hHeld => ?_)
            have hb9 := (Below.refl w1.heap.size w1).drew
            have t0 := below_tr HB.out hb9; have t1 := below_tr HBC.out hb9
            clear HB HBC
            have HB := Lib.hid t0; have HBC := Lib.hid t1
            clear t0 t1
            clear hb9
            revert hHeld HB HBC
            generalize w1.drew = w0
            intro hHeld HB HBC
            (refine wpAnyL_take (n := 0) (i := 0) (oi := ?ox94) (v := ?vx94) ?hix94 ?k1x94 ?k2x94 ?k3x94 ?k4x94 ?k5x94 ?k6x94 ?hQx94 ?hYx94 ?hSx94 ?restx94; (case hix94 => (simp only [List.getElem?_toArray, List.getElem?_cons_succ, List.getElem?_cons_zero]; exact rfl)); (case k1x94 => kernel_rfl); (case k2x94 => kernel_rfl); (case k3x94 => kernel_rfl); (case k4x94 => kernel_rfl); (case k5x94 => kernel_rfl); (case k6x94 => kernel_rfl); (case hSx94 => assumption); (case hYx94 => (refine Or.inl ⟨rfl, ?hyx94⟩; intro w hSw; (try dsimp only at hSw); go_simp; (try with_reducible rfl))); (case hQx94 => exact (fun _ _ _ h => h)); (try simp only [Act.put, List.setIfInBounds_toArray, List.set_cons_zero, List.set_cons_succ]))
            (refine wpAnyL_take (n := 0) (i := 1) (oi := ?ox95) (v := ?vx95) ?hix95 ?k1x95 ?k2x95 ?k3x95 ?k4x95 ?k5x95 ?k6x95 ?hQx95 ?hYx95 ?hSx95 ?restx95; (case hix95 => (simp only [List.getElem?_toArray, List.getElem?_cons_succ, List.getElem?_cons_zero]; exact rfl)); (case k1x95 => kernel_rfl); (case k2x95 => kernel_rfl); (case k3x95 => kernel_rfl); (case k4x95 => kernel_rfl); (case k5x95 => kernel_rfl); (case k6x95 => kernel_rfl); (case hSx95 => assumption); (case hYx95 => (refine Or.inl ⟨rfl, ?hyx95⟩; intro w hSw; (try dsimp only at hSw); go_simp; (try with_reducible rfl))); (case hQx95 => exact (fun _ _ _ h => h)); (try simp only [Act.put, List.setIfInBounds_toArray, List.set_cons_zero, List.set_cons_succ]))
            (refine wpAnyL_take (n := 0) (i := 2) (oi := ?ox96) (v := ?vx96) ?hix96 ?k1x96 ?k2x96 ?k3x96 ?k4x96 ?k5x96 ?k6x96 ?hQx96 ?hYx96 ?hSx96 ?restx96; (case hix96 => (simp only [List.getElem?_toArray, List.getElem?_cons_succ, List.getElem?_cons_zero]; exact rfl)); (case k1x96 => kernel_rfl); (case k2x96 => kernel_rfl); (case k3x96 => kernel_rfl); (case k4x96 => kernel_rfl); (case k5x96 => kernel_rfl); (case k6x96 => kernel_rfl); (case hSx96 => assumption); (case hYx96 => (refine Or.inl ⟨rfl, ?hyx96⟩; intro w hSw; (try dsimp only at hSw); go_simp; (try with_reducible rfl))); (case hQx96 => exact (fun _ _ _ h => h)); (try simp only [Act.put, List.setIfInBounds_toArray, List.set_cons_zero, List.set_cons_succ]))
            (refine wpAnyL_take (n := 0) (i := 3) (oi := ?ox97) (v := ?vx97) ?hix97 ?k1x97 ?k2x97 ?k3x97 ?k4x97 ?k5x97 ?k6x97 ?hQx97 ?hYx97 ?hSx97 ?restx97; (case hix97 => (simp only [List.getElem?_toArray, List.getElem?_cons_succ, List.getElem?_cons_zero]; exact rfl)); (case k1x97 => kernel_rfl); (case k2x97 => kernel_rfl); (case k3x97 => kernel_rfl); (case k4x97 => kernel_rfl); (case k5x97 => kernel_rfl); (case k6x97 => kernel_rfl); (case hSx97 => assumption); (case hYx97 => (refine Or.inl ⟨rfl, ?hyx97⟩; intro w hSw; (try dsimp only at hSw); go_simp; (try with_reducible rfl))); (case hQx97 => exact (fun _ _ _ h => h)); (try simp only [Act.put, List.setIfInBounds_toArray, List.set_cons_zero, List.set_cons_succ]))
            (refine wpAnyL_take (n := 0) (i := 4) (oi := ?ox98) (v := ?vx98) ?hix98 ?k1x98 ?k2x98 ?k3x98 ?k4x98 ?k5x98 ?k6x98 ?hQx98 ?hYx98 ?hSx98 ?restx98; (case hix98 => (simp only [List.getElem?_toArray, List.getElem?_cons_succ, List.getElem?_cons_zero]; exact rfl)); (case k1x98 => kernel_rfl); (case k2x98 => kernel_rfl); (case k3x98 => kernel_rfl); (case k4x98 => kernel_rfl); (case k5x98 => kernel_rfl); (case k6x98 => kernel_rfl); (case hSx98 => assumption); (case hYx98 => (refine Or.inl ⟨rfl, ?hyx98⟩; intro w hSw; (try dsimp only at hSw); go_simp; (try with_reducible rfl))); (case hQx98 => exact (fun _ _ _ h => h)); (try simp only [Act.put, List.setIfInBounds_toArray, List.set_cons_zero, List.set_cons_succ]))
            (refine wpAnyL_take (n := 0) (i := 5) (oi := ?ox99) (v := ?vx99) ?hix99 ?k1x99 ?k2x99 ?k3x99 ?k4x99 ?k5x99 ?k6x99 ?hQx99 ?hYx99 ?hSx99 ?restx99; (case hix99 => (simp only [List.getElem?_toArray, List.getElem?_cons_succ, List.getElem?_cons_zero]; exact rfl)); (case k1x99 => kernel_rfl); (case k2x99 => kernel_rfl); (case k3x99 => kernel_rfl); (case k4x99 => kernel_rfl); (case k5x99 => kernel_rfl); (case k6x99 => kernel_rfl); (case hSx99 => assumption); (case hYx99 => (refine Or.inl ⟨rfl, ?hyx99⟩; intro w hSw; (try dsimp only at hSw); go_simp; (try with_reducible rfl))); (case hQx99 => exact (fun _ _ _ h => h)); (try simp only [Act.put, List.setIfInBounds_toArray, List.set_cons_zero, List.set_cons_succ]))
            (refine wpAnyL_take (n := 0) (i := 6) (oi := ?ox100) (v := ?vx100) ?hix100 ?k1x100 ?k2x100 ?k3x100 ?k4x100 ?k5x100 ?k6x100 ?hQx100 ?hYx100 ?hSx100 ?restx100; (case hix100 => (simp only [List.getElem?_toArray, List.getElem?_cons_succ, List.getElem?_cons_zero]; exact rfl)); (case k1x100 => kernel_rfl); (case k2x100 => kernel_rfl); (case k3x100 => kernel_rfl); (case k4x100 => kernel_rfl); (case k5x100 => kernel_rfl); (case k6x100 => kernel_rfl); (case hSx100 => assumption); (case hYx100 => (refine Or.inl ⟨rfl, ?hyx100⟩; intro w hSw; (try dsimp only at hSw); go_simp; (try with_reducible rfl))); (case hQx100 => exact (fun _ _ _ h => h)); (try simp only [Act.put, List.setIfInBounds_toArray, List.set_cons_zero, List.set_cons_succ]))
            (refine wpAnyL_take (n := 0) (i := 7) (oi := ?ox101) (v := ?vx101) ?hix101 ?k1x101 ?k2x101 ?k3x101 ?k4x101 ?k5x101 ?k6x101 ?hQx101 ?hYx101 ?hSx101 ?restx101; (case hix101 => (simp only [List.getElem?_toArray, List.getElem?_cons_succ, List.getElem?_cons_zero]; exact rfl)); (case k1x101 => kernel_rfl); (case k2x101 => kernel_rfl); (case k3x101 => kernel_rfl); (case k4x101 => kernel_rfl); (case k5x101 => kernel_rfl); (case k6x101 => kernel_rfl); (case hSx101 => assumption); (case hYx101 => (refine Or.inl ⟨rfl, ?hyx101⟩; intro w hSw; (try dsimp only at hSw); go_simp; (try with_reducible rfl))); (case hQx101 => exact (fun _ _ _ h => h)); (try simp only [Act.put, List.setIfInBounds_toArray, List.set_cons_zero, List.set_cons_succ]))
            (refine wpAnyL_take (n := 0) (i := 8) (oi := ?ox102) (v := ?vx102) ?hix102 ?k1x102 ?k2x102 ?k3x102 ?k4x102 ?k5x102 ?k6x102 ?hQx102 ?hYx102 ?hSx102 ?restx102; (case hix102 => (simp only [List.getElem?_toArray, List.getElem?_cons_succ, List.getElem?_cons_zero]; exact rfl)); (case k1x102 => kernel_rfl); (case k2x102 => kernel_rfl); (case k3x102 => kernel_rfl); (case k4x102 => kernel_rfl); (case k5x102 => kernel_rfl); (case k6x102 => kernel_rfl); (case hSx102 => assumption); (case hYx102 => (refine Or.inl ⟨rfl, ?hyx102⟩; intro w hSw; (try dsimp only at hSw); go_simp; (try with_reducible rfl))); (case hQx102 => exact (fun _ _ _ h => h)); (try simp only [Act.put, List.setIfInBounds_toArray, List.set_cons_zero, List.set_cons_succ]))
            (refine wpAnyL_take (n := 0) (i := 9) (oi := ?ox103) (v := ?vx103) ?hix103 ?k1x103 ?k2x103 ?k3x103 ?k4x103 ?k5x103 ?k6x103 ?hQx103 ?hYx103 ?hSx103 ?restx103; (case hix103 => (simp only [List.getElem?_toArray, List.getElem?_cons_succ, List.getElem?_cons_zero]; exact rfl)); (case k1x103 => kernel_rfl); (case k2x103 => kernel_rfl); (case k3x103 => kernel_rfl); (case k4x103 => kernel_rfl); (case k5x103 => kernel_rfl); (case k6x103 => kernel_rfl); (case hSx103 => assumption); (case hYx103 => (refine Or.inl ⟨rfl, ?hyx103⟩; intro w hSw; (try dsimp only at hSw); go_simp; (try with_reducible rfl))); (case hQx103 => exact (fun _ _ _ h => h)); (try simp only [Act.put, List.setIfInBounds_toArray, List.set_cons_zero, List.set_cons_succ]))
            (refine wpAnyL_take (n := 0) (i := 10) (oi := ?ox104) (v := ?vx104) ?hix104 ?k1x104 ?k2x104 ?k3x104 ?k4x104 ?k5x104 ?k6x104 ?hQx104 ?hYx104 ?hSx104 ?restx104; (case hix104 => (simp only [List.getElem?_toArray, List.getElem?_cons_succ, List.getElem?_cons_zero]; exact rfl)); (case k1x104 => kernel_rfl); (case k2x104 => kernel_rfl); (case k3x104 => kernel_rfl); (case k4x104 => kernel_rfl); (case k5x104 => kernel_rfl); (case k6x104 => kernel_rfl); (case hSx104 => assumption); (case hYx104 => (refine Or.inl ⟨rfl, ?hyx104⟩; intro w hSw; (try dsimp only at hSw); go_simp; (try with_reducible rfl))); (case hQx104 => exact (fun _ _ _ h => h)); (try simp only [Act.put, List.setIfInBounds_toArray, List.set_cons_zero, List.set_cons_succ]))
            (refine wpAnyL_take (n := 0) (i := 11) (oi := ?ox105) (v := ?vx105) ?hix105 ?k1x105 ?k2x105 ?k3x105 ?k4x105 ?k5x105 ?k6x105 ?hQx105 ?hYx105 ?hSx105 ?restx105; (case hix105 => (simp only [List.getElem?_toArray, List.getElem?_cons_succ, List.getElem?_cons_zero]; exact rfl)); (case k1x105 => kernel_rfl); (case k2x105 => kernel_rfl); (case k3x105 => kernel_rfl); (case k4x105 => kernel_rfl); (case k5x105 => kernel_rfl); (case k6x105 => kernel_rfl); (case hSx105 => assumption); (case hYx105 => (refine Or.inl ⟨rfl, ?hyx105⟩; intro w hSw; (try dsimp only at hSw); go_simp; (try with_reducible rfl))); (case hQx105 => exact (fun _ _ _ h => h)); (try simp only [Act.put, List.setIfInBounds_toArray, List.set_cons_zero, List.set_cons_succ]))
            (refine wpAnyL_take (n := 0) (i := 12) (oi := ?ox106) (v := ?vx106) ?hix106 ?k1x106 ?k2x106 ?k3x106 ?k4x106 ?k5x106 ?k6x106 ?hQx106 ?hYx106 ?hSx106 ?restx106; (case hix106 => (simp only [List.getElem?_toArray, List.getElem?_cons_succ, List.getElem?_cons_zero]; exact rfl)); (case k1x106 => kernel_rfl); (case k2x106 => kernel_rfl); (case k3x106 => kernel_rfl); (case k4x106 => kernel_rfl); (case k5x106 => kernel_rfl); (case k6x106 => kernel_rfl); (case hSx106 => assumption); (case hYx106 => (refine Or.inl ⟨rfl, ?hyx106⟩; intro w hSw; (try dsimp only at hSw); go_simp; (try with_reducible rfl))); (case hQx106 => exact (fun _ _ _ h => h)); (try simp only [Act.put, List.setIfInBounds_toArray, List.set_cons_zero, List.set_cons_succ]))
            (refine wpAnyL_take (n := 0) (i := 13) (oi := ?ox107) (v := ?vx107) ?hix107 ?k1x107 ?k2x107 ?k3x107 ?k4x107 ?k5x107 ?k6x107 ?hQx107 ?hYx107 ?hSx107 ?restx107; (case hix107 => (simp only [List.getElem?_toArray, List.getElem?_cons_succ, List.getElem?_cons_zero]; exact rfl)); (case k1x107 => kernel_rfl); (case k2x107 => kernel_rfl); (case k3x107 => kernel_rfl); (case k4x107 => kernel_rfl); (case k5x107 => kernel_rfl); (case k6x107 => kernel_rfl); (case hSx107 => assumption); (case hYx107 => (refine Or.inl ⟨rfl, ?hyx107⟩; intro w hSw; (try dsimp only at hSw); go_simp; (try with_reducible rfl))); (case hQx107 => exact (fun _ _ _ h => h)); (try simp only [Act.put, List.setIfInBounds_toArray, List.set_cons_zero, List.set_cons_succ]))
            (refine wpAnyL_take (n := 0) (i := 14) (oi := ?ox108) (v := ?vx108) ?hix108 ?k1x108 ?k2x108 ?k3x108 ?k4x108 ?k5x108 ?k6x108 ?hQx108 ?hYx108 ?hSx108 ?restx108; (case hix108 => (simp only [List.getElem?_toArray, List.getElem?_cons_succ, List.getElem?_cons_zero]; exact rfl)); (case k1x108 => kernel_rfl); (case k2x108 => kernel_rfl); (case k3x108 => kernel_rfl); (case k4x108 => kernel_rfl); (case k5x108 => kernel_rfl); (case k6x108 => kernel_rfl); (case hSx108 => assumption); (case hYx108 => (refine Or.inl ⟨rfl, ?hyx108⟩; intro w hSw; (try dsimp only at hSw); go_simp; (try with_reducible rfl))); (case hQx108 => exact (fun _ _ _ h => h)); (try simp only [Act.put, List.setIfInBounds_toArray, List.set_cons_zero, List.set_cons_succ]))
            (refine wpAnyL_take (n := 0) (i := 15) (oi := ?ox109) (v := ?vx109) ?hix109 ?k1x109 ?k2x109 ?k3x109 ?k4x109 ?k5x109 ?k6x109 ?hQx109 ?hYx109 ?hSx109 ?restx109; (case hix109 => (simp only [List.getElem?_toArray, List.getElem?_cons_succ, List.getElem?_cons_zero]; exact rfl)); (case k1x109 => kernel_rfl); (case k2x109 => kernel_rfl); (case k3x109 => kernel_rfl); (case k4x109 => kernel_rfl); (case k5x109 => kernel_rfl); (case k6x109 => kernel_rfl); (case hSx109 => assumption); (case hYx109 => (refine Or.inl ⟨rfl, ?hyx109⟩; intro w hSw; (try dsimp only at hSw); go_simp; (try with_reducible rfl))); (case hQx109 => exact (fun _ _ _ h => h)); (try simp only [Act.put, List.setIfInBounds_toArray, List.set_cons_zero, List.set_cons_succ]))
            (refine wpAnyL_take (n := 0) (i := 16) (oi := ?ox110) (v := undef) ?hix110 ?k1x110 ?k2x110 ?k3x110 ?k4x110 ?k5x110 ?k6x110 ?hQx110 ?hYx110 ?hSx110 ?restx110; (case hix110 => (simp only [List.getElem?_toArray, List.getElem?_cons_succ, List.getElem?_cons_zero]; exact rfl)); (case k1x110 => kernel_rfl); (case k2x110 => kernel_rfl); (case k3x110 => kernel_rfl); (case k4x110 => kernel_rfl); (case k5x110 => kernel_rfl); (case k6x110 => kernel_rfl); (case hSx110 => assumption); (case hYx110 => (refine Or.inr ⟨?hyx110, rfl⟩; (first | rfl | kernel_rfl | (go_simp; done)))); (case hQx110 => exact (fun _ _ _ h => h)); (try simp only [Act.put, List.setIfInBounds_toArray, List.set_cons_zero, List.set_cons_succ]))
            (refine wpAnyL_take (n := 0) (i := 17) (oi := ?ox111) (v := undef) ?hix111 ?k1x111 ?k2x111 ?k3x111 ?k4x111 ?k5x111 ?k6x111 ?hQx111 ?hYx111 ?hSx111 ?restx111; (case hix111 => (simp only [List.getElem?_toArray, List.getElem?_cons_succ, List.getElem?_cons_zero]; exact rfl)); (case k1x111 => kernel_rfl); (case k2x111 => kernel_rfl); (case k3x111 => kernel_rfl); (case k4x111 => kernel_rfl); (case k5x111 => kernel_rfl); (case k6x111 => kernel_rfl); (case hSx111 => assumption); (case hYx111 => (refine Or.inr ⟨?hyx111, rfl⟩; (first | rfl | kernel_rfl | (go_simp; done)))); (case hQx111 => exact (fun _ _ _ h => h)); (try simp only [Act.put, List.setIfInBounds_toArray, List.set_cons_zero, List.set_cons_succ]))
            (refine wpAnyL_take (n := 0) (i := 18) (oi := ?ox112) (v := undef) ?hix112 ?k1x112 ?k2x112 ?k3x112 ?k4x112 ?k5x112 ?k6x112 ?hQx112 ?hYx112 ?hSx112 ?restx112; (case hix112 => (simp only [List.getElem?_toArray, List.getElem?_cons_succ, List.getElem?_cons_zero]; exact rfl)); (case k1x112 => kernel_rfl); (case k2x112 => kernel_rfl); (case k3x112 => kernel_rfl); (case k4x112 => kernel_rfl); (case k5x112 => kernel_rfl); (case k6x112 => kernel_rfl); (case hSx112 => assumption); (case hYx112 => (refine Or.inr ⟨?hyx112, rfl⟩; (first | rfl | kernel_rfl | (go_simp; done)))); (case hQx112 => exact (fun _ _ _ h => h)); (try simp only [Act.put, List.setIfInBounds_toArray, List.set_cons_zero, List.set_cons_succ]))
            (refine wpAnyL_take (n := 0) (i := 19) (oi := ?ox113) (v := undef) ?hix113 ?k1x113 ?k2x113 ?k3x113 ?k4x113 ?k5x113 ?k6x113 ?hQx113 ?hYx113 ?hSx113 ?restx113; (case hix113 => (simp only [List.getElem?_toArray, List.getElem?_cons_succ, List.getElem?_cons_zero]; exact rfl)); (case k1x113 => kernel_rfl); (case k2x113 => kernel_rfl); (case k3x113 => kernel_rfl); (case k4x113 => kernel_rfl); (case k5x113 => kernel_rfl); (case k6x113 => kernel_rfl); (case hSx113 => assumption); (case hYx113 => (refine Or.inr ⟨?hyx113, rfl⟩; (first | rfl | kernel_rfl | (go_simp; done)))); (case hQx113 => exact (fun _ _ _ h => h)); (try simp only [Act.put, List.setIfInBounds_toArray, List.set_cons_zero, List.set_cons_succ]))
            (refine wpAnyL_take (n := 0) (i := 20) (oi := ?ox114) (v := undef) ?hix114 ?k1x114 ?k2x114 ?k3x114 ?k4x114 ?k5x114 ?k6x114 ?hQx114 ?hYx114 ?hSx114 ?restx114; (case hix114 => (simp only [List.getElem?_toArray, List.getElem?_cons_succ, List.getElem?_cons_zero]; exact rfl)); (case k1x114 => kernel_rfl); (case k2x114 => kernel_rfl); (case k3x114 => kernel_rfl); (case k4x114 => kernel_rfl); (case k5x114 => kernel_rfl); (case k6x114 => kernel_rfl); (case hSx114 => assumption); (case hYx114 => (refine Or.inr ⟨?hyx114, rfl⟩; (first | rfl | kernel_rfl | (go_simp; done)))); (case hQx114 => exact (fun _ _ _ h => h)); (try simp only [Act.put, List.setIfInBounds_toArray, List.set_cons_zero, List.set_cons_succ]))
            (refine wpAnyL_take (n := 0) (i := 21) (oi := ?ox115) (v := undef) ?hix115 ?k1x115 ?k2x115 ?k3x115 ?k4x115 ?k5x115 ?k6x115 ?hQx115 ?hYx115 ?hSx115 ?restx115; (case hix115 => (simp only [List.getElem?_toArray, List.getElem?_cons_succ, List.getElem?_cons_zero]; exact rfl)); (case k1x115 => kernel_rfl); (case k2x115 => kernel_rfl); (case k3x115 => kernel_rfl); (case k4x115 => kernel_rfl); (case k5x115 => kernel_rfl); (case k6x115 => kernel_rfl); (case hSx115 => assumption); (case hYx115 => (refine Or.inr ⟨?hyx115, rfl⟩; (first | rfl | kernel_rfl | (go_simp; done)))); (case hQx115 => exact (fun _ _ _ h => h)); (try simp only [Act.put, List.setIfInBounds_toArray, List.set_cons_zero, List.set_cons_succ]))
            (refine wpAnyL_take (n := 0) (i := 22) (oi := ?ox116) (v := undef) ?hix116 ?k1x116 ?k2x116 ?k3x116 ?k4x116 ?k5x116 ?k6x116 ?hQx116 ?hYx116 ?hSx116 ?restx116; (case hix116 => (simp only [List.getElem?_toArray, List.getElem?_cons_succ, List.getElem?_cons_zero]; exact rfl)); (case k1x116 => kernel_rfl); (case k2x116 => kernel_rfl); (case k3x116 => kernel_rfl); (case k4x116 => kernel_rfl); (case k5x116 => kernel_rfl); (case k6x116 => kernel_rfl); (case hSx116 => assumption); (case hYx116 => (refine Or.inr ⟨?hyx116, rfl⟩; (first | rfl | kernel_rfl | (go_simp; done)))); (case hQx116 => exact (fun _ _ _ h => h)); (try simp only [Act.put, List.setIfInBounds_toArray, List.set_cons_zero, List.set_cons_succ]))
            (refine wpAnyL_take (n := 0) (i := 23) (oi := ?ox117) (v := undef) ?hix117 ?k1x117 ?k2x117 ?k3x117 ?k4x117 ?k5x117 ?k6x117 ?hQx117 ?hYx117 ?hSx117 ?restx117; (case hix117 => (simp only [List.getElem?_toArray, List.getElem?_cons_succ, List.getElem?_cons_zero]; exact rfl)); (case k1x117 => kernel_rfl); (case k2x117 => kernel_rfl); (case k3x117 => kernel_rfl); (case k4x117 => kernel_rfl); (case k5x117 => kernel_rfl); (case k6x117 => kernel_rfl); (case hSx117 => assumption); (case hYx117 => (refine Or.inr ⟨?hyx117, rfl⟩; (first | rfl | kernel_rfl | (go_simp; done)))); (case hQx117 => exact (fun _ _ _ h => h)); (try simp only [Act.put, List.setIfInBounds_toArray, List.set_cons_zero, List.set_cons_succ]))
            (refine wpAnyL_take (n := 0) (i := 24) (oi := ?ox118) (v := undef) ?hix118 ?k1x118 ?k2x118 ?k3x118 ?k4x118 ?k5x118 ?k6x118 ?hQx118 ?hYx118 ?hSx118 ?restx118; (case hix118 => (simp only [List.getElem?_toArray, List.getElem?_cons_succ, List.getElem?_cons_zero]; exact rfl)); (case k1x118 => kernel_rfl); (case k2x118 => kernel_rfl); (case k3x118 => kernel_rfl); (case k4x118 => kernel_rfl); (case k5x118 => kernel_rfl); (case k6x118 => kernel_rfl); (case hSx118 => assumption); (case hYx118 => (refine Or.inr ⟨?hyx118, rfl⟩; (first | rfl | kernel_rfl | (go_simp; done)))); (case hQx118 => exact (fun _ _ _ h => h)); (try simp only [Act.put, List.setIfInBounds_toArray, List.set_cons_zero, List.set_cons_succ]))
            (refine wpAnyL_take (n := 0) (i := 25) (oi := ?ox119) (v := undef) ?hix119 ?k1x119 ?k2x119 ?k3x119 ?k4x119 ?k5x119 ?k6x119 ?hQx119 ?hYx119 ?hSx119 ?restx119; (case hix119 => (simp only [List.getElem?_toArray, List.getElem?_cons_succ, List.getElem?_cons_zero]; exact rfl)); (case k1x119 => kernel_rfl); (case k2x119 => kernel_rfl); (case k3x119 => kernel_rfl); (case k4x119 => kernel_rfl); (case k5x119 => kernel_rfl); (case k6x119 => kernel_rfl); (case hSx119 => assumption); (case hYx119 => (refine Or.inr ⟨?hyx119, rfl⟩; (first | rfl | kernel_rfl | (go_simp; done)))); (case hQx119 => exact (fun _ _ _ h => h)); (try simp only [Act.put, List.setIfInBounds_toArray, List.set_cons_zero, List.set_cons_succ]))
            (refine wpAnyL_take (n := 0) (i := 26) (oi := ?ox120) (v := undef) ?hix120 ?k1x120 ?k2x120 ?k3x120 ?k4x120 ?k5x120 ?k6x120 ?hQx120 ?hYx120 ?hSx120 ?restx120; (case hix120 => (simp only [List.getElem?_toArray, List.getElem?_cons_succ, List.getElem?_cons_zero]; exact rfl)); (case k1x120 => kernel_rfl); (case k2x120 => kernel_rfl); (case k3x120 => kernel_rfl); (case k4x120 => kernel_rfl); (case k5x120 => kernel_rfl); (case k6x120 => kernel_rfl); (case hSx120 => assumption); (case hYx120 => (refine Or.inr ⟨?hyx120, rfl⟩; (first | rfl | kernel_rfl | (go_simp; done)))); (case hQx120 => exact (fun _ _ _ h => h)); (try simp only [Act.put, List.setIfInBounds_toArray, List.set_cons_zero, List.set_cons_succ]))
            (refine wpAnyL_take (n := 0) (i := 27) (oi := ?ox121) (v := undef) ?hix121 ?k1x121 ?k2x121 ?k3x121 ?k4x121 ?k5x121 ?k6x121 ?hQx121 ?hYx121 ?hSx121 ?restx121; (case hix121 => (simp only [List.getElem?_toArray, List.getElem?_cons_succ, List.getElem?_cons_zero]; exact rfl)); (case k1x121 => kernel_rfl); (case k2x121 => kernel_rfl); (case k3x121 => kernel_rfl); (case k4x121 => kernel_rfl); (case k5x121 => kernel_rfl); (case k6x121 => kernel_rfl); (case hSx121 => assumption); (case hYx121 => (refine Or.inr ⟨?hyx121, rfl⟩; (first | rfl | kernel_rfl | (go_simp; done)))); (case hQx121 => exact (fun _ _ _ h => h)); (try simp only [Act.put, List.setIfInBounds_toArray, List.set_cons_zero, List.set_cons_succ]))
            (refine wpAnyL_take (n := 0) (i := 28) (oi := ?ox122) (v := undef) ?hix122 ?k1x122 ?k2x122 ?k3x122 ?k4x122 ?k5x122 ?k6x122 ?hQx122 ?hYx122 ?hSx122 ?restx122; (case hix122 => (simp only [List.getElem?_toArray, List.getElem?_cons_succ, List.getElem?_cons_zero]; exact rfl)); (case k1x122 => kernel_rfl); (case k2x122 => kernel_rfl); (case k3x122 => kernel_rfl); (case k4x122 => kernel_rfl); (case k5x122 => kernel_rfl); (case k6x122 => kernel_rfl); (case hSx122 => assumption); (case hYx122 => (refine Or.inr ⟨?hyx122, rfl⟩; (first | rfl | kernel_rfl | (go_simp; done)))); (case hQx122 => exact (fun _ _ _ h => h)); (try simp only [Act.put, List.setIfInBounds_toArray, List.set_cons_zero, List.set_cons_succ]))
            (refine wpAnyL_take (n := 0) (i := 29) (oi := ?ox123) (v := undef) ?hix123 ?k1x123 ?k2x123 ?k3x123 ?k4x123 ?k5x123 ?k6x123 ?hQx123 ?hYx123 ?hSx123 ?restx123; (case hix123 => (simp only [List.getElem?_toArray, List.getElem?_cons_succ, List.getElem?_cons_zero]; exact rfl)); (case k1x123 => kernel_rfl); (case k2x123 => kernel_rfl); (case k3x123 => kernel_rfl); (case k4x123 => kernel_rfl); (case k5x123 => kernel_rfl); (case k6x123 => kernel_rfl); (case hSx123 => assumption); (case hYx123 => (refine Or.inr ⟨?hyx123, rfl⟩; (first | rfl | kernel_rfl | (go_simp; done)))); (case hQx123 => exact (fun _ _ _ h => h)); (try simp only [Act.put, List.setIfInBounds_toArray, List.set_cons_zero, List.set_cons_succ]))
            (refine wpAnyL_take (n := 0) (i := 30) (oi := ?ox124) (v := undef) ?hix124 ?k1x124 ?k2x124 ?k3x124 ?k4x124 ?k5x124 ?k6x124 ?hQx124 ?hYx124 ?hSx124 ?restx124; (case hix124 => (simp only [List.getElem?_toArray, List.getElem?_cons_succ, List.getElem?_cons_zero]; exact rfl)); (case k1x124 => kernel_rfl); (case k2x124 => kernel_rfl); (case k3x124 => kernel_rfl); (case k4x124 => kernel_rfl); (case k5x124 => kernel_rfl); (case k6x124 => kernel_rfl); (case hSx124 => assumption); (case hYx124 => (refine Or.inr ⟨?hyx124, rfl⟩; (first | rfl | kernel_rfl | (go_simp; done)))); (case hQx124 => exact (fun _ _ _ h => h)); (try simp only [Act.put, List.setIfInBounds_toArray, List.set_cons_zero, List.set_cons_succ]))
            (refine wpAnyL_take (n := 0) (i := 31) (oi := ?ox125) (v := ?vx125) ?hix125 ?k1x125 ?k2x125 ?k3x125 ?k4x125 ?k5x125 ?k6x125 ?hQx125 ?hYx125 ?hSx125 ?restx125; (case hix125 => (simp only [List.getElem?_toArray, List.getElem?_cons_succ, List.getElem?_cons_zero]; exact rfl)); (case k1x125 => kernel_rfl); (case k2x125 => kernel_rfl); (case k3x125 => kernel_rfl); (case k4x125 => kernel_rfl); (case k5x125 => kernel_rfl); (case k6x125 => kernel_rfl); (case hSx125 => assumption); (case hYx125 => (refine Or.inl ⟨rfl, ?hyx125⟩; intro w hSw; (try dsimp only at hSw); go_simp; (try with_reducible rfl))); (case hQx125 => exact (fun _ _ _ h => h)); (try simp only [Act.put, List.setIfInBounds_toArray, List.set_cons_zero, List.set_cons_succ]))
            (refine wpAnyL_take (n := 0) (i := 32) (oi := ?ox126) (v := ?vx126) ?hix126 ?k1x126 ?k2x126 ?k3x126 ?k4x126 ?k5x126 ?k6x126 ?hQx126 ?hYx126 ?hSx126 ?restx126; (case hix126 => (simp only [List.getElem?_toArray, List.getElem?_cons_succ, List.getElem?_cons_zero]; exact rfl)); (case k1x126 => kernel_rfl); (case k2x126 => kernel_rfl); (case k3x126 => kernel_rfl); (case k4x126 => kernel_rfl); (case k5x126 => kernel_rfl); (case k6x126 => kernel_rfl); (case hSx126 => assumption); (case hYx126 => (refine Or.inl ⟨rfl, ?hyx126⟩; intro w hSw; (try dsimp only at hSw); go_simp; (try with_reducible rfl))); (case hQx126 => exact (fun _ _ _ h => h)); (try simp only [Act.put, List.setIfInBounds_toArray, List.set_cons_zero, List.set_cons_succ]))
            (refine wpAnyL_take (n := 0) (i := 33) (oi := ?ox127) (v := ?vx127) ?hix127 ?k1x127 ?k2x127 ?k3x127 ?k4x127 ?k5x127 ?k6x127 ?hQx127 ?hYx127 ?hSx127 ?restx127; (case hix127 => (simp only [List.getElem?_toArray, List.getElem?_cons_succ, List.getElem?_cons_zero]; exact rfl)); (case k1x127 => kernel_rfl); (case k2x127 => kernel_rfl); (case k3x127 => kernel_rfl); (case k4x127 => kernel_rfl); (case k5x127 => kernel_rfl); (case k6x127 => kernel_rfl); (case hSx127 => assumption); (case hYx127 => (refine Or.inl ⟨rfl, ?hyx127⟩; intro w hSw; (try dsimp only at hSw); go_simp; (try with_reducible rfl))); (case hQx127 => exact (fun _ _ _ h => h)); (try simp only [Act.put, List.setIfInBounds_toArray, List.set_cons_zero, List.set_cons_succ]))
            refine wpAnyL_ready (rs := [34]) (by kernel_rfl) (by simp) ?_
            refine AllReadyL.cons (o := ?o34x128) ?hi34x128 (fun K hK => ?_) AllReadyL.nil
            (case hi34x128 => (simp only [List.getElem?_toArray, List.getElem?_cons_succ, List.getElem?_cons_zero]; exact rfl))
            go_simp
            go_at_call 18
            refine (HAW.out _).mono ?_
            rintro e w1 ⟨rfl, hb9⟩
            have t0 := below_tr HB.out hb9; have t1 := below_tr HBC.out hb9
            clear HB HBC
            have HB := Lib.hid t0; have HBC := Lib.hid t1
            clear t0 t1
            clear hb9 
            (try go_wp2_with fail)
            (try clear hHeld)
            refine hK.out _ _ (by (try dsimp only); exact HS.out _ HBC.out) (fun hHeld => ?_)
            clear hK K
            (try simp only [Act.put, List.setIfInBounds_toArray, List.set_cons_zero, List.set_cons_succ])
            (refine wpAnyL_take (n := 0) (i := 35) (oi := ?ox129) (v := ?vx129) ?hix129 ?k1x129 ?k2x129 ?k3x129 ?k4x129 ?k5x129 ?k6x129 ?hQx129 ?hYx129 ?hSx129 ?restx129; (case hix129 => (simp only [List.getElem?_toArray, List.getElem?_cons_succ, List.getElem?_cons_zero]; exact rfl)); (case k1x129 => kernel_rfl); (case k2x129 => kernel_rfl); (case k3x129 => kernel_rfl); (case k4x129 => kernel_rfl); (case k5x129 => kernel_rfl); (case k6x129 => kernel_rfl); (case hSx129 => assumption); (case hYx129 => (refine Or.inl ⟨rfl, ?hyx129⟩; intro w hSw; (try dsimp only at hSw); go_simp; (try with_reducible rfl))); (case hQx129 => exact (fun _ _ _ h => h)); (try simp only [Act.put, List.setIfInBounds_toArray, List.set_cons_zero, List.set_cons_succ]))
            (refine wpAnyL_take (n := 0) (i := 36) (oi := ?ox130) (v := ?vx130) ?hix130 ?k1x130 ?k2x130 ?k3x130 ?k4x130 ?k5x130 ?k6x130 ?hQx130 ?hYx130 ?hSx130 ?restx130; (case hix130 => (simp only [List.getElem?_toArray, List.getElem?_cons_succ, List.getElem?_cons_zero]; exact rfl)); (case k1x130 => kernel_rfl); (case k2x130 => kernel_rfl); (case k3x130 => kernel_rfl); (case k4x130 => kernel_rfl); (case k5x130 => kernel_rfl); (case k6x130 => kernel_rfl); (case hSx130 => assumption); (case hYx130 => (refine Or.inl ⟨rfl, ?hyx130⟩; intro w hSw; (try dsimp only at hSw); go_simp; (try with_reducible rfl))); (case hQx130 => exact (fun _ _ _ h => h)); (try simp only [Act.put, List.setIfInBounds_toArray, List.set_cons_zero, List.set_cons_succ]))
            (refine wpAnyL_done (by kernel_rfl) ?_ _)
            go_wp2_with fail
            go_ret
            exact ⟨rfl, HB.out⟩
          · have hle := (HT5.out hzm).2
            have hle2 : ¬ z.frm < y.frm := by omega
            rw [hym] at c0; rw [hzm] at d0
            clear hym hzm
            have HS := Lib.hid (fun (U : World) (hU : Below w1.heap.size w1 U) => show U.cell? ⟨b, o, none⟩ = some (.bool true) ∧ U.cell? ⟨b, o + 1, none⟩ = some (.int .i64 y.height) ∧ U.cell? ⟨b, o + 2, none⟩ = some (.int .i64 y.frm) ∧ U.cell? ⟨b, o + 3, none⟩ = some (.bool true) ∧ U.cell? ⟨b, o + 3 + 1, none⟩ = some (.int .i64 z.height) ∧ U.cell? ⟨b, o + 3 + 2, none⟩ = some (.int .i64 z.frm) from ⟨bel_keep hU c0, bel_keep hU c1, bel_keep hU c2, bel_keep hU d0, bel_keep hU d1, bel_keep hU d2⟩)
            have HBC := Lib.hid (Below.refl w1.heap.size w1)
            go_upto_region 7 with fail
            clear c0 c1 c2 d0 d1 d2
            refine wp_region_till [] (fun U => U.cell? ⟨b, o, none⟩ = some (.bool true) ∧ U.cell? ⟨b, o + 1, none⟩ = some (.int .i64 y.height) ∧ U.cell? ⟨b, o + 2, none⟩ = some (.int .i64 y.frm) ∧ U.cell? ⟨b, o + 3, none⟩ = some (.bool true) ∧ U.cell? ⟨b, o + 3 + 1, none⟩ = some (.int .i64 z.height) ∧ U.cell? ⟨b, o + 3 + 2, none⟩ = some (.int .i64 z.frm)) (by kernel_rfl) (by exact HS.out _ HBC.out.drew) (fun hHeld => ?_)
            have hb9 := (Below.refl w1.heap.size w1).drew
            have t0 := below_tr HB.out hb9; have t1 := below_tr HBC.out hb9
            clear HB HBC
            have HB := Lib.hid t0; have HBC := Lib.hid t1
            clear t0 t1
            clear hb9
            revert hHeld HB HBC
            generalize w1.drew = w0
            intro hHeld HB HBC
            (refine wpAnyL_take (n := 0) (i := 0) (oi := ?ox131) (v := ?vx131) ?hix131 ?k1x131 ?k2x131 ?k3x131 ?k4x131 ?k5x131 ?k6x131 ?hQx131 ?hYx131 ?hSx131 ?restx131; (case hix131 => (simp only [List.getElem?_toArray, List.getElem?_cons_succ, List.getElem?_cons_zero]; exact rfl)); (case k1x131 => kernel_rfl); (case k2x131 => kernel_rfl); (case k3x131 => kernel_rfl); (case k4x131 => kernel_rfl); (case k5x131 => kernel_rfl); (case k6x131 => kernel_rfl); (case hSx131 => assumption); (case hYx131 => (refine Or.inl ⟨rfl, ?hyx131⟩; intro w hSw; (try dsimp only at hSw); go_simp; (try with_reducible rfl))); (case hQx131 => exact (fun _ _ _ h => h)); (try simp only [Act.put, List.setIfInBounds_toArray, List.set_cons_zero, List.set_cons_succ]))
            (refine wpAnyL_take (n := 0) (i := 1) (oi := ?ox132) (v := ?vx132) ?hix132 ?k1x132 ?k2x132 ?k3x132 ?k4x132 ?k5x132 ?k6x132 ?hQx132 ?hYx132 ?hSx132 ?restx132; (case hix132 => (simp only [List.getElem?_toArray, List.getElem?_cons_succ, List.getElem?_cons_zero]; exact rfl)); (case k1x132 => kernel_rfl); (case k2x132 => kernel_rfl); (case k3x132 => kernel_rfl); (case k4x132 => kernel_rfl); (case k5x132 => kernel_rfl); (case k6x132 => kernel_rfl); (case hSx132 => assumption); (case hYx132 => (refine Or.inl ⟨rfl, ?hyx132⟩; intro w hSw; (try dsimp only at hSw); go_simp; (try with_reducible rfl))); (case hQx132 => exact (fun _ _ _ h => h)); (try simp only [Act.put, List.setIfInBounds_toArray, List.set_cons_zero, List.set_cons_succ]))
            (refine wpAnyL_take (n := 0) (i := 2) (oi := ?ox133) (v := ?vx133) ?hix133 ?k1x133 ?k2x133 ?k3x133 ?k4x133 ?k5x133 ?k6x133 ?hQx133 ?hYx133 ?hSx133 ?restx133; (case hix133 => (simp only [List.getElem?_toArray, List.getElem?_cons_succ, List.getElem?_cons_zero]; exact rfl)); (case k1x133 => kernel_rfl); (case k2x133 => kernel_rfl); (case k3x133 => kernel_rfl); (case k4x133 => kernel_rfl); (case k5x133 => kernel_rfl); (case k6x133 => kernel_rfl); (case hSx133 => assumption); (case hYx133 => (refine Or.inl ⟨rfl, ?hyx133⟩; intro w hSw; (try dsimp only at hSw); go_simp; (try with_reducible rfl))); (case hQx133 => exact (fun _ _ _ h => h)); (try simp only [Act.put, List.setIfInBounds_toArray, List.set_cons_zero, List.set_cons_succ]))
            (refine wpAnyL_take (n := 0) (i := 3) (oi := ?ox134) (v := ?vx134) ?hix134 ?k1x134 ?k2x134 ?k3x134 ?k4x134 ?k5x134 ?k6x134 ?hQx134 ?hYx134 ?hSx134 ?restx134; (case hix134 => (simp only [List.getElem?_toArray, List.getElem?_cons_succ, List.getElem?_cons_zero]; exact rfl)); (case k1x134 => kernel_rfl); (case k2x134 => kernel_rfl); (case k3x134 => kernel_rfl); (case k4x134 => kernel_rfl); (case k5x134 => kernel_rfl); (case k6x134 => kernel_rfl); (case hSx134 => assumption); (case hYx134 => (refine Or.inl ⟨rfl, ?hyx134⟩; intro w hSw; (try dsimp only at hSw); go_simp; (try with_reducible rfl))); (case hQx134 => exact (fun _ _ _ h => h)); (try simp only [Act.put, List.setIfInBounds_toArray, List.set_cons_zero, List.set_cons_succ]))
            (refine wpAnyL_take (n := 0) (i := 4) (oi := ?ox135) (v := ?vx135) ?hix135 ?k1x135 ?k2x135 ?k3x135 ?k4x135 ?k5x135 ?k6x135 ?hQx135 ?hYx135 ?hSx135 ?restx135; (case hix135 => (simp only [List.getElem?_toArray, List.getElem?_cons_succ, List.getElem?_cons_zero]; exact rfl)); (case k1x135 => kernel_rfl); (case k2x135 => kernel_rfl); (case k3x135 => kernel_rfl); (case k4x135 => kernel_rfl); (case k5x135 => kernel_rfl); (case k6x135 => kernel_rfl); (case hSx135 => assumption); (case hYx135 => (refine Or.inl ⟨rfl, ?hyx135⟩; intro w hSw; (try dsimp only at hSw); go_simp; (try with_reducible rfl))); (case hQx135 => exact (fun _ _ _ h => h)); (try simp only [Act.put, List.setIfInBounds_toArray, List.set_cons_zero, List.set_cons_succ]))
            (refine wpAnyL_take (n := 0) (i := 5) (oi := ?ox136) (v := ?vx136) ?hix136 ?k1x136 ?k2x136 ?k3x136 ?k4x136 ?k5x136 ?k6x136 ?hQx136 ?hYx136 ?hSx136 ?restx136; (case hix136 => (simp only [List.getElem?_toArray, List.getElem?_cons_succ, List.getElem?_cons_zero]; exact rfl)); (case k1x136 => kernel_rfl); (case k2x136 => kernel_rfl); (case k3x136 => kernel_rfl); (case k4x136 => kernel_rfl); (case k5x136 => kernel_rfl); (case k6x136 => kernel_rfl); (case hSx136 => assumption); (case hYx136 => (refine Or.inl ⟨rfl, ?hyx136⟩; intro w hSw; (try dsimp only at hSw); go_simp; (try with_reducible rfl))); (case hQx136 => exact (fun _ _ _ h => h)); (try simp only [Act.put, List.setIfInBounds_toArray, List.set_cons_zero, List.set_cons_succ]))
            (refine wpAnyL_take (n := 0) (i := 6) (oi := ?ox137) (v := ?vx137) ?hix137 ?k1x137 ?k2x137 ?k3x137 ?k4x137 ?k5x137 ?k6x137 ?hQx137 ?hYx137 ?hSx137 ?restx137; (case hix137 => (simp only [List.getElem?_toArray, List.getElem?_cons_succ, List.getElem?_cons_zero]; exact rfl)); (case k1x137 => kernel_rfl); (case k2x137 => kernel_rfl); (case k3x137 => kernel_rfl); (case k4x137 => kernel_rfl); (case k5x137 => kernel_rfl); (case k6x137 => kernel_rfl); (case hSx137 => assumption); (case hYx137 => (refine Or.inl ⟨rfl, ?hyx137⟩; intro w hSw; (try dsimp only at hSw); go_simp; (try with_reducible rfl))); (case hQx137 => exact (fun _ _ _ h => h)); (try simp only [Act.put, List.setIfInBounds_toArray, List.set_cons_zero, List.set_cons_succ]))
            (refine wpAnyL_take (n := 0) (i := 7) (oi := ?ox138) (v := ?vx138) ?hix138 ?k1x138 ?k2x138 ?k3x138 ?k4x138 ?k5x138 ?k6x138 ?hQx138 ?hYx138 ?hSx138 ?restx138; (case hix138 => (simp only [List.getElem?_toArray, List.getElem?_cons_succ, List.getElem?_cons_zero]; exact rfl)); (case k1x138 => kernel_rfl); (case k2x138 => kernel_rfl); (case k3x138 => kernel_rfl); (case k4x138 => kernel_rfl); (case k5x138 => kernel_rfl); (case k6x138 => kernel_rfl); (case hSx138 => assumption); (case hYx138 => (refine Or.inl ⟨rfl, ?hyx138⟩; intro w hSw; (try dsimp only at hSw); go_simp; (try with_reducible rfl))); (case hQx138 => exact (fun _ _ _ h => h)); (try simp only [Act.put, List.setIfInBounds_toArray, List.set_cons_zero, List.set_cons_succ]))
            (refine wpAnyL_take (n := 0) (i := 8) (oi := ?ox139) (v := ?vx139) ?hix139 ?k1x139 ?k2x139 ?k3x139 ?k4x139 ?k5x139 ?k6x139 ?hQx139 ?hYx139 ?hSx139 ?restx139; (case hix139 => (simp only [List.getElem?_toArray, List.getElem?_cons_succ, List.getElem?_cons_zero]; exact rfl)); (case k1x139 => kernel_rfl); (case k2x139 => kernel_rfl); (case k3x139 => kernel_rfl); (case k4x139 => kernel_rfl); (case k5x139 => kernel_rfl); (case k6x139 => kernel_rfl); (case hSx139 => assumption); (case hYx139 => (refine Or.inl ⟨rfl, ?hyx139⟩; intro w hSw; (try dsimp only at hSw); go_simp; (try with_reducible rfl))); (case hQx139 => exact (fun _ _ _ h => h)); (try simp only [Act.put, List.setIfInBounds_toArray, List.set_cons_zero, List.set_cons_succ]))
            (refine wpAnyL_take (n := 0) (i := 9) (oi := ?ox140) (v := ?vx140) ?hix140 ?k1x140 ?k2x140 ?k3x140 ?k4x140 ?k5x140 ?k6x140 ?hQx140 ?hYx140 ?hSx140 ?restx140; (case hix140 => (simp only [List.getElem?_toArray, List.getElem?_cons_succ, List.getElem?_cons_zero]; exact rfl)); (case k1x140 => kernel_rfl); (case k2x140 => kernel_rfl); (case k3x140 => kernel_rfl); (case k4x140 => kernel_rfl); (case k5x140 => kernel_rfl); (case k6x140 => kernel_rfl); (case hSx140 => assumption); (case hYx140 => (refine Or.inl ⟨rfl, ?hyx140⟩; intro w hSw; (try dsimp only at hSw); go_simp; (try with_reducible rfl))); (case hQx140 => exact (fun _ _ _ h => h)); (try simp only [Act.put, List.setIfInBounds_toArray, List.set_cons_zero, List.set_cons_succ]))
            (refine wpAnyL_take (n := 0) (i := 10) (oi := ?ox141) (v := ?vx141) ?hix141 ?k1x141 ?k2x141 ?k3x141 ?k4x141 ?k5x141 ?k6x141 ?hQx141 ?hYx141 ?hSx141 ?restx141; (case hix141 => (simp only [List.getElem?_toArray, List.getElem?_cons_succ, List.getElem?_cons_zero]; exact rfl)); (case k1x141 => kernel_rfl); (case k2x141 => kernel_rfl); (case k3x141 => kernel_rfl); (case k4x141 => kernel_rfl); (case k5x141 => kernel_rfl); (case k6x141 => kernel_rfl); (case hSx141 => assumption); (case hYx141 => (refine Or.inl ⟨rfl, ?hyx141⟩; intro w hSw; (try dsimp only at hSw); go_simp; (try with_reducible rfl))); (case hQx141 => exact (fun _ _ _ h => h)); (try simp only [Act.put, List.setIfInBounds_toArray, List.set_cons_zero, List.set_cons_succ]))
            (refine wpAnyL_take (n := 0) (i := 11) (oi := ?ox142) (v := ?vx142) ?hix142 ?k1x142 ?k2x142 ?k3x142 ?k4x142 ?k5x142 ?k6x142 ?hQx142 ?hYx142 ?hSx142 ?restx142; (case hix142 => (simp only [List.getElem?_toArray, List.getElem?_cons_succ, List.getElem?_cons_zero]; exact rfl)); (case k1x142 => kernel_rfl); (case k2x142 => kernel_rfl); (case k3x142 => kernel_rfl); (case k4x142 => kernel_rfl); (case k5x142 => kernel_rfl); (case k6x142 => kernel_rfl); (case hSx142 => assumption); (case hYx142 => (refine Or.inl ⟨rfl, ?hyx142⟩; intro w hSw; (try dsimp only at hSw); go_simp; (try with_reducible rfl))); (case hQx142 => exact (fun _ _ _ h => h)); (try simp only [Act.put, List.setIfInBounds_toArray, List.set_cons_zero, List.set_cons_succ]))
            (refine wpAnyL_take (n := 0) (i := 12) (oi := ?ox143) (v := ?vx143) ?hix143 ?k1x143 ?k2x143 ?k3x143 ?k4x143 ?k5x143 ?k6x143 ?hQx143 ?hYx143 ?hSx143 ?restx143; (case hix143 => (simp only [List.getElem?_toArray, List.getElem?_cons_succ, List.getElem?_cons_zero]; exact rfl)); (case k1x143 => kernel_rfl); (case k2x143 => kernel_rfl); (case k3x143 => kernel_rfl); (case k4x143 => kernel_rfl); (case k5x143 => kernel_rfl); (case k6x143 => kernel_rfl); (case hSx143 => assumption); (case hYx143 => (refine Or.inl ⟨rfl, ?hyx143⟩; intro w hSw; (try dsimp only at hSw); go_simp; (try with_reducible rfl))); (case hQx143 => exact (fun _ _ _ h => h)); (try simp only [Act.put, List.setIfInBounds_toArray, List.set_cons_zero, List.set_cons_succ]))
            (refine wpAnyL_take (n := 0) (i := 13) (oi := ?ox144) (v := ?vx144) ?hix144 ?k1x144 ?k2x144 ?k3x144 ?k4x144 ?k5x144 ?k6x144 ?hQx144 ?hYx144 ?hSx144 ?restx144; (case hix144 => (simp only [List.getElem?_toArray, List.getElem?_cons_succ, List.getElem?_cons_zero]; exact rfl)); (case k1x144 => kernel_rfl); (case k2x144 => kernel_rfl); (case k3x144 => kernel_rfl); (case k4x144 => kernel_rfl); (case k5x144 => kernel_rfl); (case k6x144 => kernel_rfl); (case hSx144 => assumption); (case hYx144 => (refine Or.inl ⟨rfl, ?hyx144⟩; intro w hSw; (try dsimp only at hSw); go_simp; (try with_reducible rfl))); (case hQx144 => exact (fun _ _ _ h => h)); (try simp only [Act.put, List.setIfInBounds_toArray, List.set_cons_zero, List.set_cons_succ]))
            (refine wpAnyL_take (n := 0) (i := 14) (oi := ?ox145) (v := ?vx145) ?hix145 ?k1x145 ?k2x145 ?k3x145 ?k4x145 ?k5x145 ?k6x145 ?hQx145 ?hYx145 ?hSx145 ?restx145; (case hix145 => (simp only [List.getElem?_toArray, List.getElem?_cons_succ, List.getElem?_cons_zero]; exact rfl)); (case k1x145 => kernel_rfl); (case k2x145 => kernel_rfl); (case k3x145 => kernel_rfl); (case k4x145 => kernel_rfl); (case k5x145 => kernel_rfl); (case k6x145 => kernel_rfl); (case hSx145 => assumption); (case hYx145 => (refine Or.inl ⟨rfl, ?hyx145⟩; intro w hSw; (try dsimp only at hSw); go_simp; (try with_reducible rfl))); (case hQx145 => exact (fun _ _ _ h => h)); (try simp only [Act.put, List.setIfInBounds_toArray, List.set_cons_zero, List.set_cons_succ]))
            (refine wpAnyL_take (n := 0) (i := 15) (oi := ?ox146) (v := ?vx146) ?hix146 ?k1x146 ?k2x146 ?k3x146 ?k4x146 ?k5x146 ?k6x146 ?hQx146 ?hYx146 ?hSx146 ?restx146; (case hix146 => (simp only [List.getElem?_toArray, List.getElem?_cons_succ, List.getElem?_cons_zero]; exact rfl)); (case k1x146 => kernel_rfl); (case k2x146 => kernel_rfl); (case k3x146 => kernel_rfl); (case k4x146 => kernel_rfl); (case k5x146 => kernel_rfl); (case k6x146 => kernel_rfl); (case hSx146 => assumption); (case hYx146 => (refine Or.inl ⟨rfl, ?hyx146⟩; intro w hSw; (try dsimp only at hSw); go_simp; (try with_reducible rfl))); (case hQx146 => exact (fun _ _ _ h => h)); (try simp only [Act.put, List.setIfInBounds_toArray, List.set_cons_zero, List.set_cons_succ]))
            (refine wpAnyL_take (n := 0) (i := 16) (oi := ?ox147) (v := ?vx147) ?hix147 ?k1x147 ?k2x147 ?k3x147 ?k4x147 ?k5x147 ?k6x147 ?hQx147 ?hYx147 ?hSx147 ?restx147; (case hix147 => (simp only [List.getElem?_toArray, List.getElem?_cons_succ, List.getElem?_cons_zero]; exact rfl)); (case k1x147 => kernel_rfl); (case k2x147 => kernel_rfl); (case k3x147 => kernel_rfl); (case k4x147 => kernel_rfl); (case k5x147 => kernel_rfl); (case k6x147 => kernel_rfl); (case hSx147 => assumption); (case hYx147 => (refine Or.inl ⟨rfl, ?hyx147⟩; intro w hSw; (try dsimp only at hSw); go_simp; (try with_reducible rfl))); (case hQx147 => exact (fun _ _ _ h => h)); (try simp only [Act.put, List.setIfInBounds_toArray, List.set_cons_zero, List.set_cons_succ]))
            (refine wpAnyL_take (n := 0) (i := 17) (oi := ?ox148) (v := ?vx148) ?hix148 ?k1x148 ?k2x148 ?k3x148 ?k4x148 ?k5x148 ?k6x148 ?hQx148 ?hYx148 ?hSx148 ?restx148; (case hix148 => (simp only [List.getElem?_toArray, List.getElem?_cons_succ, List.getElem?_cons_zero]; exact rfl)); (case k1x148 => kernel_rfl); (case k2x148 => kernel_rfl); (case k3x148 => kernel_rfl); (case k4x148 => kernel_rfl); (case k5x148 => kernel_rfl); (case k6x148 => kernel_rfl); (case hSx148 => assumption); (case hYx148 => (refine Or.inl ⟨rfl, ?hyx148⟩; intro w hSw; (try dsimp only at hSw); go_simp; (try with_reducible rfl))); (case hQx148 => exact (fun _ _ _ h => h)); (try simp only [Act.put, List.setIfInBounds_toArray, List.set_cons_zero, List.set_cons_succ]))
            (refine wpAnyL_take (n := 0) (i := 18) (oi := ?ox149) (v := ?vx149) ?hix149 ?k1x149 ?k2x149 ?k3x149 ?k4x149 ?k5x149 ?k6x149 ?hQx149 ?hYx149 ?hSx149 ?restx149; (case hix149 => (simp only [List.getElem?_toArray, List.getElem?_cons_succ, List.getElem?_cons_zero]; exact rfl)); (case k1x149 => kernel_rfl); (case k2x149 => kernel_rfl); (case k3x149 => kernel_rfl); (case k4x149 => kernel_rfl); (case k5x149 => kernel_rfl); (case k6x149 => kernel_rfl); (case hSx149 => assumption); (case hYx149 => (refine Or.inl ⟨rfl, ?hyx149⟩; intro w hSw; (try dsimp only at hSw); go_simp; (try with_reducible rfl))); (case hQx149 => exact (fun _ _ _ h => h)); (try simp only [Act.put, List.setIfInBounds_toArray, List.set_cons_zero, List.set_cons_succ]))
            (refine wpAnyL_take (n := 0) (i := 19) (oi := ?ox150) (v := ?vx150) ?hix150 ?k1x150 ?k2x150 ?k3x150 ?k4x150 ?k5x150 ?k6x150 ?hQx150 ?hYx150 ?hSx150 ?restx150; (case hix150 => (simp only [List.getElem?_toArray, List.getElem?_cons_succ, List.getElem?_cons_zero]; exact rfl)); (case k1x150 => kernel_rfl); (case k2x150 => kernel_rfl); (case k3x150 => kernel_rfl); (case k4x150 => kernel_rfl); (case k5x150 => kernel_rfl); (case k6x150 => kernel_rfl); (case hSx150 => assumption); (case hYx150 => (refine Or.inl ⟨rfl, ?hyx150⟩; intro w hSw; (try dsimp only at hSw); go_simp; (try with_reducible rfl))); (case hQx150 => exact (fun _ _ _ h => h)); (try simp only [Act.put, List.setIfInBounds_toArray, List.set_cons_zero, List.set_cons_succ]))
            (refine wpAnyL_take (n := 0) (i := 20) (oi := ?ox151) (v := ?vx151) ?hix151 ?k1x151 ?k2x151 ?k3x151 ?k4x151 ?k5x151 ?k6x151 ?hQx151 ?hYx151 ?hSx151 ?restx151; (case hix151 => (simp only [List.getElem?_toArray, List.getElem?_cons_succ, List.getElem?_cons_zero]; exact rfl)); (case k1x151 => kernel_rfl); (case k2x151 => kernel_rfl); (case k3x151 => kernel_rfl); (case k4x151 => kernel_rfl); (case k5x151 => kernel_rfl); (case k6x151 => kernel_rfl); (case hSx151 => assumption); (case hYx151 => (refine Or.inl ⟨rfl, ?hyx151⟩; intro w hSw; (try dsimp only at hSw); go_simp; (try with_reducible rfl))); (case hQx151 => exact (fun _ _ _ h => h)); (try simp only [Act.put, List.setIfInBounds_toArray, List.set_cons_zero, List.set_cons_succ]))
            (refine wpAnyL_take (n := 0) (i := 21) (oi := ?ox152) (v := ?vx152) ?hix152 ?k1x152 ?k2x152 ?k3x152 ?k4x152 ?k5x152 ?k6x152 ?hQx152 ?hYx152 ?hSx152 ?restx152; (case hix152 => (simp only [List.getElem?_toArray, List.getElem?_cons_succ, List.getElem?_cons_zero]; exact rfl)); (case k1x152 => kernel_rfl); (case k2x152 => kernel_rfl); (case k3x152 => kernel_rfl); (case k4x152 => kernel_rfl); (case k5x152 => kernel_rfl); (case k6x152 => kernel_rfl); (case hSx152 => assumption); (case hYx152 => (refine Or.inl ⟨rfl, ?hyx152⟩; intro w hSw; (try dsimp only at hSw); go_simp; (try with_reducible rfl))); (case hQx152 => exact (fun _ _ _ h => h)); (try simp only [Act.put, List.setIfInBounds_toArray, List.set_cons_zero, List.set_cons_succ]))
            (refine wpAnyL_take (n := 0) (i := 22) (oi := ?ox153) (v := ?vx153) ?hix153 ?k1x153 ?k2x153 ?k3x153 ?k4x153 ?k5x153 ?k6x153 ?hQx153 ?hYx153 ?hSx153 ?restx153; (case hix153 => (simp only [List.getElem?_toArray, List.getElem?_cons_succ, List.getElem?_cons_zero]; exact rfl)); (case k1x153 => kernel_rfl); (case k2x153 => kernel_rfl); (case k3x153 => kernel_rfl); (case k4x153 => kernel_rfl); (case k5x153 => kernel_rfl); (case k6x153 => kernel_rfl); (case hSx153 => assumption); (case hYx153 => (refine Or.inl ⟨rfl, ?hyx153⟩; intro w hSw; (try dsimp only at hSw); go_simp; (try with_reducible rfl))); (case hQx153 => exact (fun _ _ _ h => h)); (try simp only [Act.put, List.setIfInBounds_toArray, List.set_cons_zero, List.set_cons_succ]))
            (refine wpAnyL_take (n := 0) (i := 23) (oi := ?ox154) (v := ?vx154) ?hix154 ?k1x154 ?k2x154 ?k3x154 ?k4x154 ?k5x154 ?k6x154 ?hQx154 ?hYx154 ?hSx154 ?restx154; (case hix154 => (simp only [List.getElem?_toArray, List.getElem?_cons_succ, List.getElem?_cons_zero]; exact rfl)); (case k1x154 => kernel_rfl); (case k2x154 => kernel_rfl); (case k3x154 => kernel_rfl); (case k4x154 => kernel_rfl); (case k5x154 => kernel_rfl); (case k6x154 => kernel_rfl); (case hSx154 => assumption); (case hYx154 => (refine Or.inl ⟨rfl, ?hyx154⟩; intro w hSw; (try dsimp only at hSw); go_simp; (try with_reducible rfl))); (case hQx154 => exact (fun _ _ _ h => h)); (try simp only [Act.put, List.setIfInBounds_toArray, List.set_cons_zero, List.set_cons_succ]))
            (refine wpAnyL_take (n := 0) (i := 24) (oi := ?ox155) (v := ?vx155) ?hix155 ?k1x155 ?k2x155 ?k3x155 ?k4x155 ?k5x155 ?k6x155 ?hQx155 ?hYx155 ?hSx155 ?restx155; (case hix155 => (simp only [List.getElem?_toArray, List.getElem?_cons_succ, List.getElem?_cons_zero]; exact rfl)); (case k1x155 => kernel_rfl); (case k2x155 => kernel_rfl); (case k3x155 => kernel_rfl); (case k4x155 => kernel_rfl); (case k5x155 => kernel_rfl); (case k6x155 => kernel_rfl); (case hSx155 => assumption); (case hYx155 => (refine Or.inl ⟨rfl, ?hyx155⟩; intro w hSw; (try dsimp only at hSw); go_simp; (try with_reducible rfl))); (case hQx155 => exact (fun _ _ _ h => h)); (try simp only [Act.put, List.setIfInBounds_toArray, List.set_cons_zero, List.set_cons_succ]))
            (refine wpAnyL_take (n := 0) (i := 25) (oi := ?ox156) (v := ?vx156) ?hix156 ?k1x156 ?k2x156 ?k3x156 ?k4x156 ?k5x156 ?k6x156 ?hQx156 ?hYx156 ?hSx156 ?restx156; (case hix156 => (simp only [List.getElem?_toArray, List.getElem?_cons_succ, List.getElem?_cons_zero]; exact rfl)); (case k1x156 => kernel_rfl); (case k2x156 => kernel_rfl); (case k3x156 => kernel_rfl); (case k4x156 => kernel_rfl); (case k5x156 => kernel_rfl); (case k6x156 => kernel_rfl); (case hSx156 => assumption); (case hYx156 => (refine Or.inl ⟨rfl, ?hyx156⟩; intro w hSw; (try dsimp only at hSw); go_simp; (try with_reducible rfl))); (case hQx156 => exact (fun _ _ _ h => h)); (try simp only [Act.put, List.setIfInBounds_toArray, List.set_cons_zero, List.set_cons_succ]))
            (refine wpAnyL_take (n := 0) (i := 26) (oi := ?ox157) (v := ?vx157) ?hix157 ?k1x157 ?k2x157 ?k3x157 ?k4x157 ?k5x157 ?k6x157 ?hQx157 ?hYx157 ?hSx157 ?restx157; (case hix157 => (simp only [List.getElem?_toArray, List.getElem?_cons_succ, List.getElem?_cons_zero]; exact rfl)); (case k1x157 => kernel_rfl); (case k2x157 => kernel_rfl); (case k3x157 => kernel_rfl); (case k4x157 => kernel_rfl); (case k5x157 => kernel_rfl); (case k6x157 => kernel_rfl); (case hSx157 => assumption); (case hYx157 => (refine Or.inl ⟨rfl, ?hyx157⟩; intro w hSw; (try dsimp only at hSw); go_simp; (try with_reducible rfl))); (case hQx157 => exact (fun _ _ _ h => h)); (try simp only [Act.put, List.setIfInBounds_toArray, List.set_cons_zero, List.set_cons_succ]))
            (refine wpAnyL_take (n := 0) (i := 27) (oi := ?ox158) (v := ?vx158) ?hix158 ?k1x158 ?k2x158 ?k3x158 ?k4x158 ?k5x158 ?k6x158 ?hQx158 ?hYx158 ?hSx158 ?restx158; (case hix158 => (simp only [List.getElem?_toArray, List.getElem?_cons_succ, List.getElem?_cons_zero]; exact rfl)); (case k1x158 => kernel_rfl); (case k2x158 => kernel_rfl); (case k3x158 => kernel_rfl); (case k4x158 => kernel_rfl); (case k5x158 => kernel_rfl); (case k6x158 => kernel_rfl); (case hSx158 => assumption); (case hYx158 => (refine Or.inl ⟨rfl, ?hyx158⟩; intro w hSw; (try dsimp only at hSw); go_simp; (try with_reducible rfl))); (case hQx158 => exact (fun _ _ _ h => h)); (try simp only [Act.put, List.setIfInBounds_toArray, List.set_cons_zero, List.set_cons_succ]))
            (refine wpAnyL_take (n := 0) (i := 28) (oi := ?ox159) (v := ?vx159) ?hix159 ?k1x159 ?k2x159 ?k3x159 ?k4x159 ?k5x159 ?k6x159 ?hQx159 ?hYx159 ?hSx159 ?restx159; (case hix159 => (simp only [List.getElem?_toArray, List.getElem?_cons_succ, List.getElem?_cons_zero]; exact rfl)); (case k1x159 => kernel_rfl); (case k2x159 => kernel_rfl); (case k3x159 => kernel_rfl); (case k4x159 => kernel_rfl); (case k5x159 => kernel_rfl); (case k6x159 => kernel_rfl); (case hSx159 => assumption); (case hYx159 => (refine Or.inl ⟨rfl, ?hyx159⟩; intro w hSw; (try dsimp only at hSw); go_simp; (try with_reducible rfl))); (case hQx159 => exact (fun _ _ _ h => h)); (try simp only [Act.put, List.setIfInBounds_toArray, List.set_cons_zero, List.set_cons_succ]))
            (refine wpAnyL_take (n := 0) (i := 29) (oi := ?ox160) (v := ?vx160) ?hix160 ?k1x160 ?k2x160 ?k3x160 ?k4x160 ?k5x160 ?k6x160 ?hQx160 ?hYx160 ?hSx160 ?restx160; (case hix160 => (simp only [List.getElem?_toArray, List.getElem?_cons_succ, List.getElem?_cons_zero]; exact rfl)); (case k1x160 => kernel_rfl); (case k2x160 => kernel_rfl); (case k3x160 => kernel_rfl); (case k4x160 => kernel_rfl); (case k5x160 => kernel_rfl); (case k6x160 => kernel_rfl); (case hSx160 => assumption); (case hYx160 => (refine Or.inl ⟨rfl, ?hyx160⟩; intro w hSw; (try dsimp only at hSw); go_simp; (try with_reducible rfl))); (case hQx160 => exact (fun _ _ _ h => h)); (try simp only [Act.put, List.setIfInBounds_toArray, List.set_cons_zero, List.set_cons_succ]))
            (refine wpAnyL_take (n := 0) (i := 30) (oi := ?ox161) (v := ?vx161) ?hix161 ?k1x161 ?k2x161 ?k3x161 ?k4x161 ?k5x161 ?k6x161 ?hQx161 ?hYx161 ?hSx161 ?restx161; (case hix161 => (simp only [List.getElem?_toArray, List.getElem?_cons_succ, List.getElem?_cons_zero]; exact rfl)); (case k1x161 => kernel_rfl); (case k2x161 => kernel_rfl); (case k3x161 => kernel_rfl); (case k4x161 => kernel_rfl); (case k5x161 => kernel_rfl); (case k6x161 => kernel_rfl); (case hSx161 => assumption); (case hYx161 => (refine Or.inl ⟨rfl, ?hyx161⟩; intro w hSw; (try dsimp only at hSw); go_simp; (try with_reducible rfl))); (case hQx161 => exact (fun _ _ _ h => h)); (try simp only [Act.put, List.setIfInBounds_toArray, List.set_cons_zero, List.set_cons_succ]))
            (refine wpAnyL_take (n := 0) (i := 31) (oi := ?ox162) (v := ?vx162) ?hix162 ?k1x162 ?k2x162 ?k3x162 ?k4x162 ?k5x162 ?k6x162 ?hQx162 ?hYx162 ?hSx162 ?restx162; (case hix162 => (simp only [List.getElem?_toArray, List.getElem?_cons_succ, List.getElem?_cons_zero]; exact rfl)); (case k1x162 => kernel_rfl); (case k2x162 => kernel_rfl); (case k3x162 => kernel_rfl); (case k4x162 => kernel_rfl); (case k5x162 => kernel_rfl); (case k6x162 => kernel_rfl); (case hSx162 => assumption); (case hYx162 => (refine Or.inl ⟨rfl, ?hyx162⟩; intro w hSw; (try dsimp only at hSw); go_simp; (try with_reducible rfl))); (case hQx162 => exact (fun _ _ _ h => h)); (try simp only [Act.put, List.setIfInBounds_toArray, List.set_cons_zero, List.set_cons_succ]))
            (refine wpAnyL_take (n := 0) (i := 32) (oi := ?ox163) (v := ?vx163) ?hix163 ?k1x163 ?k2x163 ?k3x163 ?k4x163 ?k5x163 ?k6x163 ?hQx163 ?hYx163 ?hSx163 ?restx163; (case hix163 => (simp only [List.getElem?_toArray, List.getElem?_cons_succ, List.getElem?_cons_zero]; exact rfl)); (case k1x163 => kernel_rfl); (case k2x163 => kernel_rfl); (case k3x163 => kernel_rfl); (case k4x163 => kernel_rfl); (case k5x163 => kernel_rfl); (case k6x163 => kernel_rfl); (case hSx163 => assumption); (case hYx163 => (refine Or.inl ⟨rfl, ?hyx163⟩; intro w hSw; (try dsimp only at hSw); go_simp; (try with_reducible rfl))); (case hQx163 => exact (fun _ _ _ h => h)); (try simp only [Act.put, List.setIfInBounds_toArray, List.set_cons_zero, List.set_cons_succ]))
            (refine wpAnyL_take (n := 0) (i := 33) (oi := ?ox164) (v := ?vx164) ?hix164 ?k1x164 ?k2x164 ?k3x164 ?k4x164 ?k5x164 ?k6x164 ?hQx164 ?hYx164 ?hSx164 ?restx164; (case hix164 => (simp only [List.getElem?_toArray, List.getElem?_cons_succ, List.getElem?_cons_zero]; exact rfl)); (case k1x164 => kernel_rfl); (case k2x164 => kernel_rfl); (case k3x164 => kernel_rfl); (case k4x164 => kernel_rfl); (case k5x164 => kernel_rfl); (case k6x164 => kernel_rfl); (case hSx164 => assumption); (case hYx164 => (refine Or.inl ⟨rfl, ?hyx164⟩; intro w hSw; (try dsimp only at hSw); go_simp; (try with_reducible rfl))); (case hQx164 => exact (fun _ _ _ h => h)); (try simp only [Act.put, List.setIfInBounds_toArray, List.set_cons_zero, List.set_cons_succ]))
            refine wpAnyL_ready (rs := [34]) (by kernel_rfl) (by simp) ?_
            refine AllReadyL.cons (o := ?o34x165) ?hi34x165 (fun K hK => ?_) AllReadyL.nil
            (case hi34x165 => (simp only [List.getElem?_toArray, List.getElem?_cons_succ, List.getElem?_cons_zero]; exact rfl))
            go_simp
            go_at_call 18
            refine (HAW.out _).mono ?_
            rintro e w1 ⟨rfl, hb9⟩
            have t0 := below_tr HB.out hb9; have t1 := below_tr HBC.out hb9
            clear HB HBC
            have HB := Lib.hid t0; have HBC := Lib.hid t1
            clear t0 t1
            clear hb9 
            (try go_wp2_with fail)
            (try clear hHeld)
            refine hK.out _ _ (by (try dsimp only); exact HS.out _ HBC.out) (fun hHeld => ?_)
            clear hK K
            (try simp only [Act.put, List.setIfInBounds_toArray, List.set_cons_zero, List.set_cons_succ])
            (refine wpAnyL_take (n := 0) (i := 35) (oi := ?ox166) (v := ?vx166) ?hix166 ?k1x166 ?k2x166 ?k3x166 ?k4x166 ?k5x166 ?k6x166 ?hQx166 ?hYx166 ?hSx166 ?restx166; (case hix166 => (simp only [List.getElem?_toArray, List.getElem?_cons_succ, List.getElem?_cons_zero]; exact rfl)); (case k1x166 => kernel_rfl); (case k2x166 => kernel_rfl); (case k3x166 => kernel_rfl); (case k4x166 => kernel_rfl); (case k5x166 => kernel_rfl); (case k6x166 => kernel_rfl); (case hSx166 => assumption); (case hYx166 => (refine Or.inl ⟨rfl, ?hyx166⟩; intro w hSw; (try dsimp only at hSw); go_simp; (try with_reducible rfl))); (case hQx166 => exact (fun _ _ _ h => h)); (try simp only [Act.put, List.setIfInBounds_toArray, List.set_cons_zero, List.set_cons_succ]))
            (refine wpAnyL_take (n := 0) (i := 36) (oi := ?ox167) (v := ?vx167) ?hix167 ?k1x167 ?k2x167 ?k3x167 ?k4x167 ?k5x167 ?k6x167 ?hQx167 ?hYx167 ?hSx167 ?restx167; (case hix167 => (simp only [List.getElem?_toArray, List.getElem?_cons_succ, List.getElem?_cons_zero]; exact rfl)); (case k1x167 => kernel_rfl); (case k2x167 => kernel_rfl); (case k3x167 => kernel_rfl); (case k4x167 => kernel_rfl); (case k5x167 => kernel_rfl); (case k6x167 => kernel_rfl); (case hSx167 => assumption); (case hYx167 => (refine Or.inl ⟨rfl, ?hyx167⟩; intro w hSw; (try dsimp only at hSw); go_simp; (try with_reducible rfl))); (case hQx167 => exact (fun _ _ _ h => h)); (try simp only [Act.put, List.setIfInBounds_toArray, List.set_cons_zero, List.set_cons_succ]))
            (refine wpAnyL_done (by kernel_rfl) ?_ _)
            go_wp2_with fail
            go_ret
            exact ⟨rfl, HB.out⟩
    · have e1 : (errH r [x] != 0) = true := by simpa using he
      go_enter Try.func10, Try.ntmps10
      go_upto_region 1 with fail
      rw [← HWW.out]
      obtain ⟨x0, x1, x2, x3, x4, x5, x6, x7, x8, x9⟩ := HXL.out _ HQ.out
      go_wp2_with fail
      go_at_call 28
      refine (HRY.out _ HB.out).mono ?_
      rintro e w1 ⟨rfl, hb9⟩
      have t0 := below_tr HB.out hb9; have t1 := below_tr HQ.out hb9
      clear HB HQ
      have HB := Lib.hid t0; have HQ := Lib.hid t1
      clear t0 t1
      clear hb9 
      clear x0 x1 x2 x3 x4 x5 x6 x7 x8 x9
      obtain ⟨y0, y1, y2⟩ := HXR.out _ HQ.out; obtain ⟨z0, z1, z2⟩ := HXH.out _ HQ.out
      go_wp2_with fail
      go_at_call 46
      refine (HHO.out _).mono ?_
      rintro e w2 ⟨rfl, hb9⟩
      have hb9 := below_tr ((Below.refl w1.heap.size w1).alloc (Nat.le_refl _) (.cells #[.int .i64 x.far, .int .i64 x.high, .int .i64 x.wide] 99)) hb9
      have t0 := below_tr HB.out hb9; have t1 := below_tr HQ.out hb9
      clear HB HQ
      have HB := Lib.hid t0; have HQ := Lib.hid t1
      clear t0 t1
      clear hb9 
      clear y0 y1 y2 z0 z1 z2
      go_wp2_with fail
      go_at_call 18
      refine (HAW.out _).mono ?_
      rintro e w1 ⟨rfl, hb9⟩
      have t0 := below_tr HB.out hb9; have t1 := below_tr HQ.out hb9
      clear HB HQ
      have HB := Lib.hid t0; have HQ := Lib.hid t1
      clear t0 t1
      clear hb9 
      go_wp2_with fail
      go_ret
      exact ⟨rfl, HB.out⟩
end
end Go.Proofs.Ytpijmfbpdglchaa
