/- THE CONTRACT of the law's Real: new lists that read as the old ones. -/
import Derived.Test.YtpijmfbpdglchaaKTool
import Derived.Test.YtpijmfbpdglchaaKLakeC
import Derived.Test.YtpijmfbpdglchaaKConv
import Derived.Test.YtpijmfbpdglchaaKFits
set_option linter.unusedVariables false
set_option linter.unusedSimpArgs false
namespace Go.Proofs.Ytpijmfbpdglchaa
open Go.RowKit Go.Proofs
attribute [local go_sem ↓] Go.wp_at_zero Go.wp_at_succ
def RealP (w : World) (nF nS : Nat) (x : Rel) (e : Ending) (w' : World) : Prop := ∃ FA cF SA cS, e = .returned (.agg (xA FA nF cF SA nS cS x)) ∧ RdX w' FA nF SA nS x ∧ nF ≤ cF ∧ nS ≤ cS ∧ Below w.heap.size w w'
theorem blk_xA {U : World} {g : Nat} {t : TypeId} {FA SA : Option Addr} {nF cF nS cS : Nat} {x : Rel} (h : Blk U g t (xA FA nF cF SA nS cS x)) : U.cell? ⟨g, 0, none⟩ = some (.slice FA nF cF) ∧ U.cell? ⟨g, 1, none⟩ = some (.slice SA nS cS) ∧ U.cell? ⟨g, 2, none⟩ = some (.int .i64 x.start) ∧ U.cell? ⟨g, 3, none⟩ = some (.int .i64 x.soft) :=
  ⟨h.cell 0, h.cell 1, h.cell 2, h.cell 3⟩
theorem blk_lA {U : World} {g : Nat} {t : TypeId} {VA IA : Option Addr} {nV cV nI cI : Nat} {l : Lak} (h : Blk U g t (lA VA nV cV IA nI cI l)) : U.cell? ⟨g, 0, none⟩ = some (.slice VA nV cV) ∧ U.cell? ⟨g, 1, none⟩ = some (.int .i64 l.crest) ∧ U.cell? ⟨g, 2, none⟩ = some (.int .i64 l.weak) ∧ U.cell? ⟨g, 3, none⟩ = some (.int .i64 l.soft.1) ∧ U.cell? ⟨g, 4, none⟩ = some (.int .i64 l.soft.2) ∧ U.cell? ⟨g, 5, none⟩ = some (.int .i64 l.start.1) ∧ U.cell? ⟨g, 6, none⟩ = some (.int .i64 l.start.2) ∧ U.cell? ⟨g, 7, none⟩ = some (.int .i64 l.seep.1) ∧ U.cell? ⟨g, 8, none⟩ = some (.int .i64 l.seep.2) ∧ U.cell? ⟨g, 9, none⟩ = some (.slice IA nI cI) :=
  ⟨h.cell 0, h.cell 1, h.cell 2, h.cell 3, h.cell 4, h.cell 5, h.cell 6, h.cell 7, h.cell 8, h.cell 9⟩
theorem and10 {a b c d e f g h i j k : Prop} (h1 : a ∧ b ∧ c ∧ d ∧ e ∧ f ∧ g ∧ h ∧ i ∧ j) (h2 : k) : a ∧ b ∧ c ∧ d ∧ e ∧ f ∧ g ∧ h ∧ i ∧ j ∧ k :=
  ⟨h1.1, h1.2.1, h1.2.2.1, h1.2.2.2.1, h1.2.2.2.2.1, h1.2.2.2.2.2.1, h1.2.2.2.2.2.2.1, h1.2.2.2.2.2.2.2.1, h1.2.2.2.2.2.2.2.2.1, h1.2.2.2.2.2.2.2.2.2, h2⟩
section
variable {FA SA : Option Addr} {nF nS cF cS : Nat} {x : Rel} {w : World}
set_option maxRecDepth 100000 in
set_option maxHeartbeats 4000000 in
theorem Real_c (h : RdX w FA nF SA nS x) (hF : nF ≤ 1000000) (hS : nS ≤ 1000000) :
    Calls Try.prog 40 #[.agg (xA FA nF cF SA nS cS x)] w (RealP w nF nS x) := by
  obtain ⟨W, hW⟩ : ∃ W, W = ((w.alloc (.cells (xA FA nF cF SA nS cS x) 75)).alloc (.cells (xA none 0 0 none 0 0 ⟨[], [], 0, 0⟩) 77)) := ⟨_, rfl⟩
  have hb : Below w.heap.size w W := by rw [hW]; exact ((Below.refl _ _).alloc (Nat.le_refl _) _).alloc (by simp) _
  have hX := (Blk.new w 75 (xA FA nF cF SA nS cS x)).alloc (.cells (xA none 0 0 none 0 0 ⟨[], [], 0, 0⟩) 77)
  have hY := Blk.new (w.alloc (.cells (xA FA nF cF SA nS cS x) 75)) 77 (xA none 0 0 none 0 0 ⟨[], [], 0, 0⟩)
  simp only [World.size_alloc] at hY
  rw [← hW] at hX hY
  have HB := Lib.hid hb; have HW := Lib.hid hW; have HY := Lib.hid hY
  have HLF := Lib.hid (fun (U : World) (hU : Below W.heap.size W U) => list_c (c := cF) (h.infl.below (HB.out.trans (hU.mono hb.size))) hF)
  have HLS := Lib.hid (fun (U : World) (hU : Below W.heap.size W U) => list_c (c := cS) (h.seep.below (HB.out.trans (hU.mono hb.size))) hS)
  have pc : ∀ i, W.cell? ⟨w.heap.size, i, none⟩ = (xA FA nF cF SA nS cS x)[i]? := fun i => hX.cell i
  have p0 := pc 0; have p1 := pc 1; have p2 := pc 2; have p3 := pc 3
  simp at p0 p1 p2 p3
  have HS := Lib.hid (fun (U : World) (hU : Below W.heap.size W U) => show U.cell? ⟨w.heap.size, 0, none⟩ = some (.slice FA nF cF) ∧ U.cell? ⟨w.heap.size, 1, none⟩ = some (.slice SA nS cS) ∧ U.cell? ⟨w.heap.size, 2, none⟩ = some (.int .i64 x.start) ∧ U.cell? ⟨w.heap.size, 3, none⟩ = some (.int .i64 x.soft) from
    ⟨bel_keep hU p0, bel_keep hU p1, bel_keep hU p2, bel_keep hU p3⟩)
  have hWw : w.heap.size < W.heap.size := hX.lt
  have HFL := Lib.hid h.infl.len; have HSL := Lib.hid h.seep.len
  clear hb hW hX hY pc h p0 p1 p2 p3
  have HBC := Lib.hid (Below.refl W.heap.size W)
  go_enter Try.func40, Try.ntmps40
  go_upto_region 1 with fail
  rw [← HW.out]
  refine wp_region_till [11] (fun U => U.cell? ⟨w.heap.size, 0, none⟩ = some (.slice FA nF cF) ∧ U.cell? ⟨w.heap.size, 1, none⟩ = some (.slice SA nS cS) ∧ U.cell? ⟨w.heap.size, 2, none⟩ = some (.int .i64 x.start) ∧ U.cell? ⟨w.heap.size, 3, none⟩ = some (.int .i64 x.soft)) (by kernel_rfl) (by exact HS.out _ HBC.out.drew) (fun hHeld => ?_)
  have hb0 := HBC.out.drew; clear HBC; have HBC := Lib.hid hb0; clear hb0
  (refine wpAnyL_take (n := 0) (i := 0) (oi := ?ox1) (v := ?vx1) ?hix1 ?k1x1 ?k2x1 ?k3x1 ?k4x1 ?k5x1 ?k6x1 ?hQx1 ?hYx1 ?hSx1 ?restx1; (case hix1 => (simp only [List.getElem?_toArray, List.getElem?_cons_succ, List.getElem?_cons_zero]; exact rfl)); (case k1x1 => kernel_rfl); (case k2x1 => kernel_rfl); (case k3x1 => kernel_rfl); (case k4x1 => kernel_rfl); (case k5x1 => kernel_rfl); (case k6x1 => kernel_rfl); (case hSx1 => assumption); (case hYx1 => (refine Or.inl ⟨rfl, ?hyx1⟩; intro w hSw; (try dsimp only at hSw); go_simp; (try with_reducible rfl))); (case hQx1 => exact (fun _ _ _ h => h)); (try simp only [Act.put, List.setIfInBounds_toArray, List.set_cons_zero, List.set_cons_succ]))
  (refine wpAnyL_take (n := 0) (i := 1) (oi := ?ox2) (v := ?vx2) ?hix2 ?k1x2 ?k2x2 ?k3x2 ?k4x2 ?k5x2 ?k6x2 ?hQx2 ?hYx2 ?hSx2 ?restx2; (case hix2 => (simp only [List.getElem?_toArray, List.getElem?_cons_succ, List.getElem?_cons_zero]; exact rfl)); (case k1x2 => kernel_rfl); (case k2x2 => kernel_rfl); (case k3x2 => kernel_rfl); (case k4x2 => kernel_rfl); (case k5x2 => kernel_rfl); (case k6x2 => kernel_rfl); (case hSx2 => assumption); (case hYx2 => (refine Or.inl ⟨rfl, ?hyx2⟩; intro w hSw; (try dsimp only at hSw); go_simp; (try with_reducible rfl))); (case hQx2 => exact (fun _ _ _ h => h)); (try simp only [Act.put, List.setIfInBounds_toArray, List.set_cons_zero, List.set_cons_succ]))
  (refine wpAnyL_take (n := 0) (i := 3) (oi := ?ox3) (v := ?vx3) ?hix3 ?k1x3 ?k2x3 ?k3x3 ?k4x3 ?k5x3 ?k6x3 ?hQx3 ?hYx3 ?hSx3 ?restx3; (case hix3 => (simp only [List.getElem?_toArray, List.getElem?_cons_succ, List.getElem?_cons_zero]; exact rfl)); (case k1x3 => kernel_rfl); (case k2x3 => kernel_rfl); (case k3x3 => kernel_rfl); (case k4x3 => kernel_rfl); (case k5x3 => kernel_rfl); (case k6x3 => kernel_rfl); (case hSx3 => assumption); (case hYx3 => (refine Or.inl ⟨rfl, ?hyx3⟩; intro w hSw; (try dsimp only at hSw); go_simp; (try with_reducible rfl))); (case hQx3 => exact (fun _ _ _ h => h)); (try simp only [Act.put, List.setIfInBounds_toArray, List.set_cons_zero, List.set_cons_succ]))
  (refine wpAnyL_take (n := 0) (i := 4) (oi := ?ox4) (v := ?vx4) ?hix4 ?k1x4 ?k2x4 ?k3x4 ?k4x4 ?k5x4 ?k6x4 ?hQx4 ?hYx4 ?hSx4 ?restx4; (case hix4 => (simp only [List.getElem?_toArray, List.getElem?_cons_succ, List.getElem?_cons_zero]; exact rfl)); (case k1x4 => kernel_rfl); (case k2x4 => kernel_rfl); (case k3x4 => kernel_rfl); (case k4x4 => kernel_rfl); (case k5x4 => kernel_rfl); (case k6x4 => kernel_rfl); (case hSx4 => assumption); (case hYx4 => (refine Or.inl ⟨rfl, ?hyx4⟩; intro w hSw; (try dsimp only at hSw); go_simp; (try with_reducible rfl))); (case hQx4 => exact (fun _ _ _ h => h)); (try simp only [Act.put, List.setIfInBounds_toArray, List.set_cons_zero, List.set_cons_succ]))
  (refine wpAnyL_take (n := 0) (i := 6) (oi := ?ox5) (v := ?vx5) ?hix5 ?k1x5 ?k2x5 ?k3x5 ?k4x5 ?k5x5 ?k6x5 ?hQx5 ?hYx5 ?hSx5 ?restx5; (case hix5 => (simp only [List.getElem?_toArray, List.getElem?_cons_succ, List.getElem?_cons_zero]; exact rfl)); (case k1x5 => kernel_rfl); (case k2x5 => kernel_rfl); (case k3x5 => kernel_rfl); (case k4x5 => kernel_rfl); (case k5x5 => kernel_rfl); (case k6x5 => kernel_rfl); (case hSx5 => assumption); (case hYx5 => (refine Or.inl ⟨rfl, ?hyx5⟩; intro w hSw; (try dsimp only at hSw); go_simp; (try with_reducible rfl))); (case hQx5 => exact (fun _ _ _ h => h)); (try simp only [Act.put, List.setIfInBounds_toArray, List.set_cons_zero, List.set_cons_succ]))
  (refine wpAnyL_take (n := 0) (i := 7) (oi := ?ox6) (v := ?vx6) ?hix6 ?k1x6 ?k2x6 ?k3x6 ?k4x6 ?k5x6 ?k6x6 ?hQx6 ?hYx6 ?hSx6 ?restx6; (case hix6 => (simp only [List.getElem?_toArray, List.getElem?_cons_succ, List.getElem?_cons_zero]; exact rfl)); (case k1x6 => kernel_rfl); (case k2x6 => kernel_rfl); (case k3x6 => kernel_rfl); (case k4x6 => kernel_rfl); (case k5x6 => kernel_rfl); (case k6x6 => kernel_rfl); (case hSx6 => assumption); (case hYx6 => (refine Or.inl ⟨rfl, ?hyx6⟩; intro w hSw; (try dsimp only at hSw); go_simp; (try with_reducible rfl))); (case hQx6 => exact (fun _ _ _ h => h)); (try simp only [Act.put, List.setIfInBounds_toArray, List.set_cons_zero, List.set_cons_succ]))
  (refine wpAnyL_take (n := 0) (i := 8) (oi := ?ox7) (v := ?vx7) ?hix7 ?k1x7 ?k2x7 ?k3x7 ?k4x7 ?k5x7 ?k6x7 ?hQx7 ?hYx7 ?hSx7 ?restx7; (case hix7 => (simp only [List.getElem?_toArray, List.getElem?_cons_succ, List.getElem?_cons_zero]; exact rfl)); (case k1x7 => kernel_rfl); (case k2x7 => kernel_rfl); (case k3x7 => kernel_rfl); (case k4x7 => kernel_rfl); (case k5x7 => kernel_rfl); (case k6x7 => kernel_rfl); (case hSx7 => assumption); (case hYx7 => (refine Or.inl ⟨rfl, ?hyx7⟩; intro w hSw; (try dsimp only at hSw); go_simp; (try with_reducible rfl))); (case hQx7 => exact (fun _ _ _ h => h)); (try simp only [Act.put, List.setIfInBounds_toArray, List.set_cons_zero, List.set_cons_succ]))
  (refine wpAnyL_take (n := 0) (i := 9) (oi := ?ox8) (v := ?vx8) ?hix8 ?k1x8 ?k2x8 ?k3x8 ?k4x8 ?k5x8 ?k6x8 ?hQx8 ?hYx8 ?hSx8 ?restx8; (case hix8 => (simp only [List.getElem?_toArray, List.getElem?_cons_succ, List.getElem?_cons_zero]; exact rfl)); (case k1x8 => kernel_rfl); (case k2x8 => kernel_rfl); (case k3x8 => kernel_rfl); (case k4x8 => kernel_rfl); (case k5x8 => kernel_rfl); (case k6x8 => kernel_rfl); (case hSx8 => assumption); (case hYx8 => (refine Or.inl ⟨rfl, ?hyx8⟩; intro w hSw; (try dsimp only at hSw); go_simp; (try with_reducible rfl))); (case hQx8 => exact (fun _ _ _ h => h)); (try simp only [Act.put, List.setIfInBounds_toArray, List.set_cons_zero, List.set_cons_succ]))
  refine wpAnyL_ready (rs := [2]) (by kernel_rfl) (by simp) ?_
  refine AllReadyL.cons (o := ?o2x9) ?hi2x9 (fun K hK => ?_) AllReadyL.nil
  (case hi2x9 => (simp only [List.getElem?_toArray, List.getElem?_cons_succ, List.getElem?_cons_zero]; exact rfl))
  go_simp
  go_at_call 27
  refine (HLF.out _ HBC.out).mono ?_
  rintro e w1 ⟨FA', cF', rfl, hcF, hrF, hbn⟩
  have hsz := HBC.out.size
  have hb0 := HBC.out.trans (hbn.mono HBC.out.size)
  clear HBC
  have hr0 := own_weak (base := W.heap.size) hrF (Nat.le_trans (Nat.le_refl _) (by have := hsz; omega))
  have HBC := Lib.hid hb0; have HRF := Lib.hid hr0; have HCF := Lib.hid hcF
  clear hb0 hrF hbn hcF hsz hr0
  (try go_wp2_with fail)
  (try clear hHeld)
  refine hK.out _ _ (by (try dsimp only); exact HS.out _ HBC.out) (fun hHeld => ?_)
  clear hK K
  (try simp only [Act.put, List.setIfInBounds_toArray, List.set_cons_zero, List.set_cons_succ])
  refine wpAnyL_ready (rs := [5]) (by kernel_rfl) (by simp) ?_
  refine AllReadyL.cons (o := ?o5x10) ?hi5x10 (fun K hK => ?_) AllReadyL.nil
  (case hi5x10 => (simp only [List.getElem?_toArray, List.getElem?_cons_succ, List.getElem?_cons_zero]; exact rfl))
  go_simp
  go_at_call 27
  refine (HLS.out _ HBC.out).mono ?_
  rintro e w2 ⟨SA', cS', rfl, hcS, hrS, hbn⟩
  have hsz := HBC.out.size
  have hb0 := HBC.out.trans (hbn.mono HBC.out.size)
  clear HBC
  have hr0 := own_mono HRF.out hbn
  clear HRF
  have hr1 := own_weak (base := W.heap.size) hrS (by have := hsz; omega)
  have HBC := Lib.hid hb0; have HRS := Lib.hid hr1; have HCS := Lib.hid hcS; have HRF := Lib.hid hr0
  clear hb0 hrS hbn hcS hr0 hr1 hsz
  (try go_wp2_with fail)
  (try clear hHeld)
  refine hK.out _ _ (by (try dsimp only); exact HS.out _ HBC.out) (fun hHeld => ?_)
  clear hK K
  (try simp only [Act.put, List.setIfInBounds_toArray, List.set_cons_zero, List.set_cons_succ])
  (refine wpAnyL_take (n := 0) (i := 10) (oi := ?ox11) (v := ?vx11) ?hix11 ?k1x11 ?k2x11 ?k3x11 ?k4x11 ?k5x11 ?k6x11 ?hQx11 ?hYx11 ?hSx11 ?restx11; (case hix11 => (simp only [List.getElem?_toArray, List.getElem?_cons_succ, List.getElem?_cons_zero]; exact rfl)); (case k1x11 => kernel_rfl); (case k2x11 => kernel_rfl); (case k3x11 => kernel_rfl); (case k4x11 => kernel_rfl); (case k5x11 => kernel_rfl); (case k6x11 => kernel_rfl); (case hSx11 => assumption); (case hYx11 => (refine Or.inl ⟨rfl, ?hyx11⟩; intro w hSw; (try dsimp only at hSw); go_simp; (try with_reducible rfl))); (case hQx11 => exact (fun _ _ _ h => h)); (try simp only [Act.put, List.setIfInBounds_toArray, List.set_cons_zero, List.set_cons_succ]))
  refine wpAnyL_ready (rs := [11]) (by kernel_rfl) (by simp) ?_
  refine AllReadyL.last (o := ?o11x12) ?hi11x12 ?he11x12 (fun K hK => ?_) AllReadyL.nil
  (case hi11x12 => (simp only [List.getElem?_toArray, List.getElem?_cons_succ, List.getElem?_cons_zero]; exact rfl))
  (case he11x12 => kernel_rfl)
  have HZ := Lib.hid (HY.out.below HBC.out HY.out.lt)
  have rc := HZ.out.cell; have rf := HZ.out.frozen
  have r0 := rc 0; have r1 := rc 1; have r2 := rc 2; have r3 := rc 3
  simp at r0 r1 r2 r3
  have q0 := rf 0; have q1 := rf 1; have q2 := rf 2; have q3 := rf 3
  clear rc rf
  go_simp
  (try clear hHeld)
  refine hK.out _ _ ?_
  clear hK K
  (try simp only [Act.put, List.setIfInBounds_toArray, List.set_cons_zero, List.set_cons_succ])
  (refine wpAnyL_done (by kernel_rfl) ?_ _)
  have hWs : w.heap.size ≤ W.heap.size := HB.out.size
  have gF := own_weak (HRF.out.kept (grown_setCells (g := w.heap.size + 1) (xA FA' nF cF' SA' nS cS' x).toList 0 w2) (.inr (own_blk_ne HRF.out HZ.out (by decide)))) hWs
  have gS := own_weak (HRS.out.kept (grown_setCells (g := w.heap.size + 1) (xA FA' nF cF' SA' nS cS' x).toList 0 w2) (.inr (own_blk_ne HRS.out HZ.out (by decide)))) hWs
  have gB := below_setCells (B := w.heap.size) (g := w.heap.size + 1) (w0 := w) (by omega) (xA FA' nF cF' SA' nS cS' x).toList 0 w2 (HB.out.trans (HBC.out.mono hWs))
  have hBF := blk_setCells (xA FA' nF cF' SA' nS cS' x).toList 0 w2 [] _ (by simpa using HZ.out) rfl (by simp)
  simp only [xA, World.setCells, List.nil_append, Nat.reduceAdd] at hBF gF gS gB
  revert hBF gF gS gB
  generalize (World.setCell _ ⟨w.heap.size + 1, 3, none⟩ (Value.int IntKind.i64 x.soft)) = WF
  intro gF gS gB hBF
  have HG := Lib.hid (And.intro (RdX.mk (Rd.of_own enc1_len gF HFL.out) (Rd.of_own enc1_len gS HSL.out)) gB)
  clear gF gS gB
  go_wp2_with fail
  refine bodyPost_ret (v := .agg (xA FA' nF cF' SA' nS cS' x)) (results_cell_row (g := w.heap.size + 1) Try.results40 _ _ _ _ _ _ rfl hBF Try.underlying77 rfl (by kernel_rfl)) rfl ⟨FA', cF', SA', cS', rfl, HG.out.1, HCF.out, HCS.out, HG.out.2⟩
end
end Go.Proofs.Ytpijmfbpdglchaa
