/- CONTRACT of the reference's Fill. -/
import Derived.Test.YtpijmfbpdglchaaKRef6
import Derived.Test.YtpijmfbpdglchaaKRef5
import Derived.Test.YtpijmfbpdglchaaKFill
namespace Go.Proofs.Ytpijmfbpdglchaa
open Go.RowKit Go.Proofs
def FillR (w : World) (l : Lak) (ws : List Wrk) (c : List Int) (x : Rel) (e : Ending) (w' : World) : Prop := ∃ A cp N, e = .returned (.tuple #[.slice A N cp, .int .i64 (fillB l ws c x)]) ∧ N ≤ cp ∧ Rd enc1 1 w' A N (fillV l ws c x) ∧ Below w.heap.size w w'
section
variable {VA IA WA CA FA SA : Option Addr} {nV nI nW nC nF nS cV cI cW cC cF cS : Nat} {l : Lak} {ws : List Wrk} {c : List Int} {x : Rel} {w : World}
set_option maxRecDepth 100000 in
set_option maxHeartbeats 4000000 in
theorem rFill_c (hL : RdL w VA nV IA nI l) (hWk : Rd encW 3 w WA nW ws) (hC : Rd enc1 1 w CA nC c) (hX : RdX w FA nF SA nS x) (hok : LOk l) (hwk : WOk ws) (hcho : choB ws.length c = true) (hft : Fits l x) :
    Calls Try.prog 42 #[.agg (lA VA nV cV IA nI cI l), .slice WA nW cW, .slice CA nC cC, .agg (xA FA nF cF SA nS cS x)] w (FillR w l ws c x) := by
  have hil := hL.infl.len; have hfl := hX.infl.len; have hsl := hX.seep.len
  have h60 := hok.h
  obtain rfl : nF = nI := by have := hft.n; omega
  obtain rfl : nS = nF := by have := hft.m; omega
  have hsp := hok.seep
  obtain ⟨W, hW⟩ : ∃ W, W = ((w.alloc (.cells (lA VA nV cV IA nS cI l) 27)).alloc (.cells (xA FA nS cF SA nS cS x) 75)) := ⟨_, rfl⟩
  have hb : Below w.heap.size w W := by rw [hW]; exact ((Below.refl _ _).alloc (Nat.le_refl _) _).alloc (by simp) _
  have hB1 := (Blk.new w 27 (lA VA nV cV IA nS cI l)).alloc (.cells (xA FA nS cF SA nS cS x) 75)
  have hB2 := Blk.new (w.alloc (.cells (lA VA nV cV IA nS cI l) 27)) 75 (xA FA nS cF SA nS cS x)
  simp only [World.size_alloc] at hB2
  rw [← hW] at hB1 hB2
  have pc : ∀ i, W.cell? ⟨w.heap.size, i, none⟩ = (lA VA nV cV IA nS cI l)[i]? := fun i => hB1.cell i
  have qc : ∀ i, W.cell? ⟨w.heap.size + 1, i, none⟩ = (xA FA nS cF SA nS cS x)[i]? := fun i => hB2.cell i
  have p0 := pc 0; have p1 := pc 1; have p2 := pc 2; have p3 := pc 3; have p4 := pc 4; have p5 := pc 5; have p6 := pc 6; have p7 := pc 7; have p8 := pc 8; have p9 := pc 9
  have q0 := qc 0; have q1 := qc 1; have q2 := qc 2; have q3 := qc 3
  simp at p0 p1 p2 p3 p4 p5 p6 p7 p8 p9 q0 q1 q2 q3
  have HPU := Lib.hid (fun (U : World) (hU : Below W.heap.size W U) (k : Int) => rPumped_c (cW := cW) (cC := cC) (hWk.below (hb.trans (hU.mono hb.size))) (hC.below (hb.trans (hU.mono hb.size))) hwk hcho k)
  have HBO := Lib.hid (fun (U : World) (hU : Below W.heap.size W U) (k s : Int) => rBound_c (cV := cV) (cI := cI) (hL.below (hb.trans (hU.mono hb.size))) hok k s)
  have HCL := Lib.hid (fun (U : World) (hU : Below W.heap.size W U) => show U.cell? ⟨w.heap.size, 0, none⟩ = some (.slice VA nV cV) ∧ U.cell? ⟨w.heap.size, 1, none⟩ = some (.int .i64 l.crest) ∧ U.cell? ⟨w.heap.size, 2, none⟩ = some (.int .i64 l.weak) ∧ U.cell? ⟨w.heap.size, 3, none⟩ = some (.int .i64 l.soft.1) ∧ U.cell? ⟨w.heap.size, 4, none⟩ = some (.int .i64 l.soft.2) ∧ U.cell? ⟨w.heap.size, 5, none⟩ = some (.int .i64 l.start.1) ∧ U.cell? ⟨w.heap.size, 6, none⟩ = some (.int .i64 l.start.2) ∧ U.cell? ⟨w.heap.size, 7, none⟩ = some (.int .i64 l.seep.1) ∧ U.cell? ⟨w.heap.size, 8, none⟩ = some (.int .i64 l.seep.2) ∧ U.cell? ⟨w.heap.size, 9, none⟩ = some (.slice IA nS cI) ∧ U.cell? ⟨w.heap.size + 1, 3, none⟩ = some (.int .i64 x.soft) from
    ⟨bel_keep hU p0, bel_keep hU p1, bel_keep hU p2, bel_keep hU p3, bel_keep hU p4, bel_keep hU p5, bel_keep hU p6, bel_keep hU p7, bel_keep hU p8, bel_keep hU p9, bel_keep hU q3⟩)
  have HF := Lib.hid (hX.infl.below hb); have HE := Lib.hid (hX.seep.below hb)
  have HW := Lib.hid hW; have HB := Lib.hid hb
  have HOK := Lib.hid hok; have HFT := Lib.hid hft; have HWO := Lib.hid hwk; have HCO := Lib.hid hcho
  obtain ⟨i0, hi0, hz0, hz1, hz2⟩ := info_parts infoI
  have HI := Lib.hid hi0; have HZ0 := Lib.hid hz0; have HZ1 := Lib.hid hz1; have HZ2 := Lib.hid hz2
  have HFB := Lib.hid (fun k => fillV_brk (l := l) (ws := ws) (c := c) (x := x) (k := k)); have HFE := Lib.hid (fillV_end (l := l) (ws := ws) (c := c) (x := x))
  rw [hil] at HFB HFE
  obtain ⟨FB, hFB⟩ : ∃ FB, FB = fillB l ws c x := ⟨_, rfl⟩
  obtain ⟨FV, hFV⟩ : ∃ FV, FV = fillV l ws c x := ⟨_, rfl⟩
  have HFF := Lib.hid (And.intro hFB hFV)
  have HIL := Lib.hid hil
  rw [← hFB, ← hFV] at HFB HFE
  have hn60 : nS ≤ 60 := by omega
  clear hi0 hz0 hz1 hz2 hL hWk hC hX hok hwk hcho hft hb hB1 hB2 pc qc hW hil hfl hsl hFB hFV h60
  go_enter Try.func42, Try.ntmps42
  go_upto_region 1 with fail
  rw [← HW.out]
  go_wp2_with fail
  go_loopw [10, 11, 12] (fun v vs i wr => ∃ k : Nat, k ≤ nS ∧ i = .int .i64 k ∧ v = .int .i64 (vAt ws c x k) ∧ wr.ownsRow W.heap.size 3 1 vs k ((volsTo ws c x k).flatMap enc1) ∧ (∀ j, j < k → brkB l ws c x j = false) ∧ Below W.heap.size W wr) (fun _ _ i _ => nS - (intOf i).toNat)
  case atStart => exact ⟨0, Nat.zero_le _, rfl, rfl, World.ownsRow_nil _ _ _ _, fun j hj => absurd hj (by omega), Below.refl _ _⟩
  case round =>
    obtain ⟨k, hk, rfl, rfl, hown, hnb, hbr⟩ := hrel
    have HO := Lib.hid hown; have HNB := Lib.hid hnb; have HBR := Lib.hid hbr
    have p0 := bel_keep hbr p0; have p1 := bel_keep hbr p1; have p2 := bel_keep hbr p2; have p3 := bel_keep hbr p3; have p4 := bel_keep hbr p4; have p5 := bel_keep hbr p5; have p6 := bel_keep hbr p6; have p7 := bel_keep hbr p7; have p8 := bel_keep hbr p8; have p9 := bel_keep hbr p9
    have q0 := bel_keep hbr q0; have q1 := bel_keep hbr q1; have q3 := bel_keep hbr q3
    obtain ⟨OA, oc, rfl, hoc⟩ := own_form hown
    have HOC := Lib.hid hoc
    clear hoc
    by_cases hlt : k < nS
    · obtain ⟨b, o, vi, rfl, hbl, hvi, e0⟩ := (HF.out.below hbr).at1 hlt
      obtain ⟨b2, o2, si, rfl, hbl2, hsi, d0⟩ := (HE.out.below hbr).at1 hlt
      obtain ⟨r, hr⟩ : ∃ r, l.inflow[k]? = some r := ⟨_, List.getElem?_eq_getElem (by have := HIL.out; omega)⟩
      have hvb := vAt_bd HOK.out HFT.out k HNB.out
      have hib := HFT.out.inflow k r vi hr hvi
      have hrb := HOK.out.inflow k r hr
      have hsb := HFT.out.seep k si hsi
      have hob := outAt_bd HWO.out HCO.out (k : Int)
      have hnx : vAt ws c x (k + 1) = max 0 (vAt ws c x k + vi - si - outAt ws c (k : Int)) := by simp only [vAt, atI_get hvi, atI_get hsi]
      have hbk : brkB l ws c x k = decide (bdK l (decide (x.soft ≤ (k : Int))) ≤ vAt ws c x (k + 1)) := rfl
      have happ := volsTo_flat ws c x k
      obtain ⟨V, hV⟩ : ∃ V, V = vAt ws c x k := ⟨_, rfl⟩
      obtain ⟨N, hN⟩ : ∃ N, N = vAt ws c x (k + 1) := ⟨_, rfl⟩
      obtain ⟨O, hO⟩ : ∃ O, O = outAt ws c (k : Int) := ⟨_, rfl⟩
      obtain ⟨D, hD⟩ : ∃ D, D = bdK l (decide (x.soft ≤ (k : Int))) := ⟨_, rfl⟩
      have HPK := Lib.hid (fun (U : World) (hU : Below W.heap.size W U) => HPU.out U hU (k : Int))
      have HBK2 := Lib.hid (fun (U : World) (hU : Below W.heap.size W U) => HBO.out U hU (k : Int) x.soft)
      rw [← hD] at hbk HBK2
      rw [← hN] at hnx hbk happ
      rw [← hV] at hvb hnx ⊢
      rw [← hO] at hob hnx HPK
      have hw1 : IntKind.i64.wrap (V + vi) = V + vi := wi (by omega)
      have hw2 : IntKind.i64.wrap (V + vi - si) = V + vi - si := wi (by omega)
      have hw3 : IntKind.i64.wrap (V + vi - si - O) = V + vi - si - O := wi (by omega)
      have HBK := Lib.hid hbk; have HAPP := Lib.hid happ; have HNX := Lib.hid hnx; have HVB := Lib.hid hvb
      have HND := Lib.hid hN; have HLT := Lib.hid hlt
      have HW1 := Lib.hid hw1; have HW2 := Lib.hid hw2; have HW3 := Lib.hid hw3
      have hkn : (k : Int) < (nS : Int) := by omega
      have hk0 : (0 : Int) ≤ (k : Int) := by omega
      have HSS := Lib.hid (fun (U : World) (hU : Below wr.heap.size wr U) => show U.cell? ⟨w.heap.size + 1, 0, none⟩ = some (.slice (some ⟨b, o, none⟩) nS cF) ∧ U.cell? ⟨w.heap.size + 1, 1, none⟩ = some (.slice (some ⟨b2, o2, none⟩) nS cS) ∧ U.cell? ⟨b, o + k, none⟩ = some (.int .i64 vi) ∧ U.cell? ⟨b2, o2 + k, none⟩ = some (.int .i64 si) from
        ⟨bel_keep hU q0, bel_keep hU q1, bel_keep hU e0, bel_keep hU d0⟩)
      have HBC := Lib.hid (Below.refl wr.heap.size wr)
      have hsr := hbr.size
      clear hvi hsi hr hvb hib hrb hsb hob hnx hbk happ hV hO hown hnb hN hw1 hw2 hw3 hD
      go_upto_region 6 with fail
      have hw1 := HW1.out; have hw2 := HW2.out; have hw3 := HW3.out
      clear e0 d0 hbr p0 p1 p2 p3 p4 p5 p6 p7 p8 p9 q0 q1 q3
      refine wp_region_till [] (fun U => U.cell? ⟨w.heap.size + 1, 0, none⟩ = some (.slice (some ⟨b, o, none⟩) nS cF) ∧ U.cell? ⟨w.heap.size + 1, 1, none⟩ = some (.slice (some ⟨b2, o2, none⟩) nS cS) ∧ U.cell? ⟨b, o + k, none⟩ = some (.int .i64 vi) ∧ U.cell? ⟨b2, o2 + k, none⟩ = some (.int .i64 si)) (by kernel_rfl) (by exact HSS.out _ HBC.out.drew) (fun hHeld => ?_)
      have hb9 := (Below.refl wr.heap.size wr).drew
      have t0 := below_tr HBC.out hb9; have t1 := below_tr HBR.out hb9
      clear HBC HBR
      have HBC := Lib.hid t0; have HBR := Lib.hid t1
      clear t0 t1
      clear hb9
      revert hHeld HBC HBR
      generalize wr.drew = w0
      intro hHeld HBC HBR
      (refine wpAnyL_take (n := 0) (i := 0) (oi := ?ox1) (v := ?vx1) ?hix1 ?k1x1 ?k2x1 ?k3x1 ?k4x1 ?k5x1 ?k6x1 ?hQx1 ?hYx1 ?hSx1 ?restx1; (case hix1 => (simp only [List.getElem?_toArray, List.getElem?_cons_succ, List.getElem?_cons_zero]; exact rfl)); (case k1x1 => kernel_rfl); (case k2x1 => kernel_rfl); (case k3x1 => kernel_rfl); (case k4x1 => kernel_rfl); (case k5x1 => kernel_rfl); (case k6x1 => kernel_rfl); (case hSx1 => assumption); (case hYx1 => (refine Or.inl ⟨rfl, ?hyx1⟩; intro w hSw; (try dsimp only at hSw); go_simp; (try with_reducible rfl))); (case hQx1 => exact (fun _ _ _ h => h)); (try simp only [Act.put, List.setIfInBounds_toArray, List.set_cons_zero, List.set_cons_succ]))
      (refine wpAnyL_take (n := 0) (i := 1) (oi := ?ox2) (v := ?vx2) ?hix2 ?k1x2 ?k2x2 ?k3x2 ?k4x2 ?k5x2 ?k6x2 ?hQx2 ?hYx2 ?hSx2 ?restx2; (case hix2 => (simp only [List.getElem?_toArray, List.getElem?_cons_succ, List.getElem?_cons_zero]; exact rfl)); (case k1x2 => kernel_rfl); (case k2x2 => kernel_rfl); (case k3x2 => kernel_rfl); (case k4x2 => kernel_rfl); (case k5x2 => kernel_rfl); (case k6x2 => kernel_rfl); (case hSx2 => assumption); (case hYx2 => (refine Or.inl ⟨rfl, ?hyx2⟩; intro w hSw; (try dsimp only at hSw); go_simp; (try with_reducible rfl))); (case hQx2 => exact (fun _ _ _ h => h)); (try simp only [Act.put, List.setIfInBounds_toArray, List.set_cons_zero, List.set_cons_succ]))
      (refine wpAnyL_take (n := 0) (i := 2) (oi := ?ox3) (v := ?vx3) ?hix3 ?k1x3 ?k2x3 ?k3x3 ?k4x3 ?k5x3 ?k6x3 ?hQx3 ?hYx3 ?hSx3 ?restx3; (case hix3 => (simp only [List.getElem?_toArray, List.getElem?_cons_succ, List.getElem?_cons_zero]; exact rfl)); (case k1x3 => kernel_rfl); (case k2x3 => kernel_rfl); (case k3x3 => kernel_rfl); (case k4x3 => kernel_rfl); (case k5x3 => kernel_rfl); (case k6x3 => kernel_rfl); (case hSx3 => assumption); (case hYx3 => (refine Or.inl ⟨rfl, ?hyx3⟩; intro w hSw; (try dsimp only at hSw); go_simp; (try with_reducible rfl))); (case hQx3 => exact (fun _ _ _ h => h)); (try simp only [Act.put, List.setIfInBounds_toArray, List.set_cons_zero, List.set_cons_succ]))
      (refine wpAnyL_take (n := 0) (i := 3) (oi := ?ox4) (v := ?vx4) ?hix4 ?k1x4 ?k2x4 ?k3x4 ?k4x4 ?k5x4 ?k6x4 ?hQx4 ?hYx4 ?hSx4 ?restx4; (case hix4 => (simp only [List.getElem?_toArray, List.getElem?_cons_succ, List.getElem?_cons_zero]; exact rfl)); (case k1x4 => kernel_rfl); (case k2x4 => kernel_rfl); (case k3x4 => kernel_rfl); (case k4x4 => kernel_rfl); (case k5x4 => kernel_rfl); (case k6x4 => kernel_rfl); (case hSx4 => assumption); (case hYx4 => (refine Or.inl ⟨rfl, ?hyx4⟩; intro w hSw; (try dsimp only at hSw); go_simp; (try with_reducible rfl))); (case hQx4 => exact (fun _ _ _ h => h)); (try simp only [Act.put, List.setIfInBounds_toArray, List.set_cons_zero, List.set_cons_succ]))
      (refine wpAnyL_take (n := 0) (i := 4) (oi := ?ox5) (v := ?vx5) ?hix5 ?k1x5 ?k2x5 ?k3x5 ?k4x5 ?k5x5 ?k6x5 ?hQx5 ?hYx5 ?hSx5 ?restx5; (case hix5 => (simp only [List.getElem?_toArray, List.getElem?_cons_succ, List.getElem?_cons_zero]; exact rfl)); (case k1x5 => kernel_rfl); (case k2x5 => kernel_rfl); (case k3x5 => kernel_rfl); (case k4x5 => kernel_rfl); (case k5x5 => kernel_rfl); (case k6x5 => kernel_rfl); (case hSx5 => assumption); (case hYx5 => (refine Or.inl ⟨rfl, ?hyx5⟩; intro w hSw; (try dsimp only at hSw); go_simp; (try with_reducible rfl))); (case hQx5 => exact (fun _ _ _ h => h)); (try simp only [Act.put, List.setIfInBounds_toArray, List.set_cons_zero, List.set_cons_succ]))
      (refine wpAnyL_take (n := 0) (i := 5) (oi := ?ox6) (v := ?vx6) ?hix6 ?k1x6 ?k2x6 ?k3x6 ?k4x6 ?k5x6 ?k6x6 ?hQx6 ?hYx6 ?hSx6 ?restx6; (case hix6 => (simp only [List.getElem?_toArray, List.getElem?_cons_succ, List.getElem?_cons_zero]; exact rfl)); (case k1x6 => kernel_rfl); (case k2x6 => kernel_rfl); (case k3x6 => kernel_rfl); (case k4x6 => kernel_rfl); (case k5x6 => kernel_rfl); (case k6x6 => kernel_rfl); (case hSx6 => assumption); (case hYx6 => (refine Or.inl ⟨rfl, ?hyx6⟩; intro w hSw; (try dsimp only at hSw); go_simp; (try with_reducible rfl))); (case hQx6 => exact (fun _ _ _ h => h)); (try simp only [Act.put, List.setIfInBounds_toArray, List.set_cons_zero, List.set_cons_succ]))
      (refine wpAnyL_take (n := 0) (i := 6) (oi := ?ox7) (v := ?vx7) ?hix7 ?k1x7 ?k2x7 ?k3x7 ?k4x7 ?k5x7 ?k6x7 ?hQx7 ?hYx7 ?hSx7 ?restx7; (case hix7 => (simp only [List.getElem?_toArray, List.getElem?_cons_succ, List.getElem?_cons_zero]; exact rfl)); (case k1x7 => kernel_rfl); (case k2x7 => kernel_rfl); (case k3x7 => kernel_rfl); (case k4x7 => kernel_rfl); (case k5x7 => kernel_rfl); (case k6x7 => kernel_rfl); (case hSx7 => assumption); (case hYx7 => (refine Or.inl ⟨rfl, ?hyx7⟩; intro w hSw; (try dsimp only at hSw); go_simp; (try with_reducible rfl))); (case hQx7 => exact (fun _ _ _ h => h)); (try simp only [Act.put, List.setIfInBounds_toArray, List.set_cons_zero, List.set_cons_succ]))
      (refine wpAnyL_take (n := 0) (i := 7) (oi := ?ox8) (v := ?vx8) ?hix8 ?k1x8 ?k2x8 ?k3x8 ?k4x8 ?k5x8 ?k6x8 ?hQx8 ?hYx8 ?hSx8 ?restx8; (case hix8 => (simp only [List.getElem?_toArray, List.getElem?_cons_succ, List.getElem?_cons_zero]; exact rfl)); (case k1x8 => kernel_rfl); (case k2x8 => kernel_rfl); (case k3x8 => kernel_rfl); (case k4x8 => kernel_rfl); (case k5x8 => kernel_rfl); (case k6x8 => kernel_rfl); (case hSx8 => assumption); (case hYx8 => (refine Or.inl ⟨rfl, ?hyx8⟩; intro w hSw; (try dsimp only at hSw); go_simp; (try with_reducible rfl))); (case hQx8 => exact (fun _ _ _ h => h)); (try simp only [Act.put, List.setIfInBounds_toArray, List.set_cons_zero, List.set_cons_succ]))
      (refine wpAnyL_take (n := 0) (i := 8) (oi := ?ox9) (v := ?vx9) ?hix9 ?k1x9 ?k2x9 ?k3x9 ?k4x9 ?k5x9 ?k6x9 ?hQx9 ?hYx9 ?hSx9 ?restx9; (case hix9 => (simp only [List.getElem?_toArray, List.getElem?_cons_succ, List.getElem?_cons_zero]; exact rfl)); (case k1x9 => kernel_rfl); (case k2x9 => kernel_rfl); (case k3x9 => kernel_rfl); (case k4x9 => kernel_rfl); (case k5x9 => kernel_rfl); (case k6x9 => kernel_rfl); (case hSx9 => assumption); (case hYx9 => (refine Or.inl ⟨rfl, ?hyx9⟩; intro w hSw; (try dsimp only at hSw); go_simp; (try with_reducible rfl))); (case hQx9 => exact (fun _ _ _ h => h)); (try simp only [Act.put, List.setIfInBounds_toArray, List.set_cons_zero, List.set_cons_succ]))
      (refine wpAnyL_take (n := 0) (i := 9) (oi := ?ox10) (v := ?vx10) ?hix10 ?k1x10 ?k2x10 ?k3x10 ?k4x10 ?k5x10 ?k6x10 ?hQx10 ?hYx10 ?hSx10 ?restx10; (case hix10 => (simp only [List.getElem?_toArray, List.getElem?_cons_succ, List.getElem?_cons_zero]; exact rfl)); (case k1x10 => kernel_rfl); (case k2x10 => kernel_rfl); (case k3x10 => kernel_rfl); (case k4x10 => kernel_rfl); (case k5x10 => kernel_rfl); (case k6x10 => kernel_rfl); (case hSx10 => assumption); (case hYx10 => (refine Or.inl ⟨rfl, ?hyx10⟩; intro w hSw; (try dsimp only at hSw); go_simp; (try with_reducible rfl))); (case hQx10 => exact (fun _ _ _ h => h)); (try simp only [Act.put, List.setIfInBounds_toArray, List.set_cons_zero, List.set_cons_succ]))
      (refine wpAnyL_take (n := 0) (i := 10) (oi := ?ox11) (v := ?vx11) ?hix11 ?k1x11 ?k2x11 ?k3x11 ?k4x11 ?k5x11 ?k6x11 ?hQx11 ?hYx11 ?hSx11 ?restx11; (case hix11 => (simp only [List.getElem?_toArray, List.getElem?_cons_succ, List.getElem?_cons_zero]; exact rfl)); (case k1x11 => kernel_rfl); (case k2x11 => kernel_rfl); (case k3x11 => kernel_rfl); (case k4x11 => kernel_rfl); (case k5x11 => kernel_rfl); (case k6x11 => kernel_rfl); (case hSx11 => assumption); (case hYx11 => (refine Or.inl ⟨rfl, ?hyx11⟩; intro w hSw; (try dsimp only at hSw); go_simp; (try with_reducible rfl))); (case hQx11 => exact (fun _ _ _ h => h)); (try simp only [Act.put, List.setIfInBounds_toArray, List.set_cons_zero, List.set_cons_succ]))
      (refine wpAnyL_take (n := 0) (i := 11) (oi := ?ox12) (v := ?vx12) ?hix12 ?k1x12 ?k2x12 ?k3x12 ?k4x12 ?k5x12 ?k6x12 ?hQx12 ?hYx12 ?hSx12 ?restx12; (case hix12 => (simp only [List.getElem?_toArray, List.getElem?_cons_succ, List.getElem?_cons_zero]; exact rfl)); (case k1x12 => kernel_rfl); (case k2x12 => kernel_rfl); (case k3x12 => kernel_rfl); (case k4x12 => kernel_rfl); (case k5x12 => kernel_rfl); (case k6x12 => kernel_rfl); (case hSx12 => assumption); (case hYx12 => (refine Or.inl ⟨rfl, ?hyx12⟩; intro w hSw; (try dsimp only at hSw); go_simp; (try with_reducible rfl))); (case hQx12 => exact (fun _ _ _ h => h)); (try simp only [Act.put, List.setIfInBounds_toArray, List.set_cons_zero, List.set_cons_succ]))
      (refine wpAnyL_take (n := 0) (i := 12) (oi := ?ox13) (v := ?vx13) ?hix13 ?k1x13 ?k2x13 ?k3x13 ?k4x13 ?k5x13 ?k6x13 ?hQx13 ?hYx13 ?hSx13 ?restx13; (case hix13 => (simp only [List.getElem?_toArray, List.getElem?_cons_succ, List.getElem?_cons_zero]; exact rfl)); (case k1x13 => kernel_rfl); (case k2x13 => kernel_rfl); (case k3x13 => kernel_rfl); (case k4x13 => kernel_rfl); (case k5x13 => kernel_rfl); (case k6x13 => kernel_rfl); (case hSx13 => assumption); (case hYx13 => (refine Or.inl ⟨rfl, ?hyx13⟩; intro w hSw; (try dsimp only at hSw); go_simp; (try with_reducible rfl))); (case hQx13 => exact (fun _ _ _ h => h)); (try simp only [Act.put, List.setIfInBounds_toArray, List.set_cons_zero, List.set_cons_succ]))
      (refine wpAnyL_take (n := 0) (i := 13) (oi := ?ox14) (v := ?vx14) ?hix14 ?k1x14 ?k2x14 ?k3x14 ?k4x14 ?k5x14 ?k6x14 ?hQx14 ?hYx14 ?hSx14 ?restx14; (case hix14 => (simp only [List.getElem?_toArray, List.getElem?_cons_succ, List.getElem?_cons_zero]; exact rfl)); (case k1x14 => kernel_rfl); (case k2x14 => kernel_rfl); (case k3x14 => kernel_rfl); (case k4x14 => kernel_rfl); (case k5x14 => kernel_rfl); (case k6x14 => kernel_rfl); (case hSx14 => assumption); (case hYx14 => (refine Or.inl ⟨rfl, ?hyx14⟩; intro w hSw; (try dsimp only at hSw); go_simp; (try with_reducible rfl))); (case hQx14 => exact (fun _ _ _ h => h)); (try simp only [Act.put, List.setIfInBounds_toArray, List.set_cons_zero, List.set_cons_succ]))
      (refine wpAnyL_take (n := 0) (i := 14) (oi := ?ox15) (v := ?vx15) ?hix15 ?k1x15 ?k2x15 ?k3x15 ?k4x15 ?k5x15 ?k6x15 ?hQx15 ?hYx15 ?hSx15 ?restx15; (case hix15 => (simp only [List.getElem?_toArray, List.getElem?_cons_succ, List.getElem?_cons_zero]; exact rfl)); (case k1x15 => kernel_rfl); (case k2x15 => kernel_rfl); (case k3x15 => kernel_rfl); (case k4x15 => kernel_rfl); (case k5x15 => kernel_rfl); (case k6x15 => kernel_rfl); (case hSx15 => assumption); (case hYx15 => (refine Or.inl ⟨rfl, ?hyx15⟩; intro w hSw; (try dsimp only at hSw); go_simp; (try with_reducible rfl))); (case hQx15 => exact (fun _ _ _ h => h)); (try simp only [Act.put, List.setIfInBounds_toArray, List.set_cons_zero, List.set_cons_succ]))
      (refine wpAnyL_take (n := 0) (i := 15) (oi := ?ox16) (v := ?vx16) ?hix16 ?k1x16 ?k2x16 ?k3x16 ?k4x16 ?k5x16 ?k6x16 ?hQx16 ?hYx16 ?hSx16 ?restx16; (case hix16 => (simp only [List.getElem?_toArray, List.getElem?_cons_succ, List.getElem?_cons_zero]; exact rfl)); (case k1x16 => kernel_rfl); (case k2x16 => kernel_rfl); (case k3x16 => kernel_rfl); (case k4x16 => kernel_rfl); (case k5x16 => kernel_rfl); (case k6x16 => kernel_rfl); (case hSx16 => assumption); (case hYx16 => (refine Or.inl ⟨rfl, ?hyx16⟩; intro w hSw; (try dsimp only at hSw); go_simp; (try with_reducible rfl))); (case hQx16 => exact (fun _ _ _ h => h)); (try simp only [Act.put, List.setIfInBounds_toArray, List.set_cons_zero, List.set_cons_succ]))
      refine wpAnyL_ready (rs := [16]) (by kernel_rfl) (by simp) ?_
      refine AllReadyL.cons (o := ?o16x17) ?hi16x17 (fun K hK => ?_) AllReadyL.nil
      (case hi16x17 => (simp only [List.getElem?_toArray, List.getElem?_cons_succ, List.getElem?_cons_zero]; exact rfl))
      go_simp
      go_at_call 72
      refine (HPK.out _ HBR.out).mono ?_
      rintro e w1 ⟨rfl, hb9⟩
      have t0 := below_tr HBC.out hb9; have t1 := below_tr HBR.out hb9
      clear HBC HBR
      have HBC := Lib.hid t0; have HBR := Lib.hid t1
      clear t0 t1
      clear hb9 
      (try go_wp2_with fail)
      (try clear hHeld)
      refine hK.out _ _ (by (try dsimp only); exact HSS.out _ HBC.out) (fun hHeld => ?_)
      clear hK K
      (try simp only [Act.put, List.setIfInBounds_toArray, List.set_cons_zero, List.set_cons_succ])
      (refine wpAnyL_take (n := 0) (i := 17) (oi := ?ox18) (v := ?vx18) ?hix18 ?k1x18 ?k2x18 ?k3x18 ?k4x18 ?k5x18 ?k6x18 ?hQx18 ?hYx18 ?hSx18 ?restx18; (case hix18 => (simp only [List.getElem?_toArray, List.getElem?_cons_succ, List.getElem?_cons_zero]; exact rfl)); (case k1x18 => kernel_rfl); (case k2x18 => kernel_rfl); (case k3x18 => kernel_rfl); (case k4x18 => kernel_rfl); (case k5x18 => kernel_rfl); (case k6x18 => kernel_rfl); (case hSx18 => assumption); (case hYx18 => (refine Or.inl ⟨rfl, ?hyx18⟩; intro w hSw; (try dsimp only at hSw); go_simp; (try with_reducible rfl))); (case hQx18 => exact (fun _ _ _ h => h)); (try simp only [Act.put, List.setIfInBounds_toArray, List.set_cons_zero, List.set_cons_succ]))
      (refine wpAnyL_take (n := 0) (i := 18) (oi := ?ox19) (v := ?vx19) ?hix19 ?k1x19 ?k2x19 ?k3x19 ?k4x19 ?k5x19 ?k6x19 ?hQx19 ?hYx19 ?hSx19 ?restx19; (case hix19 => (simp only [List.getElem?_toArray, List.getElem?_cons_succ, List.getElem?_cons_zero]; exact rfl)); (case k1x19 => kernel_rfl); (case k2x19 => kernel_rfl); (case k3x19 => kernel_rfl); (case k4x19 => kernel_rfl); (case k5x19 => kernel_rfl); (case k6x19 => kernel_rfl); (case hSx19 => assumption); (case hYx19 => (refine Or.inl ⟨rfl, ?hyx19⟩; intro w hSw; (try dsimp only at hSw); go_simp; (try with_reducible rfl))); (case hQx19 => exact (fun _ _ _ h => h)); (try simp only [Act.put, List.setIfInBounds_toArray, List.set_cons_zero, List.set_cons_succ]))
      (refine wpAnyL_take (n := 0) (i := 19) (oi := ?ox20) (v := ?vx20) ?hix20 ?k1x20 ?k2x20 ?k3x20 ?k4x20 ?k5x20 ?k6x20 ?hQx20 ?hYx20 ?hSx20 ?restx20; (case hix20 => (simp only [List.getElem?_toArray, List.getElem?_cons_succ, List.getElem?_cons_zero]; exact rfl)); (case k1x20 => kernel_rfl); (case k2x20 => kernel_rfl); (case k3x20 => kernel_rfl); (case k4x20 => kernel_rfl); (case k5x20 => kernel_rfl); (case k6x20 => kernel_rfl); (case hSx20 => assumption); (case hYx20 => (refine Or.inl ⟨rfl, ?hyx20⟩; intro w hSw; (try dsimp only at hSw); go_simp; (try with_reducible rfl))); (case hQx20 => exact (fun _ _ _ h => h)); (try simp only [Act.put, List.setIfInBounds_toArray, List.set_cons_zero, List.set_cons_succ]))
      (refine wpAnyL_done (by kernel_rfl) ?_ _)
      clear hw1 hw2 hw3
      rw [← HNX.out]
      have HO1 := Lib.hid (own_mono HO.out HBC.out)
      have hs1 := HBR.out.size
      clear HO
      go_upto_region 8 with (at_builtin; go_must (refine wpList_append_own_at _ rfl _ _ 22 rfl W.heap.size 3 i0 _ 1 8 Try.underlying22 HI.out HZ0.out HZ1.out HZ2.out rfl (by decide) _ _ _ rfl (HO1.out.alloc _) ⟨w1.heap.size, 0, none⟩ 1 1 [.int .i64 N] rfl rfl (fun j u hj => World.news_of_block (cs := #[.int .i64 N]) (t := 3) (fr := (0, 0)) (heap_alloc_new w1 _) j u hj) (by simp [Value.oneCell']) (by unfold maxLen; omega) (by omega) (by simp; omega) ?_; intro v' w6 hown' hgrow _ _; have HG := Lib.hid hgrow; clear hgrow))
      have hb6 : Below W.heap.size W w6 := (HBR.out.alloc hs1 _).grown HG.out (by simp; omega) (fun g hg => (HO1.out.lt g hg).1)
      have hown2 : w6.ownsRow W.heap.size 3 1 v' (k + 1) ((volsTo ws c x (k + 1)).flatMap enc1) := by rw [HAPP.out]; exact hown'
      have HO6 := Lib.hid hown2; have HB6 := Lib.hid hb6
      clear hown' hown2 hb6 HBC HBR
      obtain ⟨p0, p1, p2, p3, p4, p5, p6, p7, p8, p9, q3⟩ := HCL.out _ HB6.out
      obtain ⟨A6, c6, rfl, hc6⟩ := own_form HO6.out
      have HC6 := Lib.hid hc6
      clear hc6
      go_wp2_with fail
      go_at_call 73
      refine (HBK2.out _ HB6.out).mono ?_
      rintro e w1 ⟨rfl, hb9⟩
      have t0 := below_tr HB6.out hb9; have t1 := own_mono HO6.out hb9
      clear HB6 HO6
      have HB6 := Lib.hid t0; have HO6 := Lib.hid t1
      clear t0 t1
      clear hb9 
      by_cases hge : D ≤ N
      · have hbt : brkB l ws c x k = true := by rw [HBK.out]; exact decide_eq_true hge
        have hfb := HFB.out k HLT.out hbt HNB.out
        have HFK := Lib.hid hfb
        clear hbt hfb
        go_wp2_with fail
        go_ret2
        refine ⟨A6, c6, k + 1, ?_, HC6.out, ?_, HB.out.trans (HB6.out.mono HB.out.size)⟩
        · rw [← HFF.out.1, HFK.out.1] <;> rfl
        · rw [← HFF.out.2, HFK.out.2]
          exact Rd.of_own enc1_len HO6.out (volsTo_len _ _ _ _)
      · have hbt : brkB l ws c x k = false := by rw [HBK.out]; exact decide_eq_false hge
        have HBT := Lib.hid hbt
        clear hbt
        go_wp2_with fail
        go_roundw
        case rel =>
          refine ⟨k + 1, by omega, by go_num, by rw [HND.out], HO6.out, fun j hj => ?_, HB6.out⟩
          rcases Nat.lt_or_ge j k with h | h
          · exact HNB.out j h
          · obtain rfl : j = k := by omega
            exact HBT.out
        case measure => simp [intOf] <;> omega
    · obtain rfl : nS = k := by omega
      have hfe := HFE.out HNB.out
      have HFK := Lib.hid hfe
      clear hfe hown hnb hbr
      go_wp2_with fail
      go_ret2
      refine ⟨OA, oc, nS, ?_, HOC.out, ?_, HB.out.trans (HBR.out.mono HB.out.size)⟩
      · rw [← HFF.out.1, HFK.out.1] <;> rfl
      · rw [← HFF.out.2, HFK.out.2]
        exact Rd.of_own enc1_len HO.out (volsTo_len _ _ _ _)
end
end Go.Proofs.Ytpijmfbpdglchaa
