/- CONTRACTS of (*water.way).after and of its iterator. -/
import Derived.Test.YtjpobkmlcjbpiaaGreatKRound
import Derived.RangeFuncCalls
import Derived.RangeFuncLeaves
import Derived.Shelf.RegionOpen
import Derived.OwnWalkIn
import Derived.TacticsInMore
import Derived.LoopNIn
import Derived.LoopIn
import Derived.Test.YtjpobkmlcjbpiaaGreatZHits
set_option linter.unusedVariables false
set_option linter.unusedSimpArgs false
namespace Go.Proofs.YtjpobkmlcjbpiaaGreat
open Go.RowKit Go.Proofs Go.Shelf
attribute [local go_sem] Oper.semAt_some
attribute [local go_sem ↓] Go.wp_at_zero Go.wp_at_succ

theorem after_c (W0 : Nat) (w : World) :
    Calls Tryz.prog 24 #[.pointer (some ⟨W0, 0, none⟩)] w fun e w' => e = .returned (.func (.func 56) #[] #[.pointer (some ⟨w.heap.size, 0, none⟩)]) ∧ w' = w.alloc (.cells #[.pointer (some ⟨W0, 0, none⟩)] 79) := by
  go_enter Tryz.func24, Tryz.ntmps24
  go_wp2
  go_ret
  exact ⟨rfl, rfl⟩
def WE.encs (E : WE) (k : Nat) : Array Value := #[.int .i64 (k : Int), .int .i64 (E.down k)]
set_option linter.unusedSimpArgs false in
set_option maxRecDepth 100000 in
set_option maxHeartbeats 2000000 in
theorem after_iter {E : WE} (hE : E.Ok) {W0 Bx : Nat} (hne : E.Ne W0) {I J : Nat → World → Prop}
    (hI : ∀ k W, I k W → E.blk W W0 (E.st k) ∧ E.Rds W ∧ Blk W Bx 79 #[.pointer (some ⟨W0, 0, none⟩)]) (hB : Bx ≠ W0)
    (hst : ∀ k W W', k < E.DS.n → I k W → E.blk W' W0 (E.st (k + 1)) → Fr (fun g => g = W0) W W' → J k W') {n : Nat} (hn : 3 ≤ n) (w : World) :
    IterT Fence.wide n Tryz.prog 56 #[.pointer (some ⟨Bx, 0, none⟩)] E.encs E.DS.n (Fr fun g => g = W0) w I J := by
  intro l B hBT hY W hW h0 hb0
  have h1 : 1 ≤ n := by omega
  refine callsIn_of_wp Tryz.func56 rfl trivial ?_ rfl
  simp only [Tryz.ntmps56, List.size_toArray, List.length_cons, List.length_nil, Nat.reduceAdd, Nat.reduceSub, Array.replicate_succ, Array.replicate_zero, List.push_toArray, List.append_toArray, List.nil_append, List.cons_append]
  have hbd := WE.bd hE
  have HE := Lib.hid hE; have HY := Lib.hid hY; have HI := Lib.hid hI; have HST := Lib.hid hst; have HBT := Lib.hid hBT; have HNE := Lib.hid hne; have HBD := Lib.hid hbd; have HB := Lib.hid hB
  have hdn := hE.dn
  obtain ⟨hk0, hr0, hx0⟩ := hI 0 W h0
  have c0 := hx0.cell 0
  have c6 := hk0.cell 6
  simp [WE.cells, wayC, Slc.v] at c0 c6
  clear hY hE hI hst hBT hne hbd hk0 hr0 hx0
  gi_wp2
  gi_loopw [3, 4, 10] (fun _ _ i wr => ∃ j : Nat, j ≤ E.DS.n ∧ i = .int .i64 (j : Int) ∧ I j wr ∧ B wr) (fun _ _ i _ => E.DS.n - (intOf i).toNat)
  case atStart => exact ⟨0, Nat.zero_le _, by rfl, h0, hb0⟩
  case round =>
    obtain ⟨j, hj, rfl, hij, hbj⟩ := hrel
    clear c0 c6 h0 hb0
    by_cases hlt : j < E.DS.n
    · obtain ⟨hk0, hr0, hx0⟩ := HI.out j wr hij
      obtain ⟨b1, b2, b3, b4⟩ := HBD.out j
      have hE := HE.out
      have c0 := hx0.cell 0
      simp at c0
      obtain ⟨d, hd⟩ : ∃ d, E.D[j]? = some d := ⟨_, List.getElem?_eq_getElem (by rw [hE.dlen]; exact hlt)⟩
      obtain ⟨r, hr⟩ : ∃ r, E.rain[j]? = some r := ⟨_, List.getElem?_eq_getElem (by rw [hE.rlen]; exact hlt)⟩
      have hdw := hE.warm d (List.mem_of_getElem? hd)
      have hrr := hE.rain r (List.mem_of_getElem? hr)
      have e1 : E.warm.getD j 0 = d.warm := by unfold WE.warm; rw [List.getD_eq_getElem?_getD, List.getElem?_map, hd]; rfl
      have e2 : E.rain.getD j 0 = r := by rw [List.getD_eq_getElem?_getD, hr]; rfl
      have hfc := fall_c (i := j) (show Blk wr W0 _ (wayC E.CS E.sn0 E.sn1 E.so0 E.so1 E.melt E.DS E.tsn E.tso E.LV E.RN (lvA (E.st j).lv) (E.st j).snow (E.st j).left) from hk0) hr0.d hr0.r hd hr (by omega) (by omega) (by omega) hE.melt (by omega)
      rw [← e1, ← e2] at hfc
      obtain ⟨dw, hdw9⟩ : ∃ dw, dw = E.down j := ⟨_, rfl⟩
      obtain ⟨sn, hsn9⟩ : ∃ sn, sn = (fallW E.melt (E.st j).snow (E.rain.getD j 0) (E.warm.getD j 0)).2 := ⟨_, rfl⟩
      rw [← hsn9, show (fallW E.melt (E.st j).snow (E.rain.getD j 0) (E.warm.getD j 0)).1 = dw from hdw9.symm] at hfc
      have HFC := Lib.hid hfc
      have hdb := WE.down_bd hE j
      rw [← hdw9] at hdb
      have hpc := fun (w2 : World) (hb2 : Blk w2 W0 87 (wayC E.CS E.sn0 E.sn1 E.so0 E.so1 E.melt E.DS E.tsn E.tso E.LV E.RN (lvA (E.st j).lv) sn (E.st j).left)) (hf2 : Fr (fun g => g = W0) wr w2) =>
        pass_c (down := dw) hb2 (hf2.rd hr0.c HNE.out.c) HNE.out.c hE.cel hE.n b1 b2 ⟨hdb.1, by omega⟩ hE.tso
      have hsp := WE.st_pass E j hE.clen
      rw [← hsn9, ← hdw9] at hsp
      have HSP := Lib.hid hsp; have HDW := Lib.hid hdw9
      have HPC := Lib.hid hpc; have HR0 := Lib.hid hr0; have HX0 := Lib.hid hx0; have HIJ := Lib.hid hij; have HBJ := Lib.hid hbj
      clear hfc hpc hr0 hx0 hk0 b1 b2 b3 b4 hd hr hdw hrr e1 e2 hdb hij hbj hE hdw9 hsn9 hsp
      have h2 : 1 ≤ n - 1 := by omega
      gi_wp2_with (first
        | (refine ⟨trivial, ?_⟩; gi_at_call 57; refine (callsIn_wide.2 HFC.out).mono ?_; rintro e w2 ⟨rfl, hb2, hf2⟩; have c9 := (Fr.blk hf2 HX0.out HB.out).cell 0; simp at c9; have HB2 := Lib.hid hb2; have HF2 := Lib.hid hf2; clear hb2 hf2)
        | (refine ⟨trivial, ?_⟩; gi_at_call 58; refine (callsIn_wide.2 (HPC.out _ HB2.out HF2.out)).mono ?_; rintro e w3 ⟨⟨v3, rfl⟩, hb3, hf3⟩; have HB3 := Lib.hid hb3; have HF3 := Lib.hid (HF2.out.trans hf3); clear hb3 hf3; obtain ⟨fn, tmps, assign, body, hy, hR⟩ := HY.out j w3 hlt (HST.out j wr w3 hlt HIJ.out (by unfold WE.blk WE.cells; rw [HSP.out]; exact HB3.out) HF3.out) (HBT.out wr w3 HBJ.out HF3.out); dsimp only [WE.encs] at hy; rw [← HDW.out] at hy; have HR := Lib.hid hR; clear hR))
      refine HR.out.mono ?_
      rintro e W3 ⟨rfl, hI3, hB3⟩
      gi_wp2
      go_roundw
      case rel => exact ⟨j + 1, by omega, by go_num, hI3, hB3⟩
      case measure => simp [intOf] <;> omega
    · obtain rfl : j = E.DS.n := by omega
      gi_wp2
      go_end0
      exact ⟨⟨_, rfl⟩, hij, hbj⟩
end Go.Proofs.YtjpobkmlcjbpiaaGreat

namespace Go.Proofs.YtjpobkmlcjbpiaaGreat
open Go.RowKit Go.Proofs
attribute [local go_sem ↓] Go.wp_at_zero Go.wp_at_succ

theorem way_levels {E : WE} {W : World} {W0 : Nat} {s : WaySt} (h : E.blk W W0 s) {n : Nat} (hn : n ≤ 8) (hl : s.lv.length = n) : Rd enc1 1 W (some ⟨W0, 11, none⟩) n s.lv := by
  refine ⟨hl, fun _ => ⟨W0, 11, rfl, h.lt, fun i x hx j u hu => ?_⟩⟩
  have hi : i < 8 := by have := (List.getElem?_eq_some_iff.1 hx).1; omega
  have hj : j = 0 := by
    have := (List.getElem?_eq_some_iff.1 hu).1
    simp [enc1] at this
    omega
  subst hj
  simp [enc1] at hu
  subst hu
  have h0 := h.cell (11 + i)
  rw [WE.cells, wayC_lv hi] at h0
  have e : lvA s.lv i = x := by unfold lvA; rw [List.getD_eq_getElem?_getD, hx]; rfl
  rw [e] at h0
  simpa using h0
set_option linter.unusedSimpArgs false in
set_option maxRecDepth 100000 in
set_option maxHeartbeats 1000000 in
theorem now_c {E : WE} {W : World} {W0 : Nat} {s : WaySt} (h : E.blk W W0 s) (hn : E.CS.n ≤ 8) (hl : s.lv.length = E.CS.n) :
    Calls Tryz.prog 25 #[.pointer (some ⟨W0, 0, none⟩)] W fun e w' => ∃ v, e = .returned v ∧ w'.ownsRow W.heap.size 3 1 v E.CS.n (s.lv.flatMap enc1) ∧ Below W.heap.size W w' := by
  have hrd := way_levels h hn hl
  have c0 := h.cell 0
  simp [WE.cells, wayC, Slc.v] at c0
  have HW0 := Lib.hid h.lt
  have hni : (E.CS.n : Int) ≤ 8 := by omega
  have hn0 : (0 : Int) ≤ (E.CS.n : Int) := by omega
  have HRD := Lib.hid hrd
  have HB := Lib.hid (Below.refl W.heap.size W)
  clear h hrd hl
  generalize E.CS.n = n at *
  generalize E.CS.A = A at *
  generalize E.CS.c = c at *
  have HS := Lib.hid (show W.heap.size ≤ W.heap.size from Nat.le_refl _)
  go_enter Tryz.func25, Tryz.ntmps25
  go_upto_region 1 with fail
  refine wp_region_till [] (fun U => U.cell? ⟨W0, 0, none⟩ = some (.slice A n c)) (by kernel_rfl) (by exact c0) (fun hHeld => ?_)
  have hb9 := (Below.refl W.heap.size W).drew
  have t0 := HRD.out.below hb9; have t1 := below_tr HB.out hb9
  clear HRD HB
  have HRD := Lib.hid t0; have HB := Lib.hid t1
  clear t0 t1
  clear hb9
  revert hHeld HRD HB
  generalize W.drew = w0
  intro hHeld HRD HB
  (refine wpAnyL_take (n := 0) (i := 0) (oi := ?ox1) (v := ?vx1) ?hix1 ?k1x1 ?k2x1 ?k3x1 ?k4x1 ?k5x1 ?k6x1 ?hQx1 ?hYx1 ?hSx1 ?restx1; (case hix1 => (simp only [List.getElem?_toArray, List.getElem?_cons_succ, List.getElem?_cons_zero]; exact rfl)); (case k1x1 => kernel_rfl); (case k2x1 => kernel_rfl); (case k3x1 => kernel_rfl); (case k4x1 => kernel_rfl); (case k5x1 => kernel_rfl); (case k6x1 => kernel_rfl); (case hSx1 => assumption); (case hYx1 => (refine Or.inl ⟨rfl, ?hyx1⟩; intro w hSw; (try dsimp only at hSw); go_simp; (try with_reducible rfl))); (case hQx1 => exact (fun _ _ _ h => h)); (try simp only [Act.put, List.setIfInBounds_toArray, List.set_cons_zero, List.set_cons_succ]))
  (refine wpAnyL_take (n := 0) (i := 1) (oi := ?ox2) (v := ?vx2) ?hix2 ?k1x2 ?k2x2 ?k3x2 ?k4x2 ?k5x2 ?k6x2 ?hQx2 ?hYx2 ?hSx2 ?restx2; (case hix2 => (simp only [List.getElem?_toArray, List.getElem?_cons_succ, List.getElem?_cons_zero]; exact rfl)); (case k1x2 => kernel_rfl); (case k2x2 => kernel_rfl); (case k3x2 => kernel_rfl); (case k4x2 => kernel_rfl); (case k5x2 => kernel_rfl); (case k6x2 => kernel_rfl); (case hSx2 => assumption); (case hYx2 => (refine Or.inl ⟨rfl, ?hyx2⟩; intro w hSw; (try dsimp only at hSw); go_simp; (try with_reducible rfl))); (case hQx2 => exact (fun _ _ _ h => h)); (try simp only [Act.put, List.setIfInBounds_toArray, List.set_cons_zero, List.set_cons_succ]))
  (refine wpAnyL_take (n := 0) (i := 2) (oi := ?ox3) (v := ?vx3) ?hix3 ?k1x3 ?k2x3 ?k3x3 ?k4x3 ?k5x3 ?k6x3 ?hQx3 ?hYx3 ?hSx3 ?restx3; (case hix3 => (simp only [List.getElem?_toArray, List.getElem?_cons_succ, List.getElem?_cons_zero]; exact rfl)); (case k1x3 => kernel_rfl); (case k2x3 => kernel_rfl); (case k3x3 => kernel_rfl); (case k4x3 => kernel_rfl); (case k5x3 => kernel_rfl); (case k6x3 => kernel_rfl); (case hSx3 => assumption); (case hYx3 => (refine Or.inl ⟨rfl, ?hyx3⟩; intro w hSw; (try dsimp only at hSw); go_simp; (try with_reducible rfl))); (case hQx3 => exact (fun _ _ _ h => h)); (try simp only [Act.put, List.setIfInBounds_toArray, List.set_cons_zero, List.set_cons_succ]))
  (refine wpAnyL_take (n := 0) (i := 3) (oi := ?ox4) (v := ?vx4) ?hix4 ?k1x4 ?k2x4 ?k3x4 ?k4x4 ?k5x4 ?k6x4 ?hQx4 ?hYx4 ?hSx4 ?restx4; (case hix4 => (simp only [List.getElem?_toArray, List.getElem?_cons_succ, List.getElem?_cons_zero]; exact rfl)); (case k1x4 => kernel_rfl); (case k2x4 => kernel_rfl); (case k3x4 => kernel_rfl); (case k4x4 => kernel_rfl); (case k5x4 => kernel_rfl); (case k6x4 => kernel_rfl); (case hSx4 => assumption); (case hYx4 => (refine Or.inl ⟨rfl, ?hyx4⟩; intro w hSw; (try dsimp only at hSw); go_simp; (try with_reducible rfl))); (case hQx4 => exact (fun _ _ _ h => h)); (try simp only [Act.put, List.setIfInBounds_toArray, List.set_cons_zero, List.set_cons_succ]))
  (refine wpAnyL_take (n := 0) (i := 4) (oi := ?ox5) (v := ?vx5) ?hix5 ?k1x5 ?k2x5 ?k3x5 ?k4x5 ?k5x5 ?k6x5 ?hQx5 ?hYx5 ?hSx5 ?restx5; (case hix5 => (simp only [List.getElem?_toArray, List.getElem?_cons_succ, List.getElem?_cons_zero]; exact rfl)); (case k1x5 => kernel_rfl); (case k2x5 => kernel_rfl); (case k3x5 => kernel_rfl); (case k4x5 => kernel_rfl); (case k5x5 => kernel_rfl); (case k6x5 => kernel_rfl); (case hSx5 => assumption); (case hYx5 => (refine Or.inl ⟨rfl, ?hyx5⟩; intro w hSw; (try dsimp only at hSw); go_simp; (try with_reducible rfl))); (case hQx5 => exact (fun _ _ _ h => h)); (try simp only [Act.put, List.setIfInBounds_toArray, List.set_cons_zero, List.set_cons_succ]))
  (refine wpAnyL_take (n := 0) (i := 5) (oi := ?ox6) (v := ?vx6) ?hix6 ?k1x6 ?k2x6 ?k3x6 ?k4x6 ?k5x6 ?k6x6 ?hQx6 ?hYx6 ?hSx6 ?restx6; (case hix6 => (simp only [List.getElem?_toArray, List.getElem?_cons_succ, List.getElem?_cons_zero]; exact rfl)); (case k1x6 => kernel_rfl); (case k2x6 => kernel_rfl); (case k3x6 => kernel_rfl); (case k4x6 => kernel_rfl); (case k5x6 => kernel_rfl); (case k6x6 => kernel_rfl); (case hSx6 => assumption); (case hYx6 => (refine Or.inl ⟨rfl, ?hyx6⟩; intro w hSw; (try dsimp only at hSw); go_simp; (try with_reducible rfl))); (case hQx6 => exact (fun _ _ _ h => h)); (try simp only [Act.put, List.setIfInBounds_toArray, List.set_cons_zero, List.set_cons_succ]))
  (refine wpAnyL_take (n := 0) (i := 6) (oi := ?ox7) (v := ?vx7) ?hix7 ?k1x7 ?k2x7 ?k3x7 ?k4x7 ?k5x7 ?k6x7 ?hQx7 ?hYx7 ?hSx7 ?restx7; (case hix7 => (simp only [List.getElem?_toArray, List.getElem?_cons_succ, List.getElem?_cons_zero]; exact rfl)); (case k1x7 => kernel_rfl); (case k2x7 => kernel_rfl); (case k3x7 => kernel_rfl); (case k4x7 => kernel_rfl); (case k5x7 => kernel_rfl); (case k6x7 => kernel_rfl); (case hSx7 => assumption); (case hYx7 => (refine Or.inl ⟨rfl, ?hyx7⟩; intro w hSw; (try dsimp only at hSw); go_simp; (try with_reducible rfl))); (case hQx7 => exact (fun _ _ _ h => h)); (try simp only [Act.put, List.setIfInBounds_toArray, List.set_cons_zero, List.set_cons_succ]))
  (refine wpAnyL_take (n := 0) (i := 7) (oi := ?ox8) (v := ?vx8) ?hix8 ?k1x8 ?k2x8 ?k3x8 ?k4x8 ?k5x8 ?k6x8 ?hQx8 ?hYx8 ?hSx8 ?restx8; (case hix8 => (simp only [List.getElem?_toArray, List.getElem?_cons_succ, List.getElem?_cons_zero]; exact rfl)); (case k1x8 => kernel_rfl); (case k2x8 => kernel_rfl); (case k3x8 => kernel_rfl); (case k4x8 => kernel_rfl); (case k5x8 => kernel_rfl); (case k6x8 => kernel_rfl); (case hSx8 => assumption); (case hYx8 => (refine Or.inl ⟨rfl, ?hyx8⟩; intro w hSw; (try dsimp only at hSw); go_simp; (try with_reducible rfl))); (case hQx8 => exact (fun _ _ _ h => h)); (try simp only [Act.put, List.setIfInBounds_toArray, List.set_cons_zero, List.set_cons_succ]))
  (refine wpAnyL_take (n := 0) (i := 8) (oi := ?ox9) (v := ?vx9) ?hix9 ?k1x9 ?k2x9 ?k3x9 ?k4x9 ?k5x9 ?k6x9 ?hQx9 ?hYx9 ?hSx9 ?restx9; (case hix9 => (simp only [List.getElem?_toArray, List.getElem?_cons_succ, List.getElem?_cons_zero]; exact rfl)); (case k1x9 => kernel_rfl); (case k2x9 => kernel_rfl); (case k3x9 => kernel_rfl); (case k4x9 => kernel_rfl); (case k5x9 => kernel_rfl); (case k6x9 => kernel_rfl); (case hSx9 => assumption); (case hYx9 => (refine Or.inl ⟨rfl, ?hyx9⟩; intro w hSw; (try dsimp only at hSw); go_simp; (try with_reducible rfl))); (case hQx9 => exact (fun _ _ _ h => h)); (try simp only [Act.put, List.setIfInBounds_toArray, List.set_cons_zero, List.set_cons_succ]))
  (refine wpAnyL_take (n := 0) (i := 9) (oi := ?ox10) (v := ?vx10) ?hix10 ?k1x10 ?k2x10 ?k3x10 ?k4x10 ?k5x10 ?k6x10 ?hQx10 ?hYx10 ?hSx10 ?restx10; (case hix10 => (simp only [List.getElem?_toArray, List.getElem?_cons_succ, List.getElem?_cons_zero]; exact rfl)); (case k1x10 => kernel_rfl); (case k2x10 => kernel_rfl); (case k3x10 => kernel_rfl); (case k4x10 => kernel_rfl); (case k5x10 => kernel_rfl); (case k6x10 => kernel_rfl); (case hSx10 => assumption); (case hYx10 => (refine Or.inl ⟨rfl, ?hyx10⟩; intro w hSw; (try dsimp only at hSw); go_simp; (try with_reducible rfl))); (case hQx10 => exact (fun _ _ _ h => h)); (try simp only [Act.put, List.setIfInBounds_toArray, List.set_cons_zero, List.set_cons_succ]))
  refine wpAnyL_ready (rs := [10]) (by kernel_rfl) (by simp) ?_
  refine AllReadyL.cons (o := ?o10x11) ?hi10x11 (fun K hK => ?_) AllReadyL.nil
  (case hi10x11 => (simp only [List.getElem?_toArray, List.getElem?_cons_succ, List.getElem?_cons_zero]; exact rfl))
  go_simp
  go_at_call 59
  refine (clone_c (c := 8) HRD.out (by omega)).mono ?_
  rintro e w1 ⟨v, rfl, hown, hb9⟩
  have HO := Lib.hid (own_low hown HB.out.size)
  have HB1 := Lib.hid (HB.out.trans (hb9.mono HB.out.size))
  clear hown hb9
  (try go_wp2_with fail)
  (try clear hHeld)
  refine hK.out _ _ (by (try dsimp only); exact (HB1.out.cell (p := ⟨W0, 0, none⟩) HW0.out).trans c0) (fun hHeld => ?_)
  clear hK K
  (try simp only [Act.put, List.setIfInBounds_toArray, List.set_cons_zero, List.set_cons_succ])
  (refine wpAnyL_take (n := 0) (i := 11) (oi := ?ox12) (v := ?vx12) ?hix12 ?k1x12 ?k2x12 ?k3x12 ?k4x12 ?k5x12 ?k6x12 ?hQx12 ?hYx12 ?hSx12 ?restx12; (case hix12 => (simp only [List.getElem?_toArray, List.getElem?_cons_succ, List.getElem?_cons_zero]; exact rfl)); (case k1x12 => kernel_rfl); (case k2x12 => kernel_rfl); (case k3x12 => kernel_rfl); (case k4x12 => kernel_rfl); (case k5x12 => kernel_rfl); (case k6x12 => kernel_rfl); (case hSx12 => assumption); (case hYx12 => (refine Or.inl ⟨rfl, ?hyx12⟩; intro w hSw; (try dsimp only at hSw); go_simp; (try with_reducible rfl))); (case hQx12 => exact (fun _ _ _ h => h)); (try simp only [Act.put, List.setIfInBounds_toArray, List.set_cons_zero, List.set_cons_succ]))
  (refine wpAnyL_done (by kernel_rfl) ?_ _)
  go_wp2_with fail
  go_ret
  exact ⟨_, rfl, HO.out, HB1.out⟩
end Go.Proofs.YtjpobkmlcjbpiaaGreat
