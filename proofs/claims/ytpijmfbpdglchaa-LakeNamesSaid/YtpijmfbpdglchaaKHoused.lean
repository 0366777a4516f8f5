/- CONTRACTS of the law's River and housed. -/
import Derived.Test.YtpijmfbpdglchaaKTool
import Derived.Test.YtpijmfbpdglchaaKHeight
import Derived.Test.YtpijmfbpdglchaaKLakeC
set_option linter.unusedVariables false
set_option linter.unusedSimpArgs false
namespace Go.Proofs.Ytpijmfbpdglchaa
open Go.RowKit Go.Proofs
attribute [local go_sem ↓] Go.wp_at_zero Go.wp_at_succ
theorem In_ib {n lo hi : Int} {b : Bool} (h : inB n lo hi = b) (w : World) : Calls Try.prog 62 #[.int .i64 n, .int .i64 lo, .int .i64 hi] w fun e w' => e = .returned (.bool b) ∧ w = w' := h ▸ In_c n lo hi w
set_option maxRecDepth 100000 in
theorem rRightHouse_c (x : Hou) (w : World) : Calls Try.prog 83 #[.agg #[.int .i64 x.far, .int .i64 x.high, .int .i64 x.wide]] w fun e w' => e = .returned (.bool (okH x)) ∧ Below w.heap.size w w' := by
  have HB := Lib.hid ((Below.refl w.heap.size w).alloc (Nat.le_refl _) (.cells #[.int .i64 x.far, .int .i64 x.high, .int .i64 x.wide] 99))
  have hE : okH x = (inB x.far 0 200 && (inB x.high 0 10000 && inB x.wide 1 10000)) := rfl
  rw [hE]
  clear hE
  cases h1 : inB x.far 0 200
  · have H1 := Lib.hid (In_ib h1)
    clear h1
    go_enter Try.func83, Try.ntmps83
    go_wp2_with (go_at_call 62; refine (H1.out _).mono ?_; rintro e w1 ⟨rfl, rfl⟩)
    go_ret
    exact ⟨rfl, HB.out⟩
  · cases h2 : inB x.high 0 10000
    · have H1 := Lib.hid (In_ib h1); have H2 := Lib.hid (In_ib h2)
      clear h1 h2
      go_enter Try.func83, Try.ntmps83
      go_wp2_with (go_at_call 62; (first | (with_reducible refine (H1.out _).mono ?_) | (with_reducible refine (H2.out _).mono ?_)); rintro e w1 ⟨rfl, rfl⟩)
      go_ret
      exact ⟨rfl, HB.out⟩
    · have H1 := Lib.hid (In_ib h1); have H2 := Lib.hid (In_ib h2)
      obtain ⟨b, hb⟩ : ∃ b, inB x.wide 1 10000 = b := ⟨_, rfl⟩
      rw [hb]
      have H3 := Lib.hid (In_ib hb)
      clear h1 h2 hb
      go_enter Try.func83, Try.ntmps83
      go_wp2_with (go_at_call 62; (first | (with_reducible refine (H1.out _).mono ?_) | (with_reducible refine (H2.out _).mono ?_) | (with_reducible refine (H3.out _).mono ?_)); rintro e w1 ⟨rfl, rfl⟩)
      go_ret
      exact ⟨by simp, HB.out⟩
set_option maxRecDepth 100000 in
theorem rRightRiver_c (r : Riv) (w : World) : Calls Try.prog 84 #[.agg (rA r)] w fun e w' => e = .returned (.bool (okRi r)) ∧ Below w.heap.size w w' := by
  have HB := Lib.hid ((Below.refl w.heap.size w).alloc (Nat.le_refl _) (.cells (rA r) 84))
  have hE : okRi r = (inB r.loss 0 1000000 && upB r.pace 60) := rfl
  rw [hE]
  clear hE
  cases h1 : inB r.loss 0 1000000
  · have H1 := Lib.hid (In_ib h1)
    clear h1
    go_enter Try.func84, Try.ntmps84
    go_wp2_with (go_at_call 62; refine (H1.out _).mono ?_; rintro e w1 ⟨rfl, rfl⟩)
    go_ret
    exact ⟨rfl, HB.out⟩
  · have H1 := Lib.hid (In_ib h1)
    have H2 := Lib.hid (span_c r.pace 60)
    obtain ⟨b, hb⟩ : ∃ b, upB r.pace 60 = b := ⟨_, rfl⟩
    rw [hb] at H2 ⊢
    clear h1 hb
    go_enter Try.func84, Try.ntmps84
    go_wp2_with (first | (go_at_call 62; refine (H1.out _).mono ?_; rintro e w1 ⟨rfl, rfl⟩) | (go_at_call 71; refine (H2.out _).mono ?_; rintro e w1 ⟨rfl, hb1⟩))
    go_ret
    exact ⟨by simp, below_tr HB.out hb1⟩
set_option maxRecDepth 100000 in
set_option maxHeartbeats 1000000 in
theorem River_c (r : Riv) (w : World) : Calls Try.prog 44 #[.agg (rA r)] w fun e w' => e = .returned (.agg (rA r)) ∧ Below w.heap.size w w' := by
  obtain ⟨W, hW⟩ : ∃ W, W = ((w.alloc (.cells (rA r) 84)).alloc (.cells #[.int .i64 0, .int .i64 0, .int .i64 0] 90)) := ⟨_, rfl⟩
  have hb : Below w.heap.size w W := by rw [hW]; exact ((Below.refl _ _).alloc (Nat.le_refl _) _).alloc (by simp) _
  have hX := (Blk.new w 84 (rA r)).alloc (.cells #[.int .i64 0, .int .i64 0, .int .i64 0] 90)
  have hY := Blk.new (w.alloc (.cells (rA r) 84)) 90 #[.int .i64 0, .int .i64 0, .int .i64 0]
  simp only [World.size_alloc] at hY
  rw [← hW] at hX hY
  have pc : ∀ i, W.cell? ⟨w.heap.size, i, none⟩ = (rA r)[i]? := fun i => hX.cell i
  have p0 := pc 0; have p1 := pc 1; have p2 := pc 2
  simp at p0 p1 p2
  have HB := Lib.hid hb; have HW := Lib.hid hW; have HY := Lib.hid hY
  have HS := Lib.hid (fun (U : World) (hU : Below W.heap.size W U) => show U.cell? ⟨w.heap.size, 0, none⟩ = some (.int .i64 r.loss) ∧ U.cell? ⟨w.heap.size, 1, none⟩ = some (.int .i64 r.pace.1) ∧ U.cell? ⟨w.heap.size, 2, none⟩ = some (.int .i64 r.pace.2) from
    ⟨bel_keep hU p0, bel_keep hU p1, bel_keep hU p2⟩)
  clear hb hW hX hY pc p0 p1 p2
  have HBC := Lib.hid (Below.refl W.heap.size W)
  go_enter Try.func44, Try.ntmps44
  go_upto_region 1 with fail
  rw [← HW.out]
  refine wp_region_till [6] (fun U => U.cell? ⟨w.heap.size, 0, none⟩ = some (.int .i64 r.loss) ∧ U.cell? ⟨w.heap.size, 1, none⟩ = some (.int .i64 r.pace.1) ∧ U.cell? ⟨w.heap.size, 2, none⟩ = some (.int .i64 r.pace.2)) (by kernel_rfl) (by exact HS.out _ HBC.out.drew) (fun hHeld => ?_)
  have hb0 := HBC.out.drew; clear HBC; have HBC := Lib.hid hb0; clear hb0
  (refine wpAnyL_take (n := 0) (i := 0) (oi := ?ox1) (v := ?vx1) ?hix1 ?k1x1 ?k2x1 ?k3x1 ?k4x1 ?k5x1 ?k6x1 ?hQx1 ?hYx1 ?hSx1 ?restx1; (case hix1 => (simp only [List.getElem?_toArray, List.getElem?_cons_succ, List.getElem?_cons_zero]; exact rfl)); (case k1x1 => kernel_rfl); (case k2x1 => kernel_rfl); (case k3x1 => kernel_rfl); (case k4x1 => kernel_rfl); (case k5x1 => kernel_rfl); (case k6x1 => kernel_rfl); (case hSx1 => assumption); (case hYx1 => (refine Or.inl ⟨rfl, ?hyx1⟩; intro w hSw; (try dsimp only at hSw); go_simp; (try with_reducible rfl))); (case hQx1 => exact (fun _ _ _ h => h)); (try simp only [Act.put, List.setIfInBounds_toArray, List.set_cons_zero, List.set_cons_succ]))
  (refine wpAnyL_take (n := 0) (i := 1) (oi := ?ox2) (v := ?vx2) ?hix2 ?k1x2 ?k2x2 ?k3x2 ?k4x2 ?k5x2 ?k6x2 ?hQx2 ?hYx2 ?hSx2 ?restx2; (case hix2 => (simp only [List.getElem?_toArray, List.getElem?_cons_succ, List.getElem?_cons_zero]; exact rfl)); (case k1x2 => kernel_rfl); (case k2x2 => kernel_rfl); (case k3x2 => kernel_rfl); (case k4x2 => kernel_rfl); (case k5x2 => kernel_rfl); (case k6x2 => kernel_rfl); (case hSx2 => assumption); (case hYx2 => (refine Or.inl ⟨rfl, ?hyx2⟩; intro w hSw; (try dsimp only at hSw); go_simp; (try with_reducible rfl))); (case hQx2 => exact (fun _ _ _ h => h)); (try simp only [Act.put, List.setIfInBounds_toArray, List.set_cons_zero, List.set_cons_succ]))
  (refine wpAnyL_take (n := 0) (i := 2) (oi := ?ox3) (v := ?vx3) ?hix3 ?k1x3 ?k2x3 ?k3x3 ?k4x3 ?k5x3 ?k6x3 ?hQx3 ?hYx3 ?hSx3 ?restx3; (case hix3 => (simp only [List.getElem?_toArray, List.getElem?_cons_succ, List.getElem?_cons_zero]; exact rfl)); (case k1x3 => kernel_rfl); (case k2x3 => kernel_rfl); (case k3x3 => kernel_rfl); (case k4x3 => kernel_rfl); (case k5x3 => kernel_rfl); (case k6x3 => kernel_rfl); (case hSx3 => assumption); (case hYx3 => (refine Or.inl ⟨rfl, ?hyx3⟩; intro w hSw; (try dsimp only at hSw); go_simp; (try with_reducible rfl))); (case hQx3 => exact (fun _ _ _ h => h)); (try simp only [Act.put, List.setIfInBounds_toArray, List.set_cons_zero, List.set_cons_succ]))
  (refine wpAnyL_take (n := 0) (i := 3) (oi := ?ox4) (v := ?vx4) ?hix4 ?k1x4 ?k2x4 ?k3x4 ?k4x4 ?k5x4 ?k6x4 ?hQx4 ?hYx4 ?hSx4 ?restx4; (case hix4 => (simp only [List.getElem?_toArray, List.getElem?_cons_succ, List.getElem?_cons_zero]; exact rfl)); (case k1x4 => kernel_rfl); (case k2x4 => kernel_rfl); (case k3x4 => kernel_rfl); (case k4x4 => kernel_rfl); (case k5x4 => kernel_rfl); (case k6x4 => kernel_rfl); (case hSx4 => assumption); (case hYx4 => (refine Or.inl ⟨rfl, ?hyx4⟩; intro w hSw; (try dsimp only at hSw); go_simp; (try with_reducible rfl))); (case hQx4 => exact (fun _ _ _ h => h)); (try simp only [Act.put, List.setIfInBounds_toArray, List.set_cons_zero, List.set_cons_succ]))
  refine wpAnyL_ready (rs := [4]) (by kernel_rfl) (by simp) ?_
  refine AllReadyL.cons (o := ?o4x5) ?hi4x5 (fun K hK => ?_) AllReadyL.nil
  (case hi4x5 => (simp only [List.getElem?_toArray, List.getElem?_cons_succ, List.getElem?_cons_zero]; exact rfl))
  go_simp
  go_at_call 61
  refine (to_d _ _ _).mono ?_
  rintro e w2 ⟨rfl, hbn⟩
  have hb0 := HBC.out.trans (hbn.mono HBC.out.size)
  clear HBC
  have HBC := Lib.hid hb0
  clear hb0 hbn
  (try go_wp2_with fail)
  (try clear hHeld)
  refine hK.out _ _ (by (try dsimp only); exact HS.out _ HBC.out) (fun hHeld => ?_)
  clear hK K
  (try simp only [Act.put, List.setIfInBounds_toArray, List.set_cons_zero, List.set_cons_succ])
  (refine wpAnyL_take (n := 0) (i := 5) (oi := ?ox6) (v := ?vx6) ?hix6 ?k1x6 ?k2x6 ?k3x6 ?k4x6 ?k5x6 ?k6x6 ?hQx6 ?hYx6 ?hSx6 ?restx6; (case hix6 => (simp only [List.getElem?_toArray, List.getElem?_cons_succ, List.getElem?_cons_zero]; exact rfl)); (case k1x6 => kernel_rfl); (case k2x6 => kernel_rfl); (case k3x6 => kernel_rfl); (case k4x6 => kernel_rfl); (case k5x6 => kernel_rfl); (case k6x6 => kernel_rfl); (case hSx6 => assumption); (case hYx6 => (refine Or.inl ⟨rfl, ?hyx6⟩; intro w hSw; (try dsimp only at hSw); go_simp; (try with_reducible rfl))); (case hQx6 => exact (fun _ _ _ h => h)); (try simp only [Act.put, List.setIfInBounds_toArray, List.set_cons_zero, List.set_cons_succ]))
  refine wpAnyL_ready (rs := [6]) (by kernel_rfl) (by simp) ?_
  refine AllReadyL.last (o := ?o6x7) ?hi6x7 ?he6x7 (fun K hK => ?_) AllReadyL.nil
  (case hi6x7 => (simp only [List.getElem?_toArray, List.getElem?_cons_succ, List.getElem?_cons_zero]; exact rfl))
  (case he6x7 => kernel_rfl)
  have HZ := Lib.hid (HY.out.below HBC.out HY.out.lt)
  have rc := HZ.out.cell; have rf := HZ.out.frozen
  have r0 := rc 0; have r1 := rc 1; have r2 := rc 2
  simp at r0 r1 r2
  have q0 := rf 0; have q1 := rf 1; have q2 := rf 2
  clear rc rf
  go_simp
  (try clear hHeld)
  refine hK.out _ _ ?_
  clear hK K
  (try simp only [Act.put, List.setIfInBounds_toArray, List.set_cons_zero, List.set_cons_succ])
  (refine wpAnyL_done (by kernel_rfl) ?_ _)
  have hWs : w.heap.size ≤ W.heap.size := HB.out.size
  have gB := below_setCells (B := w.heap.size) (g := w.heap.size + 1) (w0 := w) (by omega) (rA r).toList 0 w2 (HB.out.trans (HBC.out.mono hWs))
  have hBF := blk_setCells (rA r).toList 0 w2 [] _ (by simpa using HZ.out) rfl (by simp)
  simp only [rA, World.setCells, List.nil_append, Nat.reduceAdd] at hBF gB
  revert hBF gB
  generalize (World.setCell _ ⟨w.heap.size + 1, 2, none⟩ (Value.int IntKind.i64 r.pace.2)) = WF
  intro gB hBF
  have HG := Lib.hid gB
  clear gB
  go_wp2_with fail
  refine bodyPost_ret (v := .agg (rA r)) (results_cell_row (g := w.heap.size + 1) Try.results44 _ _ _ _ _ _ rfl hBF Try.underlying90 rfl (by kernel_rfl)) rfl ⟨rfl, HG.out⟩
theorem errH_a {r : Riv} {hs : List Hou} (h : 20 < hs.length) : errH r hs = 3 := by unfold errH; rw [if_pos h]
theorem errH_b {r : Riv} {hs : List Hou} (h : ¬ 20 < hs.length) (hb : allB okH hs = false) : errH r hs = 1 := by unfold errH; rw [if_neg h, hb]; simp
theorem errH_c {r : Riv} {hs : List Hou} (h : ¬ 20 < hs.length) (hb : allB okH hs = true) : errH r hs = if okRi r then 0 else 1 := by unfold errH; rw [if_neg h, hb]; simp
section
variable {A : Option Addr} {n cp : Nat} {r : Riv} {hs : List Hou} {w : World}
set_option maxRecDepth 100000 in
set_option maxHeartbeats 1000000 in
theorem housed_c (h : Rd encH 3 w A n hs) (hn : n ≤ maxLen) : Calls Try.prog 46 #[.agg (rA r), .slice A n cp] w fun e w' => e = .returned (.int .i64 (errH r hs)) ∧ Below w.heap.size w w' := by
  unfold maxLen at hn
  have hl := h.len
  have hb0 := (Below.refl w.heap.size w).alloc (Nat.le_refl _) (.cells (rA r) 84)
  have HB := Lib.hid hb0
  have HR := Lib.hid (h.below hb0)
  have hx := Blk.new w 84 (rA r)
  have p0 : (w.alloc (.cells (rA r) 84)).cell? ⟨w.heap.size, 0, none⟩ = some (.int .i64 r.loss) := hx.cell 0
  have p1 : (w.alloc (.cells (rA r) 84)).cell? ⟨w.heap.size, 1, none⟩ = some (.int .i64 r.pace.1) := hx.cell 1
  have p2 : (w.alloc (.cells (rA r) 84)).cell? ⟨w.heap.size, 2, none⟩ = some (.int .i64 r.pace.2) := hx.cell 2
  have HL := Lib.hid hl
  clear h hb0 hx
  by_cases h20 : 20 < n
  · have HE := Lib.hid (errH_a (r := r) (hs := hs) (by omega))
    have h20' : (20 : Int) < (n : Int) := by omega
    clear hl
    go_enter Try.func46, Try.ntmps46
    go_wp2_with fail
    go_ret
    exact ⟨ret_int HE.out.symm, HB.out⟩
  · have h20' : ¬ (20 : Int) < (n : Int) := by omega
    have h21 : ¬ 20 < hs.length := by omega
    have H21 := Lib.hid h21
    clear hl h21
    have HHC := Lib.hid rRightHouse_c; have HRC := Lib.hid (rRightRiver_c r)
    go_enter Try.func46, Try.ntmps46
    go_wp2_with fail
    go_loopw [5] (fun i wr => ∃ k : Nat, k ≤ n ∧ i = .int .i64 k ∧ (∀ (j : Nat) (x : Hou), j < k → hs[j]? = some x → okH x = true) ∧ Below (w.alloc (.cells (rA r) 84)).heap.size (w.alloc (.cells (rA r) 84)) wr) (fun i _ => n - (intOf i).toNat)
    case atStart => exact ⟨0, Nat.zero_le _, rfl, fun _ _ hj => absurd hj (by omega), Below.refl _ _⟩
    case round =>
      obtain ⟨k, hk, rfl, hall, hbr⟩ := hrel
      have HA := Lib.hid hall; have HBR := Lib.hid hbr
      clear hall
      have q0 := bel_keep hbr p0; have q1 := bel_keep hbr p1; have q2 := bel_keep hbr p2
      by_cases hlt : k < n
      · obtain ⟨b, o, x, rfl, hbl, hx, c0, c1, c2⟩ := (HR.out.below hbr).atH hlt
        have HX := Lib.hid hx; have HLT := Lib.hid hlt
        have hkn : (k : Int) < (n : Int) := by omega
        have hk0 : (0 : Int) ≤ (k : Int) := by omega
        obtain ⟨ok, hok⟩ : ∃ ok, ok = okH x := ⟨_, rfl⟩
        have HC := Lib.hid (HHC.out x)
        rw [← hok] at HC
        have HK := Lib.hid hok
        clear hx hbr hlt hok
        go_wp2_with fail
        go_at_call 83
        refine (HC.out _).mono ?_
        rintro e w1 ⟨rfl, hb9⟩
        have t0 := below_tr HBR.out hb9
        clear HBR
        have HBR := Lib.hid t0
        clear t0
        clear hb9 
        cases ok
        · have HE := Lib.hid (errH_b (r := r) (hs := hs) H21.out (allB_not.2 ⟨k, x, HX.out, HK.out.symm⟩))
          go_wp2_with fail
          go_ret
          exact ⟨ret_int HE.out.symm, below_tr HB.out (HBR.out.mono (by simp))⟩
        · go_wp2_with fail
          go_roundw
          case rel =>
            refine ⟨k + 1, by have := HLT.out; omega, by go_num, fun j y hj hy => ?_, HBR.out⟩
            rcases Nat.lt_or_ge j k with h | h
            · exact HA.out j y h hy
            · obtain rfl : j = k := by omega
              rw [HX.out] at hy; cases hy; exact HK.out.symm
          case measure => have := HLT.out; simp [intOf] <;> omega
      · obtain rfl : n = k := by omega
        have HE := Lib.hid (errH_c (r := r) (hs := hs) H21.out (allB_iff.2 fun j x hx => HA.out j x (by have := lt_of_get hx; have := HL.out; omega) hx))
        obtain ⟨ok, hok⟩ : ∃ ok, ok = okRi r := ⟨_, rfl⟩
        rw [← hok] at HRC HE
        clear hbr hok
        go_wp2_with fail
        go_at_call 84
        refine (HRC.out _).mono ?_
        rintro e w1 ⟨rfl, hb9⟩
        have t0 := below_tr HBR.out hb9
        clear HBR
        have HBR := Lib.hid t0
        clear t0
        clear hb9 
        cases ok
        · go_wp2_with fail
          go_ret
          exact ⟨ret_int HE.out.symm, below_tr HB.out (HBR.out.mono (by simp))⟩
        · go_wp2_with fail
          go_ret
          exact ⟨ret_int HE.out.symm, below_tr HB.out (HBR.out.mono (by simp))⟩
end
end Go.Proofs.Ytpijmfbpdglchaa
