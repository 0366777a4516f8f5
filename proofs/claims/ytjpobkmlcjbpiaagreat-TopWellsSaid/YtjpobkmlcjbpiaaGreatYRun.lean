/- CONTRACT of (*water.way).run: the levels after each day, with another soak. -/
import Derived.Test.YtjpobkmlcjbpiaaGreatYNext
set_option linter.unusedVariables false
set_option linter.unusedSimpArgs false
namespace Go.Proofs.YtjpobkmlcjbpiaaGreat
open Go.RowKit Go.Proofs Go.Shelf
attribute [local go_sem] Oper.semAt_some
attribute [local go_sem ↓] Go.wp_at_zero Go.wp_at_succ

theorem infoII : (Tryz.prog.info? 33).map (fun i => (i.zero, i.size, i.bytes)) = some (some (.slice none 0 0), 1, 24) := by kernel_rfl
/-- the levels after each day, as a list of lists -/
structure LevR (E : WE) (W : World) (A : Option Addr) (rs : List RowI) : Prop where
  rd : Rd encI 1 W A E.DS.n rs
  rows : ∀ (j : Nat) (r : RowI), rs[j]? = some r → r.n = E.CS.n ∧ r.l = (E.st (j + 1)).lv ∧ Rd enc1 1 W r.A r.n r.l
theorem LevR.below {E : WE} {W W' : World} {A : Option Addr} {rs : List RowI} (h : LevR E W A rs) (hb : Below W.heap.size W W') : LevR E W' A rs :=
  ⟨h.rd.below hb, fun j r hr => by obtain ⟨h1, h2, h3⟩ := h.rows j r hr; exact ⟨h1, h2, h3.below hb⟩⟩
theorem RunI.lev {E : WE} {w : World} {base W0 Bx Bw Bo : Nat} {s : WaySt} {v vb : Value} {rs : List RowI} {W : World} (h : RunI E w base W0 Bx Bw Bo s E.DS.n v vb rs W) (hok : E.Ok) : ∃ A c, v = .slice A E.DS.n c ∧ LevR E W A rs := by
  obtain ⟨A, c, hv, _⟩ := own_form h.own
  refine ⟨A, c, hv, ?_, fun j r hr => ?_⟩
  · have := h.own; rw [hv] at this; exact Rd.of_own encI_len this h.len
  · obtain ⟨h1, h2⟩ := h.rows j r hr
    refine ⟨h1, h2, Rd.of_own enc1_len (h.owns r (List.mem_of_getElem? hr)) ?_⟩
    rw [h2, h1]; exact (WE.bd hok (j + 1)).2.1

set_option linter.unusedSimpArgs false in
set_option maxRecDepth 100000 in
set_option maxHeartbeats 4000000 in
theorem run_c {E : WE} (hok : E.Ok) {tso0 : Int} {snow left : Int} {lv : Nat → Int} {W1 : Nat} {w : World} (hd1 : 1 ≤ E.DS.n)
    (h : Blk w W1 87 (wayC E.CS E.sn0 E.sn1 E.so0 E.so1 E.melt E.DS E.tsn tso0 E.LV E.RN lv snow left)) (hr : E.Rds w) (hl : Rd enc1 1 w E.LV.A E.LV.n E.L0) (hl8 : E.LV.n ≤ 8) :
    Calls Tryz.prog 44 #[.pointer (some ⟨W1, 0, none⟩), .int .i64 E.tso] w fun e w' => ∃ A c rs, e = .returned (.slice A E.DS.n c) ∧ LevR E w' A rs ∧ Below w.heap.size w w' := by
  have HH := Lib.hid h; have HOK := Lib.hid hok; have HR := Lib.hid hr; have HL := Lib.hid hl
  clear h hok hr hl
  refine (callsIn_wide (n := 8)).1 ?_
  refine callsIn_of_wp_marks Tryz.func44 rfl trivial ?_ rfl
  simp only [Tryz.ntmps44, List.size_toArray, List.length_cons, List.length_nil, Nat.reduceAdd, Nat.reduceSub, Array.replicate_succ, Array.replicate_zero, List.push_toArray, List.append_toArray, List.nil_append, List.cons_append]
  refine wpIn_wide.2 ?_
  go_upto_region 1 with fail
  have hal := (Below.refl w.heap.size w).alloc (Nat.le_refl _) (.cells #[.slice none 0 0] 39)
  have HB := Lib.hid hal
  have HBO := Lib.hid (Blk.new w 39 #[.slice none 0 0])
  have HH1 := Lib.hid (HH.out.below hal HH.out.lt)
  have HW1 := Lib.hid HH.out.lt
  clear hal HH
  revert HB HBO HH1
  generalize World.alloc w _ = wa
  intro HB HBO HH1
  have c7 := HH1.out.cell 7; have c8 := HH1.out.cell 8; have c9 := HH1.out.cell 9; have c10 := HH1.out.cell 10
  simp [wayC, Slc.v] at c7 c8 c9 c10
  go_upto_region 3 with fail
  have hal := (Below.refl wa.heap.size wa).alloc (Nat.le_refl _) (.cells #[.int .i64 E.tsn, .int .i64 E.tso, .slice E.LV.A E.LV.n E.LV.c, .slice E.RN.A E.RN.n E.RN.c] 50)
  have HT := Lib.hid (Blk.new wa 50 #[.int .i64 E.tsn, .int .i64 E.tso, .slice E.LV.A E.LV.n E.LV.c, .slice E.RN.A E.RN.n E.RN.c])
  have HBB := Lib.hid (HB.out.trans (hal.mono HB.out.size)); have HBO2 := Lib.hid (HBO.out.below hal HBO.out.lt); have HH2 := Lib.hid (HH1.out.below hal HH1.out.lt)
  clear hal c7 c8 c9 c10 HB HBO HH1
  revert HT HBB HBO2 HH2
  generalize hgT : wa.heap.size = T
  generalize World.alloc wa _ = wb
  intro HT HBB HBO2 HH2
  clear hgT
  go_cut [6] from 13 to 22 (fun pv wx => ∃ W0 Bw, pv = .pointer (some ⟨Bw, 0, none⟩) ∧ w.heap.size ≤ W0 ∧ E.blk wx W0 (E.st 0) ∧ Blk wx Bw 79 #[.pointer (some ⟨W0, 0, none⟩)] ∧ Blk wx w.heap.size 39 #[.slice none 0 0] ∧ Below w.heap.size w wx)
  case first =>
    have d0 := HH2.out.cell 0; have d1 := HH2.out.cell 1; have d2 := HH2.out.cell 2; have d3 := HH2.out.cell 3; have d4 := HH2.out.cell 4; have d5 := HH2.out.cell 5; have d6 := HH2.out.cell 6
    have t0 := HT.out.cell 0; have t1 := HT.out.cell 1; have t2 := HT.out.cell 2; have t3 := HT.out.cell 3
    simp [wayC, Slc.v] at d0 d1 d2 d3 d4 d5 d6 t0 t1 t2 t3
    refine (wpIn_wide (n := 8)).1 ?_
    refine wpIn_region_till_wide [11] (fun U => U.cell? ⟨W1, 0, none⟩ = some (.slice E.CS.A E.CS.n E.CS.c) ∧ U.cell? ⟨W1, 1, none⟩ = some (.int .i64 E.sn0) ∧ U.cell? ⟨W1, 2, none⟩ = some (.int .i64 E.sn1) ∧ U.cell? ⟨W1, 3, none⟩ = some (.int .i64 E.so0) ∧ U.cell? ⟨W1, 4, none⟩ = some (.int .i64 E.so1) ∧ U.cell? ⟨W1, 5, none⟩ = some (.int .i64 E.melt) ∧ U.cell? ⟨W1, 6, none⟩ = some (.slice E.DS.A E.DS.n E.DS.c) ∧ U.cell? ⟨T, 0, none⟩ = some (.int .i64 E.tsn) ∧ U.cell? ⟨T, 1, none⟩ = some (.int .i64 E.tso) ∧ U.cell? ⟨T, 2, none⟩ = some (.slice E.LV.A E.LV.n E.LV.c) ∧ U.cell? ⟨T, 3, none⟩ = some (.slice E.RN.A E.RN.n E.RN.c)) (by kernel_rfl) (by exact ⟨d0, d1, d2, d3, d4, d5, d6, t0, t1, t2, t3⟩) (fun hHeld => ?_)
    have hb9 := (Below.refl wb.heap.size wb).drew
    have t0 := below_tr HBB.out hb9; have t1 := HBO2.out.below hb9 HBO2.out.lt; have t2 := HH2.out.below hb9 HH2.out.lt; have t3 := HT.out.below hb9 HT.out.lt
    clear HBB HBO2 HH2 HT
    have HBB := Lib.hid t0; have HBO2 := Lib.hid t1; have HH2 := Lib.hid t2; have HT := Lib.hid t3
    clear t0 t1 t2 t3
    clear hb9
    revert hHeld HBB HBO2 HH2 HT
    generalize wb.drew = w0
    intro hHeld HBB HBO2 HH2 HT
    (refine wpAnyL_take (n := 0) (i := 0) (oi := ?ox1) (v := ?vx1) ?hix1 ?k1x1 ?k2x1 ?k3x1 ?k4x1 ?k5x1 ?k6x1 ?hQx1 ?hYx1 ?hSx1 ?restx1; (case hix1 => (simp only [List.getElem?_toArray, List.getElem?_cons_succ, List.getElem?_cons_zero]; exact rfl)); (case k1x1 => kernel_rfl); (case k2x1 => kernel_rfl); (case k3x1 => kernel_rfl); (case k4x1 => kernel_rfl); (case k5x1 => kernel_rfl); (case k6x1 => kernel_rfl); (case hSx1 => assumption); (case hYx1 => (refine Or.inl ⟨rfl, ?hyx1⟩; intro w hSw; (try dsimp only at hSw); go_simp; (try with_reducible rfl))); (case hQx1 => exact (fun _ _ _ h => h)); (try simp only [Act.put, List.setIfInBounds_toArray, List.set_cons_zero, List.set_cons_succ]))
    (refine wpAnyL_take (n := 0) (i := 1) (oi := ?ox2) (v := ?vx2) ?hix2 ?k1x2 ?k2x2 ?k3x2 ?k4x2 ?k5x2 ?k6x2 ?hQx2 ?hYx2 ?hSx2 ?restx2; (case hix2 => (simp only [List.getElem?_toArray, List.getElem?_cons_succ, List.getElem?_cons_zero]; exact rfl)); (case k1x2 => kernel_rfl); (case k2x2 => kernel_rfl); (case k3x2 => kernel_rfl); (case k4x2 => kernel_rfl); (case k5x2 => kernel_rfl); (case k6x2 => kernel_rfl); (case hSx2 => assumption); (case hYx2 => (refine Or.inl ⟨rfl, ?hyx2⟩; intro w hSw; (try dsimp only at hSw); go_simp; (try with_reducible rfl))); (case hQx2 => exact (fun _ _ _ h => h)); (try simp only [Act.put, List.setIfInBounds_toArray, List.set_cons_zero, List.set_cons_succ]))
    (refine wpAnyL_take (n := 0) (i := 2) (oi := ?ox3) (v := ?vx3) ?hix3 ?k1x3 ?k2x3 ?k3x3 ?k4x3 ?k5x3 ?k6x3 ?hQx3 ?hYx3 ?hSx3 ?restx3; (case hix3 => (simp only [List.getElem?_toArray, List.getElem?_cons_succ, List.getElem?_cons_zero]; exact rfl)); (case k1x3 => kernel_rfl); (case k2x3 => kernel_rfl); (case k3x3 => kernel_rfl); (case k4x3 => kernel_rfl); (case k5x3 => kernel_rfl); (case k6x3 => kernel_rfl); (case hSx3 => assumption); (case hYx3 => (refine Or.inl ⟨rfl, ?hyx3⟩; intro w hSw; (try dsimp only at hSw); go_simp; (try with_reducible rfl))); (case hQx3 => exact (fun _ _ _ h => h)); (try simp only [Act.put, List.setIfInBounds_toArray, List.set_cons_zero, List.set_cons_succ]))
    (refine wpAnyL_take (n := 0) (i := 3) (oi := ?ox4) (v := ?vx4) ?hix4 ?k1x4 ?k2x4 ?k3x4 ?k4x4 ?k5x4 ?k6x4 ?hQx4 ?hYx4 ?hSx4 ?restx4; (case hix4 => (simp only [List.getElem?_toArray, List.getElem?_cons_succ, List.getElem?_cons_zero]; exact rfl)); (case k1x4 => kernel_rfl); (case k2x4 => kernel_rfl); (case k3x4 => kernel_rfl); (case k4x4 => kernel_rfl); (case k5x4 => kernel_rfl); (case k6x4 => kernel_rfl); (case hSx4 => assumption); (case hYx4 => (refine Or.inl ⟨rfl, ?hyx4⟩; intro w hSw; (try dsimp only at hSw); go_simp; (try with_reducible rfl))); (case hQx4 => exact (fun _ _ _ h => h)); (try simp only [Act.put, List.setIfInBounds_toArray, List.set_cons_zero, List.set_cons_succ]))
    (refine wpAnyL_take (n := 0) (i := 4) (oi := ?ox5) (v := ?vx5) ?hix5 ?k1x5 ?k2x5 ?k3x5 ?k4x5 ?k5x5 ?k6x5 ?hQx5 ?hYx5 ?hSx5 ?restx5; (case hix5 => (simp only [List.getElem?_toArray, List.getElem?_cons_succ, List.getElem?_cons_zero]; exact rfl)); (case k1x5 => kernel_rfl); (case k2x5 => kernel_rfl); (case k3x5 => kernel_rfl); (case k4x5 => kernel_rfl); (case k5x5 => kernel_rfl); (case k6x5 => kernel_rfl); (case hSx5 => assumption); (case hYx5 => (refine Or.inl ⟨rfl, ?hyx5⟩; intro w hSw; (try dsimp only at hSw); go_simp; (try with_reducible rfl))); (case hQx5 => exact (fun _ _ _ h => h)); (try simp only [Act.put, List.setIfInBounds_toArray, List.set_cons_zero, List.set_cons_succ]))
    (refine wpAnyL_take (n := 0) (i := 5) (oi := ?ox6) (v := ?vx6) ?hix6 ?k1x6 ?k2x6 ?k3x6 ?k4x6 ?k5x6 ?k6x6 ?hQx6 ?hYx6 ?hSx6 ?restx6; (case hix6 => (simp only [List.getElem?_toArray, List.getElem?_cons_succ, List.getElem?_cons_zero]; exact rfl)); (case k1x6 => kernel_rfl); (case k2x6 => kernel_rfl); (case k3x6 => kernel_rfl); (case k4x6 => kernel_rfl); (case k5x6 => kernel_rfl); (case k6x6 => kernel_rfl); (case hSx6 => assumption); (case hYx6 => (refine Or.inl ⟨rfl, ?hyx6⟩; intro w hSw; (try dsimp only at hSw); go_simp; (try with_reducible rfl))); (case hQx6 => exact (fun _ _ _ h => h)); (try simp only [Act.put, List.setIfInBounds_toArray, List.set_cons_zero, List.set_cons_succ]))
    (refine wpAnyL_take (n := 0) (i := 6) (oi := ?ox7) (v := ?vx7) ?hix7 ?k1x7 ?k2x7 ?k3x7 ?k4x7 ?k5x7 ?k6x7 ?hQx7 ?hYx7 ?hSx7 ?restx7; (case hix7 => (simp only [List.getElem?_toArray, List.getElem?_cons_succ, List.getElem?_cons_zero]; exact rfl)); (case k1x7 => kernel_rfl); (case k2x7 => kernel_rfl); (case k3x7 => kernel_rfl); (case k4x7 => kernel_rfl); (case k5x7 => kernel_rfl); (case k6x7 => kernel_rfl); (case hSx7 => assumption); (case hYx7 => (refine Or.inl ⟨rfl, ?hyx7⟩; intro w hSw; (try dsimp only at hSw); go_simp; (try with_reducible rfl))); (case hQx7 => exact (fun _ _ _ h => h)); (try simp only [Act.put, List.setIfInBounds_toArray, List.set_cons_zero, List.set_cons_succ]))
    (refine wpAnyL_take (n := 0) (i := 7) (oi := ?ox8) (v := ?vx8) ?hix8 ?k1x8 ?k2x8 ?k3x8 ?k4x8 ?k5x8 ?k6x8 ?hQx8 ?hYx8 ?hSx8 ?restx8; (case hix8 => (simp only [List.getElem?_toArray, List.getElem?_cons_succ, List.getElem?_cons_zero]; exact rfl)); (case k1x8 => kernel_rfl); (case k2x8 => kernel_rfl); (case k3x8 => kernel_rfl); (case k4x8 => kernel_rfl); (case k5x8 => kernel_rfl); (case k6x8 => kernel_rfl); (case hSx8 => assumption); (case hYx8 => (refine Or.inl ⟨rfl, ?hyx8⟩; intro w hSw; (try dsimp only at hSw); go_simp; (try with_reducible rfl))); (case hQx8 => exact (fun _ _ _ h => h)); (try simp only [Act.put, List.setIfInBounds_toArray, List.set_cons_zero, List.set_cons_succ]))
    (refine wpAnyL_take (n := 0) (i := 8) (oi := ?ox9) (v := ?vx9) ?hix9 ?k1x9 ?k2x9 ?k3x9 ?k4x9 ?k5x9 ?k6x9 ?hQx9 ?hYx9 ?hSx9 ?restx9; (case hix9 => (simp only [List.getElem?_toArray, List.getElem?_cons_succ, List.getElem?_cons_zero]; exact rfl)); (case k1x9 => kernel_rfl); (case k2x9 => kernel_rfl); (case k3x9 => kernel_rfl); (case k4x9 => kernel_rfl); (case k5x9 => kernel_rfl); (case k6x9 => kernel_rfl); (case hSx9 => assumption); (case hYx9 => (refine Or.inl ⟨rfl, ?hyx9⟩; intro w hSw; (try dsimp only at hSw); go_simp; (try with_reducible rfl))); (case hQx9 => exact (fun _ _ _ h => h)); (try simp only [Act.put, List.setIfInBounds_toArray, List.set_cons_zero, List.set_cons_succ]))
    refine wpAnyL_ready (rs := [9, 10]) (by kernel_rfl) (by simp) ?_
    refine AllReadyL.cons (o := ?o9x10) ?hi9x10 (fun K hK => ?_) (AllReadyL.cons (o := ?o10x10) ?hi10x10 (fun K hK => ?_) AllReadyL.nil)
    (case hi9x10 => (simp only [List.getElem?_toArray, List.getElem?_cons_succ, List.getElem?_cons_zero]; exact rfl))
    (case hi10x10 => (simp only [List.getElem?_toArray, List.getElem?_cons_succ, List.getElem?_cons_zero]; exact rfl))
    · skip
      go_simp
      go_at_call 23
      refine ((begin_c (CS := E.CS) (DS := E.DS) (LV := E.LV) (RN := E.RN) (L := E.L0) (HL.out.below HBB.out) hl8)).mono ?_
      rintro e w1 ⟨W0, rfl, hge, hway, hb9⟩
      have HGE := Lib.hid (Nat.le_trans HBB.out.size hge); clear hge
      have t0 := below_tr HBB.out hb9; have t1 := HBO2.out.below hb9 HBO2.out.lt; have t2 := HH2.out.below hb9 HH2.out.lt; have t3 := HT.out.below hb9 HT.out.lt
      clear HBB HBO2 HH2 HT
      have HBB := Lib.hid t0; have HBO2 := Lib.hid t1; have HH2 := Lib.hid t2; have HT := Lib.hid t3
      clear t0 t1 t2 t3
      have HWAY := Lib.hid hway
      clear hb9 hway
      (try go_wp2_with fail)
      (try clear hHeld)
      refine hK.out _ _ (by (try dsimp only); exact ⟨by simpa [wayC, Slc.v] using HH2.out.cell 0, by simpa [wayC, Slc.v] using HH2.out.cell 1, by simpa [wayC, Slc.v] using HH2.out.cell 2, by simpa [wayC, Slc.v] using HH2.out.cell 3, by simpa [wayC, Slc.v] using HH2.out.cell 4, by simpa [wayC, Slc.v] using HH2.out.cell 5, by simpa [wayC, Slc.v] using HH2.out.cell 6, by simpa using HT.out.cell 0, by simpa using HT.out.cell 1, by simpa using HT.out.cell 2, by simpa using HT.out.cell 3⟩) (fun hHeld => ?_)
      clear hK K
      (try simp only [Act.put, List.setIfInBounds_toArray, List.set_cons_zero, List.set_cons_succ])
      refine wpAnyL_ready (rs := [10]) (by kernel_rfl) (by simp) ?_
      refine AllReadyL.cons (o := ?o10x11) ?hi10x11 (fun K hK => ?_) AllReadyL.nil
      (case hi10x11 => (simp only [List.getElem?_toArray, List.getElem?_cons_succ, List.getElem?_cons_zero]; exact rfl))
      go_simp
      have hb9 := (Below.refl w1.heap.size w1).alloc (Nat.le_refl _) (.cells #[.pointer none] 79)
      have hn := Blk.new w1 79 #[.pointer none]
      have HGA := Lib.hid HBB.out.size
      have t0 := below_tr HBB.out hb9; have t1 := HBO2.out.below hb9 HBO2.out.lt; have t2 := HH2.out.below hb9 HH2.out.lt; have t3 := HT.out.below hb9 HT.out.lt; have t4 := HWAY.out.below hb9 HWAY.out.lt
      clear HBB HBO2 HH2 HT HWAY
      have HBB := Lib.hid t0; have HBO2 := Lib.hid t1; have HH2 := Lib.hid t2; have HT := Lib.hid t3; have HWAY := Lib.hid t4
      clear t0 t1 t2 t3 t4
      have HA := Lib.hid hn
      clear hb9 hn
      (try clear hHeld)
      refine hK.out _ _ (by (try dsimp only); exact ⟨by simpa [wayC, Slc.v] using HH2.out.cell 0, by simpa [wayC, Slc.v] using HH2.out.cell 1, by simpa [wayC, Slc.v] using HH2.out.cell 2, by simpa [wayC, Slc.v] using HH2.out.cell 3, by simpa [wayC, Slc.v] using HH2.out.cell 4, by simpa [wayC, Slc.v] using HH2.out.cell 5, by simpa [wayC, Slc.v] using HH2.out.cell 6, by simpa using HT.out.cell 0, by simpa using HT.out.cell 1, by simpa using HT.out.cell 2, by simpa using HT.out.cell 3⟩) (fun hHeld => ?_)
      clear hK K
      (try simp only [Act.put, List.setIfInBounds_toArray, List.set_cons_zero, List.set_cons_succ])
      revert hHeld HGA HBB HBO2 HH2 HT HWAY HA
      generalize hgA : w1.heap.size = gA
      generalize (World.alloc w1 (.cells #[.pointer none] 79)) = w0
      intro HGA HBB HBO2 HH2 HT HWAY HA hHeld
      clear hgA
      refine wpAnyL_ready (rs := [11]) (by kernel_rfl) (by simp) ?_
      refine AllReadyL.last (o := ?o11x12) ?hi11x12 ?he11x12 (fun K hK => ?_) AllReadyL.nil
      (case hi11x12 => (simp only [List.getElem?_toArray, List.getElem?_cons_succ, List.getElem?_cons_zero]; exact rfl))
      (case he11x12 => kernel_rfl)
      have s0 := HA.out.cell 0; have f0 := HA.out.frozen 0
      (try simp at s0)
      go_simp
      (try clear hHeld)
      refine hK.out _ _ ?_
      clear hK K
      (try simp only [Act.put, List.setIfInBounds_toArray, List.set_cons_zero, List.set_cons_succ])
      (refine wpAnyL_done (by kernel_rfl) ?_ _)
      dsimp only [OnlyN]
      refine (‹∀ (a' : Act) (w' : World), Met _ a' w' → _› _ _ ?_)
      go_meet
      exact ⟨W0, _, rfl, HGE.out, HWAY.out.far (Blk.ne HWAY.out HA.out (by decide)) _, by simpa using HA.out.set_ 0 (.pointer (some ⟨W0, 0, none⟩)), HBO2.out.far (Blk.ne HBO2.out HA.out (by decide)) _, HBB.out.setCell (p := ⟨_, 0, none⟩) HGA.out _⟩
    · skip
      go_simp
      have hb9 := (Below.refl w0.heap.size w0).alloc (Nat.le_refl _) (.cells #[.pointer none] 79)
      have hn := Blk.new w0 79 #[.pointer none]
      have HGA := Lib.hid HBB.out.size
      have t0 := below_tr HBB.out hb9; have t1 := HBO2.out.below hb9 HBO2.out.lt; have t2 := HH2.out.below hb9 HH2.out.lt; have t3 := HT.out.below hb9 HT.out.lt
      clear HBB HBO2 HH2 HT
      have HBB := Lib.hid t0; have HBO2 := Lib.hid t1; have HH2 := Lib.hid t2; have HT := Lib.hid t3
      clear t0 t1 t2 t3
      have HA := Lib.hid hn
      clear hb9 hn
      (try clear hHeld)
      refine hK.out _ _ (by (try dsimp only); exact ⟨by simpa [wayC, Slc.v] using HH2.out.cell 0, by simpa [wayC, Slc.v] using HH2.out.cell 1, by simpa [wayC, Slc.v] using HH2.out.cell 2, by simpa [wayC, Slc.v] using HH2.out.cell 3, by simpa [wayC, Slc.v] using HH2.out.cell 4, by simpa [wayC, Slc.v] using HH2.out.cell 5, by simpa [wayC, Slc.v] using HH2.out.cell 6, by simpa using HT.out.cell 0, by simpa using HT.out.cell 1, by simpa using HT.out.cell 2, by simpa using HT.out.cell 3⟩) (fun hHeld => ?_)
      clear hK K
      (try simp only [Act.put, List.setIfInBounds_toArray, List.set_cons_zero, List.set_cons_succ])
      revert hHeld HGA HBB HBO2 HH2 HT HA
      generalize hgA : w0.heap.size = gA
      generalize (World.alloc w0 (.cells #[.pointer none] 79)) = w0
      intro HGA HBB HBO2 HH2 HT HA hHeld
      clear hgA
      refine wpAnyL_ready (rs := [9]) (by kernel_rfl) (by simp) ?_
      refine AllReadyL.cons (o := ?o9x13) ?hi9x13 (fun K hK => ?_) AllReadyL.nil
      (case hi9x13 => (simp only [List.getElem?_toArray, List.getElem?_cons_succ, List.getElem?_cons_zero]; exact rfl))
      go_simp
      go_at_call 23
      refine ((begin_c (CS := E.CS) (DS := E.DS) (LV := E.LV) (RN := E.RN) (L := E.L0) (HL.out.below HBB.out) hl8)).mono ?_
      rintro e w1 ⟨W0, rfl, hge, hway, hb9⟩
      have HGE := Lib.hid (Nat.le_trans HBB.out.size hge); clear hge
      have t0 := below_tr HBB.out hb9; have t1 := HBO2.out.below hb9 HBO2.out.lt; have t2 := HH2.out.below hb9 HH2.out.lt; have t3 := HT.out.below hb9 HT.out.lt; have t4 := HA.out.below hb9 HA.out.lt
      clear HBB HBO2 HH2 HT HA
      have HBB := Lib.hid t0; have HBO2 := Lib.hid t1; have HH2 := Lib.hid t2; have HT := Lib.hid t3; have HA := Lib.hid t4
      clear t0 t1 t2 t3 t4
      have HWAY := Lib.hid hway
      clear hb9 hway
      (try go_wp2_with fail)
      (try clear hHeld)
      refine hK.out _ _ (by (try dsimp only); exact ⟨by simpa [wayC, Slc.v] using HH2.out.cell 0, by simpa [wayC, Slc.v] using HH2.out.cell 1, by simpa [wayC, Slc.v] using HH2.out.cell 2, by simpa [wayC, Slc.v] using HH2.out.cell 3, by simpa [wayC, Slc.v] using HH2.out.cell 4, by simpa [wayC, Slc.v] using HH2.out.cell 5, by simpa [wayC, Slc.v] using HH2.out.cell 6, by simpa using HT.out.cell 0, by simpa using HT.out.cell 1, by simpa using HT.out.cell 2, by simpa using HT.out.cell 3⟩) (fun hHeld => ?_)
      clear hK K
      (try simp only [Act.put, List.setIfInBounds_toArray, List.set_cons_zero, List.set_cons_succ])
      refine wpAnyL_ready (rs := [11]) (by kernel_rfl) (by simp) ?_
      refine AllReadyL.last (o := ?o11x14) ?hi11x14 ?he11x14 (fun K hK => ?_) AllReadyL.nil
      (case hi11x14 => (simp only [List.getElem?_toArray, List.getElem?_cons_succ, List.getElem?_cons_zero]; exact rfl))
      (case he11x14 => kernel_rfl)
      have s0 := HA.out.cell 0; have f0 := HA.out.frozen 0
      (try simp at s0)
      go_simp
      (try clear hHeld)
      refine hK.out _ _ ?_
      clear hK K
      (try simp only [Act.put, List.setIfInBounds_toArray, List.set_cons_zero, List.set_cons_succ])
      (refine wpAnyL_done (by kernel_rfl) ?_ _)
      dsimp only [OnlyN]
      refine (‹∀ (a' : Act) (w' : World), Met _ a' w' → _› _ _ ?_)
      go_meet
      exact ⟨W0, _, rfl, HGE.out, HWAY.out.far (Blk.ne HWAY.out HA.out (by decide)) _, by simpa using HA.out.set_ 0 (.pointer (some ⟨W0, 0, none⟩)), HBO2.out.far (Blk.ne HBO2.out HA.out (by decide)) _, HBB.out.setCell (p := ⟨_, 0, none⟩) HGA.out _⟩
  case rest =>
    obtain ⟨W0, Bw, rfl, hge, hway, hbw, hbo, hbel⟩ := hcut
    clear HBB HT HBO2 HH2
    have hc := hbw.cell 0
    simp at hc
    go_wp2_with fail
    go_at_call 24
    refine (after_c W0 _).mono ?_
    rintro e w2 ⟨rfl, rfl⟩
    go_wp2_with fail
    refine (wpIn_wide (n := 8)).1 ?_
    have hal := (Below.refl wc.heap.size wc).alloc (Nat.le_refl _) (.cells #[.pointer (some ⟨W0, 0, none⟩)] 79)
    have hbx := Blk.new wc 79 #[.pointer (some ⟨W0, 0, none⟩)]
    have hrd := HR.out.below hbel
    have hre : ∀ ad, (E.CS.A = some ad ∨ E.DS.A = some ad ∨ E.RN.A = some ad) → ad.block < w.heap.size := by
      have hok := HOK.out
      rintro ad (e | e | e)
      · obtain ⟨b, o, e', hlt, _⟩ := HR.out.c.2 (by have := hok.n; omega)
        rw [e] at e'; cases e'; exact hlt
      · obtain ⟨b, o, e', hlt, _⟩ := HR.out.d.2 (by omega)
        rw [e] at e'; cases e'; exact hlt
      · obtain ⟨b, o, e', hlt, _⟩ := HR.out.r.2 (by have := hok.rn; omega)
        rw [e] at e'; cases e'; exact hlt
    have hne : E.Ne W0 := ⟨fun ad e => by have := hre ad (.inl e); omega, fun ad e => by have := hre ad (.inr (.inl e)); omega, fun ad e => by have := hre ad (.inr (.inr e)); omega⟩
    have hRI : RunI E w w.heap.size W0 wc.heap.size Bw w.heap.size (E.st 0) 0 (.slice none 0 0) (.slice none 0 0) [] (wc.alloc (.cells #[.pointer (some ⟨W0, 0, none⟩)] 79)) :=
      ⟨hway.below hal hway.lt, (HR.out.below hbel).below hal, hbx, hbw.below hal hbw.lt, hbo.below hal hbo.lt, World.ownsRow_nil _ _ _ _, rfl, fun j r h => by simp at h, fun r h => by simp at h, below_tr hbel hal, Nat.le_refl _, Nat.le_trans hbel.size hal.size⟩
    have hbo1 : w.heap.size < wc.heap.size := hbo.lt
    have hsz : (wc.alloc (.cells #[.pointer (some ⟨W0, 0, none⟩)] 79)).heap.size = wc.heap.size + 1 := by simp
    have HRI := Lib.hid hRI; have HRE := Lib.hid hre; have HNE := Lib.hid hne; have HBO1 := Lib.hid hbo1
    clear hal hbx hrd hre hne hRI hway hbw hbo hbel hc
    revert hsz HRI
    generalize World.alloc wc _ = wd
    intro hsz HRI
    obtain ⟨i0, hi0, hz0, hz1, hz2⟩ := info_parts infoII
    have HI0 := Lib.hid hi0; have HZ0 := Lib.hid hz0; have HZ1 := Lib.hid hz1; have HZ2 := Lib.hid hz2
    clear hi0 hz0 hz1 hz2
    have hBd : w.heap.size < wd.heap.size := by omega
    refine wpIn_range_turns (I := fun k U => ∃ v rs, RunI E w w.heap.size W0 wc.heap.size Bw w.heap.size (E.st k) k v v rs U) (J := fun k U => ∃ v rs, RunI E w w.heap.size W0 wc.heap.size Bw w.heap.size (E.st (k + 1)) k v v rs U) (T := Fr fun g => g = W0) (N := E.DS.n) (encs := E.encs) rfl (by omega) (gf := 56) (lb := #[.pointer (some ⟨wc.heap.size, 0, none⟩)]) rfl trivial (enters_of Tryz.func56 (by kernel_rfl) rfl)
      (after_iter HOK.out HNE.out (fun k U ⟨v, rs, h⟩ => ⟨h.blk, h.rds, h.bx⟩) (HRI.out.bx.ne HRI.out.blk (by decide)) (fun k U U' hk ⟨v, rs, h⟩ hb hf => ⟨v, rs, h.turn HNE.out hge hb hf⟩) (by omega) wd)
      (fun _ => rfl) (fun U U' g o hf hg h => (hf.block g (Array.getElem?_eq_some_iff.1 h).1 (by have := HRI.out.blk.lt; omega)).trans h)
      ⟨fun k U l o o' ⟨v, rs, h⟩ hl hq hc => ⟨v, rs, h.put (by omega) hq hc⟩, fun k U o ⟨v, rs, h⟩ => ⟨v, rs, h.below ((Below.refl _ _).alloc (Nat.le_refl _) _)⟩⟩
      ⟨fun k U l o o' ⟨v, rs, h⟩ hl hq hc => ⟨v, rs, h.put (by omega) hq hc⟩, fun k U o ⟨v, rs, h⟩ => ⟨v, rs, h.below ((Below.refl _ _).alloc (Nat.le_refl _) _)⟩⟩
      ⟨_, _, HRI.out⟩ ?a1 ?assign ?body ?done
    case assign =>
      intro l k U K h
      dsimp only [WE.encs]
      gi_wp2
      exact h
    case body =>
      intro l k U hl hJ hk
      obtain ⟨v, rs, hI⟩ := hJ
      have HI := Lib.hid hI
      have HUO := Lib.hid hI.own
      have HK := Lib.hid (Fr.refl (fun g => g = w.heap.size ∨ v.ownBlock = some g) U)
      have hok := HOK.out
      have HLEN := Lib.hid (WE.bd hok (k + 1)).2.1
      have HN8 := Lib.hid hok.n.2
      have HKD := Lib.hid (show k < 30 by have := hok.dn; omega)
      have q0 := hI.bo.cell 0; have q1 := hI.bw.cell 0
      simp at q0 q1
      clear hI hok
      gi_wp2_with fail
      refine wpIn_region_till_round [4, 5] (fun V => V.cell? ⟨w.heap.size, 0, none⟩ = some v ∧ V.cell? ⟨Bw, 0, none⟩ = some (.pointer (some ⟨W0, 0, none⟩))) (by kernel_rfl) (by kernel_rfl) (by exact ⟨q0, q1⟩) (fun hHeld => ?_)
      have hb9 := (Below.refl U.heap.size U).drew
      have t0 := HI.out.below hb9; have t1 := HK.out.trans (Fr.of_below hb9 _)
      clear HI HK
      have HI := Lib.hid t0; have HK := Lib.hid t1
      clear t0 t1
      clear hb9
      revert hHeld HI HK
      generalize U.drew = w0
      intro hHeld HI HK
      (refine wpAnyL_take (n := 0) (i := 0) (oi := ?ox15) (v := ?vx15) ?hix15 ?k1x15 ?k2x15 ?k3x15 ?k4x15 ?k5x15 ?k6x15 ?hQx15 ?hYx15 ?hSx15 ?restx15; (case hix15 => (simp only [List.getElem?_toArray, List.getElem?_cons_succ, List.getElem?_cons_zero]; exact rfl)); (case k1x15 => kernel_rfl); (case k2x15 => kernel_rfl); (case k3x15 => kernel_rfl); (case k4x15 => kernel_rfl); (case k5x15 => kernel_rfl); (case k6x15 => kernel_rfl); (case hSx15 => assumption); (case hYx15 => (refine Or.inl ⟨rfl, ?hyx15⟩; intro w hSw; (try dsimp only at hSw); go_simp; (try with_reducible rfl))); (case hQx15 => exact (fun _ _ _ h => h)); (try simp only [Act.put, List.setIfInBounds_toArray, List.set_cons_zero, List.set_cons_succ]))
      (refine wpAnyL_take (n := 1) (i := 1) (oi := ?ox16) (v := ?vx16) ?hix16 ?k1x16 ?k2x16 ?k3x16 ?k4x16 ?k5x16 ?k6x16 ?hQx16 ?hYx16 ?hSx16 ?restx16; (case hix16 => (simp only [List.getElem?_toArray, List.getElem?_cons_succ, List.getElem?_cons_zero]; exact rfl)); (case k1x16 => kernel_rfl); (case k2x16 => kernel_rfl); (case k3x16 => kernel_rfl); (case k4x16 => kernel_rfl); (case k5x16 => kernel_rfl); (case k6x16 => kernel_rfl); (case hSx16 => assumption); (case hYx16 => (refine Or.inl ⟨rfl, ?hyx16⟩; intro w hSw; (try dsimp only at hSw); go_simp; (try with_reducible rfl))); (case hQx16 => exact (fun _ _ _ h => h)); (try simp only [Act.put, List.setIfInBounds_toArray, List.set_cons_zero, List.set_cons_succ]))
      refine wpAnyL_ready (rs := [2]) (by kernel_rfl) (by simp) ?_
      refine AllReadyL.cons (o := ?o2x17) ?hi2x17 (fun K hK => ?_) AllReadyL.nil
      (case hi2x17 => (simp only [List.getElem?_toArray, List.getElem?_cons_succ, List.getElem?_cons_zero]; exact rfl))
      go_simp
      go_at_call 25
      refine (now_c HI.out.blk HN8.out HLEN.out).mono ?_
      rintro e w1 ⟨vN, rfl, hown, hb9⟩
      obtain ⟨AN, cN, rfl, hcN⟩ := own_form hown; have hown := own_low hown HI.out.bel.size
      have t0 := HI.out.below hb9; have t1 := HK.out.trans (Fr.of_below hb9 _)
      clear HI HK
      have HI := Lib.hid t0; have HK := Lib.hid t1
      clear t0 t1
      have HOW := Lib.hid hown
      clear hb9 hown
      (try go_wp2_with fail)
      (try clear hHeld)
      refine hK.out _ _ (by (try dsimp only); exact ⟨by simpa using HI.out.bo.cell 0, by simpa using HI.out.bw.cell 0⟩) (fun hHeld => ?_)
      clear hK K
      (try simp only [Act.put, List.setIfInBounds_toArray, List.set_cons_zero, List.set_cons_succ])
      refine wpAnyL_ready (rs := [3]) (by kernel_rfl) (by simp) ?_
      refine AllReadyL.cons (o := ?o3x18) ?hi3x18 (fun K hK => ?_) AllReadyL.nil
      (case hi3x18 => (simp only [List.getElem?_toArray, List.getElem?_cons_succ, List.getElem?_cons_zero]; exact rfl))
      go_simp
      have hb9 := (Below.refl w1.heap.size w1).alloc (Nat.le_refl _) (.cells #[.slice AN E.CS.n cN] 33)
      have hn := Blk.new w1 33 #[.slice AN E.CS.n cN]
      have t0 := HI.out.below hb9; have t1 := HK.out.trans (Fr.of_below hb9 _); have t2 := own_mono HOW.out hb9
      clear HI HK HOW
      have HI := Lib.hid t0; have HK := Lib.hid t1; have HOW := Lib.hid t2
      clear t0 t1 t2
      have HA := Lib.hid hn
      clear hb9 hn
      (try clear hHeld)
      refine hK.out _ _ (by (try dsimp only); exact ⟨by simpa using HI.out.bo.cell 0, by simpa using HI.out.bw.cell 0⟩) (fun hHeld => ?_)
      clear hK K
      (try simp only [Act.put, List.setIfInBounds_toArray, List.set_cons_zero, List.set_cons_succ])
      revert hHeld HI HK HOW HA
      generalize hgA : w1.heap.size = gA
      generalize (World.alloc w1 (.cells #[.slice AN E.CS.n cN] 33)) = w0
      intro HI HK HOW HA hHeld
      clear hgA
      refine wpAnyL_ready (rs := [4]) (by kernel_rfl) (by simp) ?_
      refine AllReadyL.last (o := ?o4x19) ?hi4x19 ?he4x19 (fun K hK => ?_) AllReadyL.nil
      (case hi4x19 => (simp only [List.getElem?_toArray, List.getElem?_cons_succ, List.getElem?_cons_zero]; exact rfl))
      (case he4x19 => kernel_rfl)
      refine step_append_rd rfl _ _ 39 rfl w.heap.size 33 i0 (.slice none 0 0) 1 24 Tryz.underlying39 HI0.out HZ0.out HZ1.out HZ2.out rfl (by decide) v k (rs.flatMap encI) rfl HI.out.own encI_len oneI (some ⟨gA, 0, none⟩) 1 1 [⟨AN, E.CS.n, cN, (E.st (k + 1)).lv⟩] rfl (Rd.of_blkE (k := 1) encI_len HA.out (l := [(⟨AN, E.CS.n, cN, (E.st (k + 1)).lv⟩ : RowI)]) rfl rfl) (by have := HKD.out; unfold maxLen; omega) (by have := HKD.out; omega) HI.out.bel.size ?_
      intro v' w3 hown3 hgrow
      obtain ⟨A3, c3, rfl, hc3⟩ := own_form hown3
      have HO3 := Lib.hid hown3; have HG3 := Lib.hid hgrow
      clear hown3 hgrow
      (try clear hHeld)
      refine hK.out _ _ ?_
      clear hK K
      (try simp only [Act.put, List.setIfInBounds_toArray, List.set_cons_zero, List.set_cons_succ])
      refine wpAnyL_ready (rs := [5]) (by kernel_rfl) (by simp) ?_
      refine AllReadyL.last (o := ?o5x20) ?hi5x20 ?he5x20 (fun K hK => ?_) AllReadyL.nil
      (case hi5x20 => (simp only [List.getElem?_toArray, List.getElem?_cons_succ, List.getElem?_cons_zero]; exact rfl))
      (case he5x20 => kernel_rfl)
      have hb3 := HI.out.bo.grown HG3.out (fun e => own_blk_ne HI.out.own HI.out.bo (by decide) e.symm)
      have s0 := hb3.cell 0; have f0 := hb3.frozen 0
      (try simp at s0)
      go_simp
      (try clear hHeld)
      refine hK.out _ _ ?_
      clear hK K
      (try simp only [Act.put, List.setIfInBounds_toArray, List.set_cons_zero, List.set_cons_succ])
      (refine wpAnyL_done (by kernel_rfl) ?_ _)
      dsimp only [OnlyN]
      gi_wp2
      have happ := (HI.out.grow (r := ⟨AN, E.CS.n, cN, (E.st (k + 1)).lv⟩) rfl HOW.out rfl rfl (by rw [List.flatMap_append]; exact HO3.out) HG3.out HRE.out).store (Nat.le_refl _) HRE.out (.slice A3 (k + 1) c3)
      refine ⟨?_, _, rs ++ [⟨AN, E.CS.n, cN, (E.st (k + 1)).lv⟩], happ⟩
      refine ((HK.out.comp (Fr.of_grown HG3.out (E := fun g => v.ownBlock = some g) fun g e _ => e) (fun g e => .inl (.inr e))).setAt (p := ⟨w.heap.size, 0, none⟩) (.inl (.inl rfl)) _).keeps ?_
      rintro g o (rfl | hg) hle ho
      · omega
      · obtain ⟨cur, hc⟩ := own_ty HUO.out hg
        rw [ho] at hc; cases hc; rfl
    case done =>
      rintro D U hD ⟨v, rs, hI⟩ hdef
      obtain ⟨A, c, rfl, hlev⟩ := hI.lev HOK.out
      have q0 := hI.bo.cell 0; have f0 := hI.bo.frozen 0
      simp at q0
      have HI := Lib.hid hI; have HD := Lib.hid hdef; have HLV := Lib.hid hlev
      clear hI hdef hlev
      go_wp2
      have hne : D ≠ w.heap.size := by omega
      have hdf : (U.setCell ⟨w.heap.size, 0, none⟩ (.slice A E.DS.n c)).heap[D]? = some (.deferred (some [])) := (Below.heap_setCell U ⟨w.heap.size, 0, none⟩ _ D hne).trans HD.out
      refine ⟨by simp, .inl ?_⟩
      refine ⟨_, _, rfl, run_takeDeferred hdf, ?_⟩
      have hri := (HI.out.store (Nat.le_refl _) HRE.out (.slice A E.DS.n c)).put (o := .deferred none) (Nat.le_of_lt (by omega : w.heap.size < D)) hdf rfl
      obtain ⟨A', c', e, hlev⟩ := hri.lev HOK.out
      cases e
      have q0 := hri.bo.cell 0
      simp at q0
      refine ⟨.slice A E.DS.n c, ?_, A, c, rs, rfl, hlev, hri.bel⟩
      simp [results, Tryz.f44, go_sem, q0]
end Go.Proofs.YtjpobkmlcjbpiaaGreat
