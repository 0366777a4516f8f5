/- CONTRACTS of layer 2's conversions: Ground, Days, Truth. -/
import Derived.Test.YtjpobkmlcjbpiaaGreatYTLeaf
set_option linter.unusedVariables false
set_option linter.unusedSimpArgs false
namespace Go.Proofs.YtjpobkmlcjbpiaaGreat
open Go.RowKit Go.Proofs
attribute [local go_sem ↓] Go.wp_at_zero Go.wp_at_succ

theorem infoCelT : (Tryz.prog.info? 90).map (fun i => (i.zero, i.size, i.bytes)) = some (some (.agg #[.int .i64 0, .int .i64 0, .int .i64 0, .int .i64 0, .int .i64 0, .int .i64 0, .int .i64 0]), 7, 56) := by kernel_rfl
theorem infoDayT : (Tryz.prog.info? 92).map (fun i => (i.zero, i.size, i.bytes)) = some (some (.agg #[.int .i64 0, .int .i64 0, .int .i64 0]), 3, 24) := by kernel_rfl
theorem oneCelT (x : Cel) : ∀ u ∈ encCel x, u.oneCell' = true := by intro u hu; simp [encCel] at hu; rcases hu with rfl | rfl | rfl | rfl | rfl | rfl | rfl <;> rfl
theorem oneDyT (x : Dy) : ∀ u ∈ encDy x, u.oneCell' = true := by intro u hu; simp [encDy] at hu; rcases hu with rfl | rfl | rfl <;> rfl
theorem flat_take {α : Type} {enc : α → List Value} {l : List α} {k : Nat} {x : α} (h : l[k]? = some x) : (l.take (k + 1)).flatMap enc = (l.take k).flatMap enc ++ [x].flatMap enc := by
  rw [List.take_add_one, h]; simp

set_option linter.unusedSimpArgs false in
set_option maxRecDepth 100000 in
set_option maxHeartbeats 4000000 in
theorem rDays_c {A : Option Addr} {n c : Nat} {D : List Dy} {w : World} (h : Rd encDy 3 w A n D) (hn : n ≤ 1000) :
    Calls Tryz.prog 11 #[.slice A n c] w fun e w' => ∃ A' c', e = .returned (.slice A' n c') ∧ Rd encDy 3 w' A' n D ∧ Below w.heap.size w w' := by
  have hlen := h.len
  have HH := Lib.hid h; have HLEN := Lib.hid hlen
  clear h hlen
  obtain ⟨i0, hi0, hz0, hz1, hz2⟩ := info_parts infoDayT
  have HI0 := Lib.hid hi0; have HZ0 := Lib.hid hz0; have HZ1 := Lib.hid hz1; have HZ2 := Lib.hid hz2
  clear hi0 hz0 hz1 hz2
  go_enter Tryz.func11, Tryz.ntmps11
  go_wp2_with fail
  go_loopw [3, 4] (fun v i wr => ∃ k : Nat, k ≤ n ∧ i = .int .i64 (k : Int) ∧ wr.ownsRow w.heap.size 92 3 v k ((D.take k).flatMap encDy) ∧ Below w.heap.size w wr) (fun _ i _ => n - (intOf i).toNat)
  case atStart => exact ⟨0, Nat.zero_le _, rfl, World.ownsRow_nil _ _ _ _, Below.refl _ _⟩
  case round =>
    obtain ⟨k, hk, rfl, hown, hb⟩ := hrel
    by_cases hlt : k < n
    · obtain ⟨b, o, x, rfl, hbl, hx, y0, y1, y2⟩ := (HH.out.below hb).atDy hlt
      have hk0 : (0 : Int) ≤ (k : Int) := by omega
      have hkn : (k : Int) < (n : Int) := by omega
      have HX := Lib.hid hx; have HB := Lib.hid hb; have HO := Lib.hid hown
      clear hx hb hown
      go_upto_region 5 with fail
      have HBR := Lib.hid (Below.refl wr.heap.size wr)
      refine wp_region_till [14] (fun U => U.cell? ⟨b, o + k * 3, none⟩ = some (.int .i64 x.lo) ∧ U.cell? ⟨b, o + k * 3 + 1, none⟩ = some (.int .i64 x.hi) ∧ U.cell? ⟨b, o + k * 3 + 2, none⟩ = some (.int .i64 x.warm)) (by kernel_rfl) (by exact ⟨y0, y1, y2⟩) (fun hHeld => ?_)
      have hb9 := (Below.refl wr.heap.size wr).drew
      have t0 := below_tr HB.out hb9; have t1 := own_mono HO.out hb9; have t2 := below_tr HBR.out hb9
      clear HB HO HBR
      have HB := Lib.hid t0; have HO := Lib.hid t1; have HBR := Lib.hid t2
      clear t0 t1 t2
      clear hb9
      revert hHeld HB HO HBR
      generalize wr.drew = w0
      intro hHeld HB HO HBR
      (refine wpAnyL_take (n := 0) (i := 0) (oi := ?ox1) (v := ?vx1) ?hix1 ?k1x1 ?k2x1 ?k3x1 ?k4x1 ?k5x1 ?k6x1 ?hQx1 ?hYx1 ?hSx1 ?restx1; (case hix1 => (simp only [List.getElem?_toArray, List.getElem?_cons_succ, List.getElem?_cons_zero]; exact rfl)); (case k1x1 => kernel_rfl); (case k2x1 => kernel_rfl); (case k3x1 => kernel_rfl); (case k4x1 => kernel_rfl); (case k5x1 => kernel_rfl); (case k6x1 => kernel_rfl); (case hSx1 => assumption); (case hYx1 => (refine Or.inl ⟨rfl, ?hyx1⟩; intro w hSw; (try dsimp only at hSw); go_simp; (try with_reducible rfl))); (case hQx1 => exact (fun _ _ _ h => h)); (try simp only [Act.put, List.setIfInBounds_toArray, List.set_cons_zero, List.set_cons_succ]))
      (refine wpAnyL_take (n := 4) (i := 1) (oi := ?ox2) (v := ?vx2) ?hix2 ?k1x2 ?k2x2 ?k3x2 ?k4x2 ?k5x2 ?k6x2 ?hQx2 ?hYx2 ?hSx2 ?restx2; (case hix2 => (simp only [List.getElem?_toArray, List.getElem?_cons_succ, List.getElem?_cons_zero]; exact rfl)); (case k1x2 => kernel_rfl); (case k2x2 => kernel_rfl); (case k3x2 => kernel_rfl); (case k4x2 => kernel_rfl); (case k5x2 => kernel_rfl); (case k6x2 => kernel_rfl); (case hSx2 => assumption); (case hYx2 => (refine Or.inl ⟨rfl, ?hyx2⟩; intro w hSw; (try dsimp only at hSw); go_simp; (try with_reducible rfl))); (case hQx2 => exact (fun _ _ _ h => h)); (try simp only [Act.put, List.setIfInBounds_toArray, List.set_cons_zero, List.set_cons_succ]))
      (refine wpAnyL_take (n := 4) (i := 2) (oi := ?ox3) (v := ?vx3) ?hix3 ?k1x3 ?k2x3 ?k3x3 ?k4x3 ?k5x3 ?k6x3 ?hQx3 ?hYx3 ?hSx3 ?restx3; (case hix3 => (simp only [List.getElem?_toArray, List.getElem?_cons_succ, List.getElem?_cons_zero]; exact rfl)); (case k1x3 => kernel_rfl); (case k2x3 => kernel_rfl); (case k3x3 => kernel_rfl); (case k4x3 => kernel_rfl); (case k5x3 => kernel_rfl); (case k6x3 => kernel_rfl); (case hSx3 => assumption); (case hYx3 => (refine Or.inl ⟨rfl, ?hyx3⟩; intro w hSw; (try dsimp only at hSw); go_simp; (try with_reducible rfl))); (case hQx3 => exact (fun _ _ _ h => h)); (try simp only [Act.put, List.setIfInBounds_toArray, List.set_cons_zero, List.set_cons_succ]))
      (refine wpAnyL_take (n := 3) (i := 3) (oi := ?ox4) (v := ?vx4) ?hix4 ?k1x4 ?k2x4 ?k3x4 ?k4x4 ?k5x4 ?k6x4 ?hQx4 ?hYx4 ?hSx4 ?restx4; (case hix4 => (simp only [List.getElem?_toArray, List.getElem?_cons_succ, List.getElem?_cons_zero]; exact rfl)); (case k1x4 => kernel_rfl); (case k2x4 => kernel_rfl); (case k3x4 => kernel_rfl); (case k4x4 => kernel_rfl); (case k5x4 => kernel_rfl); (case k6x4 => kernel_rfl); (case hSx4 => assumption); (case hYx4 => (refine Or.inl ⟨rfl, ?hyx4⟩; intro w hSw; (try dsimp only at hSw); go_simp; (try with_reducible rfl))); (case hQx4 => exact (fun _ _ _ h => h)); (try simp only [Act.put, List.setIfInBounds_toArray, List.set_cons_zero, List.set_cons_succ]))
      (refine wpAnyL_take (n := 2) (i := 4) (oi := ?ox5) (v := ?vx5) ?hix5 ?k1x5 ?k2x5 ?k3x5 ?k4x5 ?k5x5 ?k6x5 ?hQx5 ?hYx5 ?hSx5 ?restx5; (case hix5 => (simp only [List.getElem?_toArray, List.getElem?_cons_succ, List.getElem?_cons_zero]; exact rfl)); (case k1x5 => kernel_rfl); (case k2x5 => kernel_rfl); (case k3x5 => kernel_rfl); (case k4x5 => kernel_rfl); (case k5x5 => kernel_rfl); (case k6x5 => kernel_rfl); (case hSx5 => assumption); (case hYx5 => (refine Or.inl ⟨rfl, ?hyx5⟩; intro w hSw; (try dsimp only at hSw); go_simp; (try with_reducible rfl))); (case hQx5 => exact (fun _ _ _ h => h)); (try simp only [Act.put, List.setIfInBounds_toArray, List.set_cons_zero, List.set_cons_succ]))
      (refine wpAnyL_take (n := 1) (i := 5) (oi := ?ox6) (v := ?vx6) ?hix6 ?k1x6 ?k2x6 ?k3x6 ?k4x6 ?k5x6 ?k6x6 ?hQx6 ?hYx6 ?hSx6 ?restx6; (case hix6 => (simp only [List.getElem?_toArray, List.getElem?_cons_succ, List.getElem?_cons_zero]; exact rfl)); (case k1x6 => kernel_rfl); (case k2x6 => kernel_rfl); (case k3x6 => kernel_rfl); (case k4x6 => kernel_rfl); (case k5x6 => kernel_rfl); (case k6x6 => kernel_rfl); (case hSx6 => assumption); (case hYx6 => (refine Or.inl ⟨rfl, ?hyx6⟩; intro w hSw; (try dsimp only at hSw); go_simp; (try with_reducible rfl))); (case hQx6 => exact (fun _ _ _ h => h)); (try simp only [Act.put, List.setIfInBounds_toArray, List.set_cons_zero, List.set_cons_succ]))
      (refine wpAnyL_take (n := 5) (i := 7) (oi := ?ox7) (v := ?vx7) ?hix7 ?k1x7 ?k2x7 ?k3x7 ?k4x7 ?k5x7 ?k6x7 ?hQx7 ?hYx7 ?hSx7 ?restx7; (case hix7 => (simp only [List.getElem?_toArray, List.getElem?_cons_succ, List.getElem?_cons_zero]; exact rfl)); (case k1x7 => kernel_rfl); (case k2x7 => kernel_rfl); (case k3x7 => kernel_rfl); (case k4x7 => kernel_rfl); (case k5x7 => kernel_rfl); (case k6x7 => kernel_rfl); (case hSx7 => assumption); (case hYx7 => (refine Or.inl ⟨rfl, ?hyx7⟩; intro w hSw; (try dsimp only at hSw); go_simp; (try with_reducible rfl))); (case hQx7 => exact (fun _ _ _ h => h)); (try simp only [Act.put, List.setIfInBounds_toArray, List.set_cons_zero, List.set_cons_succ]))
      (refine wpAnyL_take (n := 5) (i := 8) (oi := ?ox8) (v := ?vx8) ?hix8 ?k1x8 ?k2x8 ?k3x8 ?k4x8 ?k5x8 ?k6x8 ?hQx8 ?hYx8 ?hSx8 ?restx8; (case hix8 => (simp only [List.getElem?_toArray, List.getElem?_cons_succ, List.getElem?_cons_zero]; exact rfl)); (case k1x8 => kernel_rfl); (case k2x8 => kernel_rfl); (case k3x8 => kernel_rfl); (case k4x8 => kernel_rfl); (case k5x8 => kernel_rfl); (case k6x8 => kernel_rfl); (case hSx8 => assumption); (case hYx8 => (refine Or.inl ⟨rfl, ?hyx8⟩; intro w hSw; (try dsimp only at hSw); go_simp; (try with_reducible rfl))); (case hQx8 => exact (fun _ _ _ h => h)); (try simp only [Act.put, List.setIfInBounds_toArray, List.set_cons_zero, List.set_cons_succ]))
      (refine wpAnyL_take (n := 4) (i := 9) (oi := ?ox9) (v := ?vx9) ?hix9 ?k1x9 ?k2x9 ?k3x9 ?k4x9 ?k5x9 ?k6x9 ?hQx9 ?hYx9 ?hSx9 ?restx9; (case hix9 => (simp only [List.getElem?_toArray, List.getElem?_cons_succ, List.getElem?_cons_zero]; exact rfl)); (case k1x9 => kernel_rfl); (case k2x9 => kernel_rfl); (case k3x9 => kernel_rfl); (case k4x9 => kernel_rfl); (case k5x9 => kernel_rfl); (case k6x9 => kernel_rfl); (case hSx9 => assumption); (case hYx9 => (refine Or.inl ⟨rfl, ?hyx9⟩; intro w hSw; (try dsimp only at hSw); go_simp; (try with_reducible rfl))); (case hQx9 => exact (fun _ _ _ h => h)); (try simp only [Act.put, List.setIfInBounds_toArray, List.set_cons_zero, List.set_cons_succ]))
      (refine wpAnyL_take (n := 3) (i := 10) (oi := ?ox10) (v := ?vx10) ?hix10 ?k1x10 ?k2x10 ?k3x10 ?k4x10 ?k5x10 ?k6x10 ?hQx10 ?hYx10 ?hSx10 ?restx10; (case hix10 => (simp only [List.getElem?_toArray, List.getElem?_cons_succ, List.getElem?_cons_zero]; exact rfl)); (case k1x10 => kernel_rfl); (case k2x10 => kernel_rfl); (case k3x10 => kernel_rfl); (case k4x10 => kernel_rfl); (case k5x10 => kernel_rfl); (case k6x10 => kernel_rfl); (case hSx10 => assumption); (case hYx10 => (refine Or.inl ⟨rfl, ?hyx10⟩; intro w hSw; (try dsimp only at hSw); go_simp; (try with_reducible rfl))); (case hQx10 => exact (fun _ _ _ h => h)); (try simp only [Act.put, List.setIfInBounds_toArray, List.set_cons_zero, List.set_cons_succ]))
      (refine wpAnyL_take (n := 2) (i := 11) (oi := ?ox11) (v := ?vx11) ?hix11 ?k1x11 ?k2x11 ?k3x11 ?k4x11 ?k5x11 ?k6x11 ?hQx11 ?hYx11 ?hSx11 ?restx11; (case hix11 => (simp only [List.getElem?_toArray, List.getElem?_cons_succ, List.getElem?_cons_zero]; exact rfl)); (case k1x11 => kernel_rfl); (case k2x11 => kernel_rfl); (case k3x11 => kernel_rfl); (case k4x11 => kernel_rfl); (case k5x11 => kernel_rfl); (case k6x11 => kernel_rfl); (case hSx11 => assumption); (case hYx11 => (refine Or.inl ⟨rfl, ?hyx11⟩; intro w hSw; (try dsimp only at hSw); go_simp; (try with_reducible rfl))); (case hQx11 => exact (fun _ _ _ h => h)); (try simp only [Act.put, List.setIfInBounds_toArray, List.set_cons_zero, List.set_cons_succ]))
      refine wpAnyL_ready (rs := [6]) (by kernel_rfl) (by simp) ?_
      refine AllReadyL.cons (o := ?o6x12) ?hi6x12 (fun K hK => ?_) AllReadyL.nil
      (case hi6x12 => (simp only [List.getElem?_toArray, List.getElem?_cons_succ, List.getElem?_cons_zero]; exact rfl))
      go_simp
      go_at_call 26
      refine (rto_c _ _ _).mono ?_
      rintro e w1 ⟨rfl, hb9⟩
      have t0 := below_tr HB.out hb9; have t1 := own_mono HO.out hb9; have t2 := below_tr HBR.out hb9
      clear HB HO HBR
      have HB := Lib.hid t0; have HO := Lib.hid t1; have HBR := Lib.hid t2
      clear t0 t1 t2
      clear hb9 
      (try go_wp2_with fail)
      (try clear hHeld)
      refine hK.out _ _ (by (try dsimp only); exact ⟨(HBR.out.cell (p := ⟨b, _, none⟩) hbl).trans y0, (HBR.out.cell (p := ⟨b, _, none⟩) hbl).trans y1, (HBR.out.cell (p := ⟨b, _, none⟩) hbl).trans y2⟩) (fun hHeld => ?_)
      clear hK K
      (try simp only [Act.put, List.setIfInBounds_toArray, List.set_cons_zero, List.set_cons_succ])
      (refine wpAnyL_take (n := 1) (i := 12) (oi := ?ox13) (v := ?vx13) ?hix13 ?k1x13 ?k2x13 ?k3x13 ?k4x13 ?k5x13 ?k6x13 ?hQx13 ?hYx13 ?hSx13 ?restx13; (case hix13 => (simp only [List.getElem?_toArray, List.getElem?_cons_succ, List.getElem?_cons_zero]; exact rfl)); (case k1x13 => kernel_rfl); (case k2x13 => kernel_rfl); (case k3x13 => kernel_rfl); (case k4x13 => kernel_rfl); (case k5x13 => kernel_rfl); (case k6x13 => kernel_rfl); (case hSx13 => assumption); (case hYx13 => (refine Or.inl ⟨rfl, ?hyx13⟩; intro w hSw; (try dsimp only at hSw); go_simp; (try with_reducible rfl))); (case hQx13 => exact (fun _ _ _ h => h)); (try simp only [Act.put, List.setIfInBounds_toArray, List.set_cons_zero, List.set_cons_succ]))
      refine wpAnyL_ready (rs := [13]) (by kernel_rfl) (by simp) ?_
      refine AllReadyL.cons (o := ?o13x14) ?hi13x14 (fun K hK => ?_) AllReadyL.nil
      (case hi13x14 => (simp only [List.getElem?_toArray, List.getElem?_cons_succ, List.getElem?_cons_zero]; exact rfl))
      go_simp
      have hb9 := (Below.refl w1.heap.size w1).alloc (Nat.le_refl _) (.cells #[.int .i64 x.lo, .int .i64 x.hi, .int .i64 x.warm] 92)
      have hn := Blk.new w1 92 #[.int .i64 x.lo, .int .i64 x.hi, .int .i64 x.warm]
      have t0 := below_tr HB.out hb9; have t1 := own_mono HO.out hb9; have t2 := below_tr HBR.out hb9
      clear HB HO HBR
      have HB := Lib.hid t0; have HO := Lib.hid t1; have HBR := Lib.hid t2
      clear t0 t1 t2
      have HA := Lib.hid hn
      clear hb9 hn
      (try clear hHeld)
      refine hK.out _ _ (by (try dsimp only); exact ⟨(HBR.out.cell (p := ⟨b, _, none⟩) hbl).trans y0, (HBR.out.cell (p := ⟨b, _, none⟩) hbl).trans y1, (HBR.out.cell (p := ⟨b, _, none⟩) hbl).trans y2⟩) (fun hHeld => ?_)
      clear hK K
      (try simp only [Act.put, List.setIfInBounds_toArray, List.set_cons_zero, List.set_cons_succ])
      revert hHeld HB HO HBR HA
      generalize hgA : w1.heap.size = gA
      generalize (World.alloc w1 (.cells #[.int .i64 x.lo, .int .i64 x.hi, .int .i64 x.warm] 92)) = w0
      intro HB HO HBR HA hHeld
      clear hgA
      refine wpAnyL_ready (rs := [14]) (by kernel_rfl) (by simp) ?_
      refine AllReadyL.last (o := ?o14x15) ?hi14x15 ?he14x15 (fun K hK => ?_) AllReadyL.nil
      (case hi14x15 => (simp only [List.getElem?_toArray, List.getElem?_cons_succ, List.getElem?_cons_zero]; exact rfl))
      (case he14x15 => kernel_rfl)
      refine step_append_rd rfl _ _ 48 rfl w.heap.size 92 i0 _ 3 24 Tryz.underlying48 HI0.out HZ0.out HZ1.out HZ2.out (by simp [go_sem]) (by decide) _ k ((D.take k).flatMap encDy) rfl HO.out encDy_len oneDyT (some ⟨gA, 0, none⟩) 1 1 [x] rfl (Rd.of_blkE (k := 3) encDy_len HA.out (l := [x]) rfl rfl) (by unfold maxLen; omega) (by omega) HB.out.size ?_
      intro v' w3 hown3 hgrow
      rw [← flat_take HX.out] at hown3
      have hb3 := HB.out.grown hgrow HB.out.size (fun g hg => (HO.out.lt g hg).1)
      have HO3 := Lib.hid hown3; have HB3 := Lib.hid hb3
      clear hown3 hgrow hb3
      (try clear hHeld)
      refine hK.out _ _ ?_
      clear hK K
      (try simp only [Act.put, List.setIfInBounds_toArray, List.set_cons_zero, List.set_cons_succ])
      (refine wpAnyL_free (i := 15) (oi := ?ox16) (v := ?vx16) ?hix16 ?k1x16 ?k2x16 ?k3x16 ?k4x16 ?k5x16 ?hQx16 ?hYx16 ?restx16; (case hix16 => (simp only [List.getElem?_toArray, List.getElem?_cons_succ, List.getElem?_cons_zero]; exact rfl)); (case k1x16 => kernel_rfl); (case k2x16 => kernel_rfl); (case k3x16 => kernel_rfl); (case k4x16 => kernel_rfl); (case k5x16 => kernel_rfl); (case hYx16 => (refine Or.inl ⟨rfl, ?hyx16⟩; intro w hSw; (try dsimp only at hSw); go_simp; (try with_reducible rfl))); (case hQx16 => exact (fun _ _ _ h => h)); (try simp only [Act.put, List.setIfInBounds_toArray, List.set_cons_zero, List.set_cons_succ]))
      (refine wpAnyL_done (by kernel_rfl) ?_ _)
      go_wp2_with fail
      go_roundw
      case rel => exact ⟨k + 1, by omega, by go_num, HO3.out, HB3.out⟩
      case measure => simp [intOf] <;> omega
    · obtain rfl : k = n := by omega
      rw [List.take_of_length_le (by rw [HLEN.out]; exact Nat.le_refl _)] at hown
      obtain ⟨A', c', rfl, _⟩ := own_form hown
      have HO := Lib.hid hown; have HB := Lib.hid hb
      clear hown hb
      go_wp2_with fail
      go_ret
      exact ⟨A', c', rfl, Rd.of_own encDy_len HO.out HLEN.out, HB.out⟩
set_option linter.unusedSimpArgs false in
set_option maxRecDepth 100000 in
set_option maxHeartbeats 4000000 in
theorem rTruth_c {LA RA : Option Addr} {ln lc rn rc : Nat} {tsn tso : Int} {L Rn : List Int} {w : World} (hl : Rd enc1 1 w LA ln L) (hr : Rd enc1 1 w RA rn Rn) (h1 : ln ≤ 1000) (h2 : rn ≤ 1000) :
    Calls Tryz.prog 12 #[.agg #[.int .i64 tsn, .int .i64 tso, .slice LA ln lc, .slice RA rn rc]] w fun e w' => ∃ LA' lc' RA' rc', e = .returned (.agg #[.int .i64 tsn, .int .i64 tso, .slice LA' ln lc', .slice RA' rn rc']) ∧ Rd enc1 1 w' LA' ln L ∧ Rd enc1 1 w' RA' rn Rn ∧ Below w.heap.size w w' := by
  have hal := ((Below.refl w.heap.size w).alloc (Nat.le_refl _) (.cells #[.int .i64 tsn, .int .i64 tso, .slice LA ln lc, .slice RA rn rc] 35)).alloc (by simp) (.cells #[.int .i64 0, .int .i64 0, .slice none 0 0, .slice none 0 0] 50)
  have b0 := (Blk.new w 35 #[.int .i64 tsn, .int .i64 tso, .slice LA ln lc, .slice RA rn rc]).alloc (.cells #[.int .i64 0, .int .i64 0, .slice none 0 0, .slice none 0 0] 50)
  have b1 := Blk.new (w.alloc (.cells #[.int .i64 tsn, .int .i64 tso, .slice LA ln lc, .slice RA rn rc] 35)) 50 #[.int .i64 0, .int .i64 0, .slice none 0 0, .slice none 0 0]
  simp only [World.size_alloc] at b1
  have HB := Lib.hid hal; have HT := Lib.hid b0; have HW := Lib.hid b1; have HL := Lib.hid (hl.below hal); have HR := Lib.hid (hr.below hal)
  clear hal b0 b1 hl hr
  go_enter Tryz.func12, Tryz.ntmps12
  go_upto_region 1 with fail
  revert HB HT HW HL HR
  generalize World.alloc (World.alloc w _) _ = w1
  intro HB HT HW HL HR
  have t0 := HT.out.cell 0; have t1 := HT.out.cell 1; have t2 := HT.out.cell 2; have t3 := HT.out.cell 3
  simp at t0 t1 t2 t3
  refine wp_region_till [11] (fun U => U.cell? ⟨w.heap.size, 0, none⟩ = some (.int .i64 tsn) ∧ U.cell? ⟨w.heap.size, 1, none⟩ = some (.int .i64 tso) ∧ U.cell? ⟨w.heap.size, 2, none⟩ = some (.slice LA ln lc) ∧ U.cell? ⟨w.heap.size, 3, none⟩ = some (.slice RA rn rc)) (by kernel_rfl) (by exact ⟨t0, t1, t2, t3⟩) (fun hHeld => ?_)
  have hb9 := (Below.refl w1.heap.size w1).drew
  have t0 := below_tr HB.out hb9; have t1 := HT.out.below hb9 HT.out.lt; have t2 := HW.out.below hb9 HW.out.lt; have t3 := HL.out.below hb9; have t4 := HR.out.below hb9
  clear HB HT HW HL HR
  have HB := Lib.hid t0; have HT := Lib.hid t1; have HW := Lib.hid t2; have HL := Lib.hid t3; have HR := Lib.hid t4
  clear t0 t1 t2 t3 t4
  clear hb9
  revert hHeld HB HT HW HL HR
  generalize w1.drew = w0
  intro hHeld HB HT HW HL HR
  (refine wpAnyL_take (n := 0) (i := 0) (oi := ?ox17) (v := ?vx17) ?hix17 ?k1x17 ?k2x17 ?k3x17 ?k4x17 ?k5x17 ?k6x17 ?hQx17 ?hYx17 ?hSx17 ?restx17; (case hix17 => (simp only [List.getElem?_toArray, List.getElem?_cons_succ, List.getElem?_cons_zero]; exact rfl)); (case k1x17 => kernel_rfl); (case k2x17 => kernel_rfl); (case k3x17 => kernel_rfl); (case k4x17 => kernel_rfl); (case k5x17 => kernel_rfl); (case k6x17 => kernel_rfl); (case hSx17 => assumption); (case hYx17 => (refine Or.inl ⟨rfl, ?hyx17⟩; intro w hSw; (try dsimp only at hSw); go_simp; (try with_reducible rfl))); (case hQx17 => exact (fun _ _ _ h => h)); (try simp only [Act.put, List.setIfInBounds_toArray, List.set_cons_zero, List.set_cons_succ]))
  (refine wpAnyL_take (n := 0) (i := 1) (oi := ?ox18) (v := ?vx18) ?hix18 ?k1x18 ?k2x18 ?k3x18 ?k4x18 ?k5x18 ?k6x18 ?hQx18 ?hYx18 ?hSx18 ?restx18; (case hix18 => (simp only [List.getElem?_toArray, List.getElem?_cons_succ, List.getElem?_cons_zero]; exact rfl)); (case k1x18 => kernel_rfl); (case k2x18 => kernel_rfl); (case k3x18 => kernel_rfl); (case k4x18 => kernel_rfl); (case k5x18 => kernel_rfl); (case k6x18 => kernel_rfl); (case hSx18 => assumption); (case hYx18 => (refine Or.inl ⟨rfl, ?hyx18⟩; intro w hSw; (try dsimp only at hSw); go_simp; (try with_reducible rfl))); (case hQx18 => exact (fun _ _ _ h => h)); (try simp only [Act.put, List.setIfInBounds_toArray, List.set_cons_zero, List.set_cons_succ]))
  (refine wpAnyL_take (n := 0) (i := 2) (oi := ?ox19) (v := ?vx19) ?hix19 ?k1x19 ?k2x19 ?k3x19 ?k4x19 ?k5x19 ?k6x19 ?hQx19 ?hYx19 ?hSx19 ?restx19; (case hix19 => (simp only [List.getElem?_toArray, List.getElem?_cons_succ, List.getElem?_cons_zero]; exact rfl)); (case k1x19 => kernel_rfl); (case k2x19 => kernel_rfl); (case k3x19 => kernel_rfl); (case k4x19 => kernel_rfl); (case k5x19 => kernel_rfl); (case k6x19 => kernel_rfl); (case hSx19 => assumption); (case hYx19 => (refine Or.inl ⟨rfl, ?hyx19⟩; intro w hSw; (try dsimp only at hSw); go_simp; (try with_reducible rfl))); (case hQx19 => exact (fun _ _ _ h => h)); (try simp only [Act.put, List.setIfInBounds_toArray, List.set_cons_zero, List.set_cons_succ]))
  (refine wpAnyL_take (n := 0) (i := 3) (oi := ?ox20) (v := ?vx20) ?hix20 ?k1x20 ?k2x20 ?k3x20 ?k4x20 ?k5x20 ?k6x20 ?hQx20 ?hYx20 ?hSx20 ?restx20; (case hix20 => (simp only [List.getElem?_toArray, List.getElem?_cons_succ, List.getElem?_cons_zero]; exact rfl)); (case k1x20 => kernel_rfl); (case k2x20 => kernel_rfl); (case k3x20 => kernel_rfl); (case k4x20 => kernel_rfl); (case k5x20 => kernel_rfl); (case k6x20 => kernel_rfl); (case hSx20 => assumption); (case hYx20 => (refine Or.inl ⟨rfl, ?hyx20⟩; intro w hSw; (try dsimp only at hSw); go_simp; (try with_reducible rfl))); (case hQx20 => exact (fun _ _ _ h => h)); (try simp only [Act.put, List.setIfInBounds_toArray, List.set_cons_zero, List.set_cons_succ]))
  (refine wpAnyL_take (n := 0) (i := 4) (oi := ?ox21) (v := ?vx21) ?hix21 ?k1x21 ?k2x21 ?k3x21 ?k4x21 ?k5x21 ?k6x21 ?hQx21 ?hYx21 ?hSx21 ?restx21; (case hix21 => (simp only [List.getElem?_toArray, List.getElem?_cons_succ, List.getElem?_cons_zero]; exact rfl)); (case k1x21 => kernel_rfl); (case k2x21 => kernel_rfl); (case k3x21 => kernel_rfl); (case k4x21 => kernel_rfl); (case k5x21 => kernel_rfl); (case k6x21 => kernel_rfl); (case hSx21 => assumption); (case hYx21 => (refine Or.inl ⟨rfl, ?hyx21⟩; intro w hSw; (try dsimp only at hSw); go_simp; (try with_reducible rfl))); (case hQx21 => exact (fun _ _ _ h => h)); (try simp only [Act.put, List.setIfInBounds_toArray, List.set_cons_zero, List.set_cons_succ]))
  (refine wpAnyL_take (n := 0) (i := 5) (oi := ?ox22) (v := ?vx22) ?hix22 ?k1x22 ?k2x22 ?k3x22 ?k4x22 ?k5x22 ?k6x22 ?hQx22 ?hYx22 ?hSx22 ?restx22; (case hix22 => (simp only [List.getElem?_toArray, List.getElem?_cons_succ, List.getElem?_cons_zero]; exact rfl)); (case k1x22 => kernel_rfl); (case k2x22 => kernel_rfl); (case k3x22 => kernel_rfl); (case k4x22 => kernel_rfl); (case k5x22 => kernel_rfl); (case k6x22 => kernel_rfl); (case hSx22 => assumption); (case hYx22 => (refine Or.inl ⟨rfl, ?hyx22⟩; intro w hSw; (try dsimp only at hSw); go_simp; (try with_reducible rfl))); (case hQx22 => exact (fun _ _ _ h => h)); (try simp only [Act.put, List.setIfInBounds_toArray, List.set_cons_zero, List.set_cons_succ]))
  (refine wpAnyL_take (n := 0) (i := 7) (oi := ?ox23) (v := ?vx23) ?hix23 ?k1x23 ?k2x23 ?k3x23 ?k4x23 ?k5x23 ?k6x23 ?hQx23 ?hYx23 ?hSx23 ?restx23; (case hix23 => (simp only [List.getElem?_toArray, List.getElem?_cons_succ, List.getElem?_cons_zero]; exact rfl)); (case k1x23 => kernel_rfl); (case k2x23 => kernel_rfl); (case k3x23 => kernel_rfl); (case k4x23 => kernel_rfl); (case k5x23 => kernel_rfl); (case k6x23 => kernel_rfl); (case hSx23 => assumption); (case hYx23 => (refine Or.inl ⟨rfl, ?hyx23⟩; intro w hSw; (try dsimp only at hSw); go_simp; (try with_reducible rfl))); (case hQx23 => exact (fun _ _ _ h => h)); (try simp only [Act.put, List.setIfInBounds_toArray, List.set_cons_zero, List.set_cons_succ]))
  (refine wpAnyL_take (n := 0) (i := 8) (oi := ?ox24) (v := ?vx24) ?hix24 ?k1x24 ?k2x24 ?k3x24 ?k4x24 ?k5x24 ?k6x24 ?hQx24 ?hYx24 ?hSx24 ?restx24; (case hix24 => (simp only [List.getElem?_toArray, List.getElem?_cons_succ, List.getElem?_cons_zero]; exact rfl)); (case k1x24 => kernel_rfl); (case k2x24 => kernel_rfl); (case k3x24 => kernel_rfl); (case k4x24 => kernel_rfl); (case k5x24 => kernel_rfl); (case k6x24 => kernel_rfl); (case hSx24 => assumption); (case hYx24 => (refine Or.inl ⟨rfl, ?hyx24⟩; intro w hSw; (try dsimp only at hSw); go_simp; (try with_reducible rfl))); (case hQx24 => exact (fun _ _ _ h => h)); (try simp only [Act.put, List.setIfInBounds_toArray, List.set_cons_zero, List.set_cons_succ]))
  refine wpAnyL_ready (rs := [6]) (by kernel_rfl) (by simp) ?_
  refine AllReadyL.cons (o := ?o6x25) ?hi6x25 (fun K hK => ?_) AllReadyL.nil
  (case hi6x25 => (simp only [List.getElem?_toArray, List.getElem?_cons_succ, List.getElem?_cons_zero]; exact rfl))
  go_simp
  go_at_call 27
  refine (rlist_c HL.out h1).mono ?_
  rintro e v1 ⟨LA2, lc2, rfl, hl2, hn2, hb9⟩
  have HN2 := Lib.hid (show ∀ ad, LA2 = some ad → ad.block ≠ w.heap.size + 1 from fun ad e => by have h1 := hn2 ad e; have h2 := HW.out.lt; omega); clear hn2
  have t0 := below_tr HB.out hb9; have t1 := HT.out.below hb9 HT.out.lt; have t2 := HW.out.below hb9 HW.out.lt; have t3 := HL.out.below hb9; have t4 := HR.out.below hb9
  clear HB HT HW HL HR
  have HB := Lib.hid t0; have HT := Lib.hid t1; have HW := Lib.hid t2; have HL := Lib.hid t3; have HR := Lib.hid t4
  clear t0 t1 t2 t3 t4
  have HL2 := Lib.hid hl2
  clear hb9 hl2
  (try go_wp2_with fail)
  (try clear hHeld)
  refine hK.out _ _ (by (try dsimp only); exact ⟨by simpa using HT.out.cell 0, by simpa using HT.out.cell 1, by simpa using HT.out.cell 2, by simpa using HT.out.cell 3⟩) (fun hHeld => ?_)
  clear hK K
  (try simp only [Act.put, List.setIfInBounds_toArray, List.set_cons_zero, List.set_cons_succ])
  refine wpAnyL_ready (rs := [9]) (by kernel_rfl) (by simp) ?_
  refine AllReadyL.cons (o := ?o9x26) ?hi9x26 (fun K hK => ?_) AllReadyL.nil
  (case hi9x26 => (simp only [List.getElem?_toArray, List.getElem?_cons_succ, List.getElem?_cons_zero]; exact rfl))
  go_simp
  go_at_call 27
  refine (rlist_c HR.out h2).mono ?_
  rintro e v2 ⟨RA2, rc2, rfl, hr2, hm2, hb9⟩
  have HM2 := Lib.hid (show ∀ ad, RA2 = some ad → ad.block ≠ w.heap.size + 1 from fun ad e => by have h1 := hm2 ad e; have h2 := HW.out.lt; omega); clear hm2
  have t0 := below_tr HB.out hb9; have t1 := HT.out.below hb9 HT.out.lt; have t2 := HW.out.below hb9 HW.out.lt; have t3 := HL.out.below hb9; have t4 := HR.out.below hb9; have t5 := HL2.out.below hb9
  clear HB HT HW HL HR HL2
  have HB := Lib.hid t0; have HT := Lib.hid t1; have HW := Lib.hid t2; have HL := Lib.hid t3; have HR := Lib.hid t4; have HL2 := Lib.hid t5
  clear t0 t1 t2 t3 t4 t5
  have HR2 := Lib.hid hr2
  clear hb9 hr2
  (try go_wp2_with fail)
  (try clear hHeld)
  refine hK.out _ _ (by (try dsimp only); exact ⟨by simpa using HT.out.cell 0, by simpa using HT.out.cell 1, by simpa using HT.out.cell 2, by simpa using HT.out.cell 3⟩) (fun hHeld => ?_)
  clear hK K
  (try simp only [Act.put, List.setIfInBounds_toArray, List.set_cons_zero, List.set_cons_succ])
  (refine wpAnyL_take (n := 0) (i := 10) (oi := ?ox27) (v := ?vx27) ?hix27 ?k1x27 ?k2x27 ?k3x27 ?k4x27 ?k5x27 ?k6x27 ?hQx27 ?hYx27 ?hSx27 ?restx27; (case hix27 => (simp only [List.getElem?_toArray, List.getElem?_cons_succ, List.getElem?_cons_zero]; exact rfl)); (case k1x27 => kernel_rfl); (case k2x27 => kernel_rfl); (case k3x27 => kernel_rfl); (case k4x27 => kernel_rfl); (case k5x27 => kernel_rfl); (case k6x27 => kernel_rfl); (case hSx27 => assumption); (case hYx27 => (refine Or.inl ⟨rfl, ?hyx27⟩; intro w hSw; (try dsimp only at hSw); go_simp; (try with_reducible rfl))); (case hQx27 => exact (fun _ _ _ h => h)); (try simp only [Act.put, List.setIfInBounds_toArray, List.set_cons_zero, List.set_cons_succ]))
  refine wpAnyL_ready (rs := [11]) (by kernel_rfl) (by simp) ?_
  refine AllReadyL.last (o := ?o11x28) ?hi11x28 ?he11x28 (fun K hK => ?_) AllReadyL.nil
  (case hi11x28 => (simp only [List.getElem?_toArray, List.getElem?_cons_succ, List.getElem?_cons_zero]; exact rfl))
  (case he11x28 => kernel_rfl)
  have s0 := HW.out.cell 0; have s1 := HW.out.cell 1; have s2 := HW.out.cell 2; have s3 := HW.out.cell 3
  have f0 := HW.out.frozen 0; have f1 := HW.out.frozen 1; have f2 := HW.out.frozen 2; have f3 := HW.out.frozen 3
  (try simp at s0 s1 s2 s3)
  go_simp
  (try clear hHeld)
  refine hK.out _ _ ?_
  clear hK K
  (try simp only [Act.put, List.setIfInBounds_toArray, List.set_cons_zero, List.set_cons_succ])
  (refine wpAnyL_done (by kernel_rfl) ?_ _)
  clear s0 s1 s2 s3 f0 f1 f2 f3
  go_wp2_with fail
  have kb := (((HW.out.set_ 0 (.int .i64 tsn)).set_ 1 (.int .i64 tso)).set_ 2 (.slice LA2 ln lc2)).set_ 3 (.slice RA2 rn rc2)
  have hf : Fr (fun g => g = w.heap.size + 1) v2 ((((v2.setCell ⟨w.heap.size + 1, 0, none⟩ (.int .i64 tsn)).setCell ⟨w.heap.size + 1, 1, none⟩ (.int .i64 tso)).setCell ⟨w.heap.size + 1, 2, none⟩ (.slice LA2 ln lc2)).setCell ⟨w.heap.size + 1, 3, none⟩ (.slice RA2 rn rc2)) := Fr.setAt (Fr.setAt (Fr.setAt (Fr.setAt (E := fun g => g = w.heap.size + 1) (Fr.refl _ _) (p := ⟨w.heap.size + 1, 0, none⟩) (.inl rfl) _) (p := ⟨w.heap.size + 1, 1, none⟩) (.inl rfl) _) (p := ⟨w.heap.size + 1, 2, none⟩) (.inl rfl) _) (p := ⟨w.heap.size + 1, 3, none⟩) (.inl rfl) _
  have q0 := kb.cell 0; have q1 := kb.cell 1; have q2 := kb.cell 2; have q3 := kb.cell 3
  simp at q0 q1 q2 q3
  refine bodyPost_ret (v := .agg #[.int .i64 tsn, .int .i64 tso, .slice LA2 ln lc2, .slice RA2 rn rc2]) ?_ rfl ⟨LA2, lc2, RA2, rc2, rfl, hf.rd HL2.out HN2.out, hf.rd HR2.out HM2.out, (((HB.out.setCell (p := ⟨w.heap.size + 1, 0, none⟩) (by dsimp only; omega) _).setCell (p := ⟨w.heap.size + 1, 1, none⟩) (by dsimp only; omega) _).setCell (p := ⟨w.heap.size + 1, 2, none⟩) (by dsimp only; omega) _).setCell (p := ⟨w.heap.size + 1, 3, none⟩) (by dsimp only; omega) _⟩
  simp [results, Tryz.f12, go_sem, q0, q1, q2, q3]
/-- the ground that is made -/
structure GrI (w : World) (GC : Array Value) (B3 : Nat) (sn0 sn1 so0 so1 melt : Int) (v u : Value) (k : Nat) (xs : List Cel) (W : World) : Prop where
  tb : Blk W B3 46 #[u, .int .i64 sn0, .int .i64 sn1, .int .i64 so0, .int .i64 so1, .int .i64 melt]
  gr : Blk W w.heap.size 26 GC
  rs : Blk W (w.heap.size + 1) 46 #[.slice none 0 0, .int .i64 0, .int .i64 0, .int .i64 0, .int .i64 0, .int .i64 0]
  own : W.ownsRow w.heap.size 90 7 v k (xs.flatMap encCel)
  bel : Below w.heap.size w W
  lo : w.heap.size + 1 < B3
section
variable {w : World} {GC : Array Value} {B3 : Nat} {sn0 sn1 so0 so1 melt : Int} {v u : Value} {k : Nat} {xs : List Cel} {W W' : World}
theorem GrI.below (h : GrI w GC B3 sn0 sn1 so0 so1 melt v u k xs W) (hb : Below W.heap.size W W') : GrI w GC B3 sn0 sn1 so0 so1 melt v u k xs W' :=
  ⟨h.tb.below hb h.tb.lt, h.gr.below hb h.gr.lt, h.rs.below hb h.rs.lt, own_mono h.own hb, h.bel.trans (hb.mono h.bel.size), h.lo⟩
theorem GrI.grow (h : GrI w GC B3 sn0 sn1 so0 so1 melt v u k xs W) {v' : Value} {k' : Nat} {ys : List Cel} (hown : W'.ownsRow w.heap.size 90 7 v' k' (ys.flatMap encCel)) (hg : W.grownBy W' v.ownBlock) : GrI w GC B3 sn0 sn1 so0 so1 melt v' u k' ys W' := by
  have kb : ∀ {g : Nat} {t : TypeId} {cs : Array Value}, Blk W g t cs → t ≠ 90 → Blk W' g t cs := fun hb ht => hb.grown hg (fun e => own_blk_ne h.own hb (fun e' => ht e'.symm) e.symm)
  exact ⟨kb h.tb (by decide), kb h.gr (by decide), kb h.rs (by decide), hown, h.bel.grown hg h.bel.size (fun g hg => (h.own.lt g hg).1), h.lo⟩
theorem GrI.store (h : GrI w GC B3 sn0 sn1 so0 so1 melt v u k xs W) (u' : Value) : GrI w GC B3 sn0 sn1 so0 so1 melt v u' k xs (W.setCell ⟨B3, 0, none⟩ u') := by
  have hf : Fr (fun g => g = B3) W (W.setCell ⟨B3, 0, none⟩ u') := Fr.setAt (E := fun g => g = B3) (Fr.refl _ _) (p := ⟨B3, 0, none⟩) (.inl rfl) _
  have hlo := h.lo
  exact ⟨by simpa using h.tb.set_ 0 u', hf.blk h.gr (by omega), hf.blk h.rs (by omega), hf.row h.own (fun g hg e => by subst e; exact own_blk_ne h.own h.tb (by decide) hg), h.bel.setCell (p := ⟨B3, 0, none⟩) (by dsimp only; omega) _, h.lo⟩
end
set_option linter.unusedSimpArgs false in
set_option maxRecDepth 100000 in
set_option maxHeartbeats 4000000 in
theorem rGroundConv_c {A : Option Addr} {n c : Nat} {sn0 sn1 so0 so1 melt : Int} {C : List Cel} {w : World} (h : Rd encCel 7 w A n C) (hn : n ≤ 1000) :
    Calls Tryz.prog 10 #[.agg #[.slice A n c, .int .i64 sn0, .int .i64 sn1, .int .i64 so0, .int .i64 so1, .int .i64 melt]] w fun e w' => ∃ A' c', e = .returned (.agg #[.slice A' n c', .int .i64 sn0, .int .i64 sn1, .int .i64 so0, .int .i64 so1, .int .i64 melt]) ∧ Rd encCel 7 w' A' n C ∧ Below w.heap.size w w' := by
  have hlen := h.len
  have hal := ((Below.refl w.heap.size w).alloc (Nat.le_refl _) (.cells #[.slice A n c, .int .i64 sn0, .int .i64 sn1, .int .i64 so0, .int .i64 so1, .int .i64 melt] 26)).alloc (by simp) (.cells #[.slice none 0 0, .int .i64 0, .int .i64 0, .int .i64 0, .int .i64 0, .int .i64 0] 46)
  have b0 := (Blk.new w 26 #[.slice A n c, .int .i64 sn0, .int .i64 sn1, .int .i64 so0, .int .i64 so1, .int .i64 melt]).alloc (.cells #[.slice none 0 0, .int .i64 0, .int .i64 0, .int .i64 0, .int .i64 0, .int .i64 0] 46)
  have b1 := Blk.new (w.alloc (.cells #[.slice A n c, .int .i64 sn0, .int .i64 sn1, .int .i64 so0, .int .i64 so1, .int .i64 melt] 26)) 46 #[.slice none 0 0, .int .i64 0, .int .i64 0, .int .i64 0, .int .i64 0, .int .i64 0]
  simp only [World.size_alloc] at b1
  have HB := Lib.hid hal; have HG := Lib.hid b0; have HRS := Lib.hid b1; have HH := Lib.hid h; have HLEN := Lib.hid hlen
  clear hal b0 b1 h hlen
  obtain ⟨i0, hi0, hz0, hz1, hz2⟩ := info_parts infoCelT
  have HI0 := Lib.hid hi0; have HZ0 := Lib.hid hz0; have HZ1 := Lib.hid hz1; have HZ2 := Lib.hid hz2
  clear hi0 hz0 hz1 hz2
  go_enter Tryz.func10, Tryz.ntmps10
  go_upto_region 1 with fail
  revert HB HG HRS
  generalize World.alloc (World.alloc w _) _ = w1
  intro HB HG HRS
  go_cut [3] (fun pv wx => ∃ B3, pv = .pointer (some ⟨B3, 0, none⟩) ∧ GrI w #[.slice A n c, .int .i64 sn0, .int .i64 sn1, .int .i64 so0, .int .i64 so1, .int .i64 melt] B3 sn0 sn1 so0 so1 melt (.slice none 0 0) (.slice none 0 0) 0 [] wx)
  case first =>
    have g1 := HG.out.cell 1; have g2 := HG.out.cell 2; have g3 := HG.out.cell 3; have g4 := HG.out.cell 4; have g5 := HG.out.cell 5
    simp at g1 g2 g3 g4 g5
    refine wp_region_till [10] (fun U => U.cell? ⟨w.heap.size, 1, none⟩ = some (.int .i64 sn0) ∧ U.cell? ⟨w.heap.size, 2, none⟩ = some (.int .i64 sn1) ∧ U.cell? ⟨w.heap.size, 3, none⟩ = some (.int .i64 so0) ∧ U.cell? ⟨w.heap.size, 4, none⟩ = some (.int .i64 so1) ∧ U.cell? ⟨w.heap.size, 5, none⟩ = some (.int .i64 melt)) (by kernel_rfl) (by exact ⟨g1, g2, g3, g4, g5⟩) (fun hHeld => ?_)
    have hb9 := (Below.refl w1.heap.size w1).drew
    have t0 := below_tr HB.out hb9; have t1 := HG.out.below hb9 HG.out.lt; have t2 := HRS.out.below hb9 HRS.out.lt
    clear HB HG HRS
    have HB := Lib.hid t0; have HG := Lib.hid t1; have HRS := Lib.hid t2
    clear t0 t1 t2
    clear hb9
    revert hHeld HB HG HRS
    generalize w1.drew = w0
    intro hHeld HB HG HRS
    (refine wpAnyL_take (n := 0) (i := 0) (oi := ?ox29) (v := ?vx29) ?hix29 ?k1x29 ?k2x29 ?k3x29 ?k4x29 ?k5x29 ?k6x29 ?hQx29 ?hYx29 ?hSx29 ?restx29; (case hix29 => (simp only [List.getElem?_toArray, List.getElem?_cons_succ, List.getElem?_cons_zero]; exact rfl)); (case k1x29 => kernel_rfl); (case k2x29 => kernel_rfl); (case k3x29 => kernel_rfl); (case k4x29 => kernel_rfl); (case k5x29 => kernel_rfl); (case k6x29 => kernel_rfl); (case hSx29 => assumption); (case hYx29 => (refine Or.inl ⟨rfl, ?hyx29⟩; intro w hSw; (try dsimp only at hSw); go_simp; (try with_reducible rfl))); (case hQx29 => exact (fun _ _ _ h => h)); (try simp only [Act.put, List.setIfInBounds_toArray, List.set_cons_zero, List.set_cons_succ]))
    (refine wpAnyL_take (n := 0) (i := 1) (oi := ?ox30) (v := ?vx30) ?hix30 ?k1x30 ?k2x30 ?k3x30 ?k4x30 ?k5x30 ?k6x30 ?hQx30 ?hYx30 ?hSx30 ?restx30; (case hix30 => (simp only [List.getElem?_toArray, List.getElem?_cons_succ, List.getElem?_cons_zero]; exact rfl)); (case k1x30 => kernel_rfl); (case k2x30 => kernel_rfl); (case k3x30 => kernel_rfl); (case k4x30 => kernel_rfl); (case k5x30 => kernel_rfl); (case k6x30 => kernel_rfl); (case hSx30 => assumption); (case hYx30 => (refine Or.inl ⟨rfl, ?hyx30⟩; intro w hSw; (try dsimp only at hSw); go_simp; (try with_reducible rfl))); (case hQx30 => exact (fun _ _ _ h => h)); (try simp only [Act.put, List.setIfInBounds_toArray, List.set_cons_zero, List.set_cons_succ]))
    (refine wpAnyL_take (n := 0) (i := 3) (oi := ?ox31) (v := ?vx31) ?hix31 ?k1x31 ?k2x31 ?k3x31 ?k4x31 ?k5x31 ?k6x31 ?hQx31 ?hYx31 ?hSx31 ?restx31; (case hix31 => (simp only [List.getElem?_toArray, List.getElem?_cons_succ, List.getElem?_cons_zero]; exact rfl)); (case k1x31 => kernel_rfl); (case k2x31 => kernel_rfl); (case k3x31 => kernel_rfl); (case k4x31 => kernel_rfl); (case k5x31 => kernel_rfl); (case k6x31 => kernel_rfl); (case hSx31 => assumption); (case hYx31 => (refine Or.inl ⟨rfl, ?hyx31⟩; intro w hSw; (try dsimp only at hSw); go_simp; (try with_reducible rfl))); (case hQx31 => exact (fun _ _ _ h => h)); (try simp only [Act.put, List.setIfInBounds_toArray, List.set_cons_zero, List.set_cons_succ]))
    (refine wpAnyL_take (n := 0) (i := 4) (oi := ?ox32) (v := ?vx32) ?hix32 ?k1x32 ?k2x32 ?k3x32 ?k4x32 ?k5x32 ?k6x32 ?hQx32 ?hYx32 ?hSx32 ?restx32; (case hix32 => (simp only [List.getElem?_toArray, List.getElem?_cons_succ, List.getElem?_cons_zero]; exact rfl)); (case k1x32 => kernel_rfl); (case k2x32 => kernel_rfl); (case k3x32 => kernel_rfl); (case k4x32 => kernel_rfl); (case k5x32 => kernel_rfl); (case k6x32 => kernel_rfl); (case hSx32 => assumption); (case hYx32 => (refine Or.inl ⟨rfl, ?hyx32⟩; intro w hSw; (try dsimp only at hSw); go_simp; (try with_reducible rfl))); (case hQx32 => exact (fun _ _ _ h => h)); (try simp only [Act.put, List.setIfInBounds_toArray, List.set_cons_zero, List.set_cons_succ]))
    (refine wpAnyL_take (n := 0) (i := 6) (oi := ?ox33) (v := ?vx33) ?hix33 ?k1x33 ?k2x33 ?k3x33 ?k4x33 ?k5x33 ?k6x33 ?hQx33 ?hYx33 ?hSx33 ?restx33; (case hix33 => (simp only [List.getElem?_toArray, List.getElem?_cons_succ, List.getElem?_cons_zero]; exact rfl)); (case k1x33 => kernel_rfl); (case k2x33 => kernel_rfl); (case k3x33 => kernel_rfl); (case k4x33 => kernel_rfl); (case k5x33 => kernel_rfl); (case k6x33 => kernel_rfl); (case hSx33 => assumption); (case hYx33 => (refine Or.inl ⟨rfl, ?hyx33⟩; intro w hSw; (try dsimp only at hSw); go_simp; (try with_reducible rfl))); (case hQx33 => exact (fun _ _ _ h => h)); (try simp only [Act.put, List.setIfInBounds_toArray, List.set_cons_zero, List.set_cons_succ]))
    (refine wpAnyL_take (n := 0) (i := 7) (oi := ?ox34) (v := ?vx34) ?hix34 ?k1x34 ?k2x34 ?k3x34 ?k4x34 ?k5x34 ?k6x34 ?hQx34 ?hYx34 ?hSx34 ?restx34; (case hix34 => (simp only [List.getElem?_toArray, List.getElem?_cons_succ, List.getElem?_cons_zero]; exact rfl)); (case k1x34 => kernel_rfl); (case k2x34 => kernel_rfl); (case k3x34 => kernel_rfl); (case k4x34 => kernel_rfl); (case k5x34 => kernel_rfl); (case k6x34 => kernel_rfl); (case hSx34 => assumption); (case hYx34 => (refine Or.inl ⟨rfl, ?hyx34⟩; intro w hSw; (try dsimp only at hSw); go_simp; (try with_reducible rfl))); (case hQx34 => exact (fun _ _ _ h => h)); (try simp only [Act.put, List.setIfInBounds_toArray, List.set_cons_zero, List.set_cons_succ]))
    refine wpAnyL_ready (rs := [2, 9]) (by kernel_rfl) (by simp) ?_
    refine AllReadyL.cons (o := ?o2x35) ?hi2x35 (fun K hK => ?_) (AllReadyL.cons (o := ?o9x35) ?hi9x35 (fun K hK => ?_) AllReadyL.nil)
    (case hi2x35 => (simp only [List.getElem?_toArray, List.getElem?_cons_succ, List.getElem?_cons_zero]; exact rfl))
    (case hi9x35 => (simp only [List.getElem?_toArray, List.getElem?_cons_succ, List.getElem?_cons_zero]; exact rfl))
    · skip
      go_simp
      go_at_call 26
      refine (rto_c _ _ _).mono ?_
      rintro e v1 ⟨rfl, hb9⟩
      have t0 := below_tr HB.out hb9; have t1 := HG.out.below hb9 HG.out.lt; have t2 := HRS.out.below hb9 HRS.out.lt
      clear HB HG HRS
      have HB := Lib.hid t0; have HG := Lib.hid t1; have HRS := Lib.hid t2
      clear t0 t1 t2
      clear hb9 
      (try go_wp2_with fail)
      (try clear hHeld)
      refine hK.out _ _ (by (try dsimp only); exact ⟨by simpa using HG.out.cell 1, by simpa using HG.out.cell 2, by simpa using HG.out.cell 3, by simpa using HG.out.cell 4, by simpa using HG.out.cell 5⟩) (fun hHeld => ?_)
      clear hK K
      (try simp only [Act.put, List.setIfInBounds_toArray, List.set_cons_zero, List.set_cons_succ])
      refine wpAnyL_ready (rs := [5, 9]) (by kernel_rfl) (by simp) ?_
      refine AllReadyL.cons (o := ?o5x36) ?hi5x36 (fun K hK => ?_) (AllReadyL.cons (o := ?o9x36) ?hi9x36 (fun K hK => ?_) AllReadyL.nil)
      (case hi5x36 => (simp only [List.getElem?_toArray, List.getElem?_cons_succ, List.getElem?_cons_zero]; exact rfl))
      (case hi9x36 => (simp only [List.getElem?_toArray, List.getElem?_cons_succ, List.getElem?_cons_zero]; exact rfl))
      · skip
        go_simp
        go_at_call 26
        refine (rto_c _ _ _).mono ?_
        rintro e v2 ⟨rfl, hb9⟩
        have t0 := below_tr HB.out hb9; have t1 := HG.out.below hb9 HG.out.lt; have t2 := HRS.out.below hb9 HRS.out.lt
        clear HB HG HRS
        have HB := Lib.hid t0; have HG := Lib.hid t1; have HRS := Lib.hid t2
        clear t0 t1 t2
        clear hb9 
        (try go_wp2_with fail)
        (try clear hHeld)
        refine hK.out _ _ (by (try dsimp only); exact ⟨by simpa using HG.out.cell 1, by simpa using HG.out.cell 2, by simpa using HG.out.cell 3, by simpa using HG.out.cell 4, by simpa using HG.out.cell 5⟩) (fun hHeld => ?_)
        clear hK K
        (try simp only [Act.put, List.setIfInBounds_toArray, List.set_cons_zero, List.set_cons_succ])
        (refine wpAnyL_take (n := 0) (i := 8) (oi := ?ox37) (v := ?vx37) ?hix37 ?k1x37 ?k2x37 ?k3x37 ?k4x37 ?k5x37 ?k6x37 ?hQx37 ?hYx37 ?hSx37 ?restx37; (case hix37 => (simp only [List.getElem?_toArray, List.getElem?_cons_succ, List.getElem?_cons_zero]; exact rfl)); (case k1x37 => kernel_rfl); (case k2x37 => kernel_rfl); (case k3x37 => kernel_rfl); (case k4x37 => kernel_rfl); (case k5x37 => kernel_rfl); (case k6x37 => kernel_rfl); (case hSx37 => assumption); (case hYx37 => (refine Or.inl ⟨rfl, ?hyx37⟩; intro w hSw; (try dsimp only at hSw); go_simp; (try with_reducible rfl))); (case hQx37 => exact (fun _ _ _ h => h)); (try simp only [Act.put, List.setIfInBounds_toArray, List.set_cons_zero, List.set_cons_succ]))
        refine wpAnyL_ready (rs := [9]) (by kernel_rfl) (by simp) ?_
        refine AllReadyL.cons (o := ?o9x38) ?hi9x38 (fun K hK => ?_) AllReadyL.nil
        (case hi9x38 => (simp only [List.getElem?_toArray, List.getElem?_cons_succ, List.getElem?_cons_zero]; exact rfl))
        go_simp
        have hb9 := (Below.refl v2.heap.size v2).alloc (Nat.le_refl _) (.cells #[.slice none 0 0, .int .i64 0, .int .i64 0, .int .i64 0, .int .i64 0, .int .i64 0] 46)
        have hn := Blk.new v2 46 #[.slice none 0 0, .int .i64 0, .int .i64 0, .int .i64 0, .int .i64 0, .int .i64 0]
        have HGA := Lib.hid (show w.heap.size + 1 < v2.heap.size from HRS.out.lt)
        have t0 := below_tr HB.out hb9; have t1 := HG.out.below hb9 HG.out.lt; have t2 := HRS.out.below hb9 HRS.out.lt
        clear HB HG HRS
        have HB := Lib.hid t0; have HG := Lib.hid t1; have HRS := Lib.hid t2
        clear t0 t1 t2
        have HA := Lib.hid hn
        clear hb9 hn
        (try clear hHeld)
        refine hK.out _ _ (by (try dsimp only); exact ⟨by simpa using HG.out.cell 1, by simpa using HG.out.cell 2, by simpa using HG.out.cell 3, by simpa using HG.out.cell 4, by simpa using HG.out.cell 5⟩) (fun hHeld => ?_)
        clear hK K
        (try simp only [Act.put, List.setIfInBounds_toArray, List.set_cons_zero, List.set_cons_succ])
        revert hHeld HGA HB HG HRS HA
        generalize hgA : v2.heap.size = gA
        generalize (World.alloc v2 (.cells #[.slice none 0 0, .int .i64 0, .int .i64 0, .int .i64 0, .int .i64 0, .int .i64 0] 46)) = w0
        intro HGA HB HG HRS HA hHeld
        clear hgA
        refine wpAnyL_ready (rs := [10]) (by kernel_rfl) (by simp) ?_
        refine AllReadyL.last (o := ?o10x39) ?hi10x39 ?he10x39 (fun K hK => ?_) AllReadyL.nil
        (case hi10x39 => (simp only [List.getElem?_toArray, List.getElem?_cons_succ, List.getElem?_cons_zero]; exact rfl))
        (case he10x39 => kernel_rfl)
        have s0 := HA.out.cell 0; have s1 := HA.out.cell 1; have s2 := HA.out.cell 2; have s3 := HA.out.cell 3; have s4 := HA.out.cell 4; have s5 := HA.out.cell 5
        have f0 := HA.out.frozen 0; have f1 := HA.out.frozen 1; have f2 := HA.out.frozen 2; have f3 := HA.out.frozen 3; have f4 := HA.out.frozen 4; have f5 := HA.out.frozen 5
        (try simp at s0 s1 s2 s3 s4 s5)
        go_simp
        (try clear hHeld)
        refine hK.out _ _ ?_
        clear hK K
        (try simp only [Act.put, List.setIfInBounds_toArray, List.set_cons_zero, List.set_cons_succ])
        (refine wpAnyL_done (by kernel_rfl) ?_ _)
        clear s0 s1 s2 s3 s4 s5 f0 f1 f2 f3 f4 f5
        go_wp2_with fail
        go_meet
        have kb := (((((HA.out.set_ 0 (.slice none 0 0)).set_ 1 (.int .i64 sn0)).set_ 2 (.int .i64 sn1)).set_ 3 (.int .i64 so0)).set_ 4 (.int .i64 so1)).set_ 5 (.int .i64 melt)
        have hga := HGA.out
        have hf : Fr (fun g => g = gA) w0 ((((((w0.setCell ⟨gA, 0, none⟩ (.slice none 0 0)).setCell ⟨gA, 1, none⟩ (.int .i64 sn0)).setCell ⟨gA, 2, none⟩ (.int .i64 sn1)).setCell ⟨gA, 3, none⟩ (.int .i64 so0)).setCell ⟨gA, 4, none⟩ (.int .i64 so1)).setCell ⟨gA, 5, none⟩ (.int .i64 melt)) := Fr.setAt (Fr.setAt (Fr.setAt (Fr.setAt (Fr.setAt (Fr.setAt (E := fun g => g = gA) (Fr.refl _ _) (p := ⟨gA, 0, none⟩) (.inl rfl) _) (p := ⟨gA, 1, none⟩) (.inl rfl) _) (p := ⟨gA, 2, none⟩) (.inl rfl) _) (p := ⟨gA, 3, none⟩) (.inl rfl) _) (p := ⟨gA, 4, none⟩) (.inl rfl) _) (p := ⟨gA, 5, none⟩) (.inl rfl) _
        exact ⟨gA, rfl, by simpa using kb, hf.blk HG.out (by omega), hf.blk HRS.out (by omega), World.ownsRow_nil _ _ _ _, HB.out.trans (hf.below HB.out.size (fun g e => by subst e; omega)), hga⟩
      · skip
        go_simp
        have hb9 := (Below.refl v1.heap.size v1).alloc (Nat.le_refl _) (.cells #[.slice none 0 0, .int .i64 0, .int .i64 0, .int .i64 0, .int .i64 0, .int .i64 0] 46)
        have hn := Blk.new v1 46 #[.slice none 0 0, .int .i64 0, .int .i64 0, .int .i64 0, .int .i64 0, .int .i64 0]
        have HGA := Lib.hid (show w.heap.size + 1 < v1.heap.size from HRS.out.lt)
        have t0 := below_tr HB.out hb9; have t1 := HG.out.below hb9 HG.out.lt; have t2 := HRS.out.below hb9 HRS.out.lt
        clear HB HG HRS
        have HB := Lib.hid t0; have HG := Lib.hid t1; have HRS := Lib.hid t2
        clear t0 t1 t2
        have HA := Lib.hid hn
        clear hb9 hn
        (try clear hHeld)
        refine hK.out _ _ (by (try dsimp only); exact ⟨by simpa using HG.out.cell 1, by simpa using HG.out.cell 2, by simpa using HG.out.cell 3, by simpa using HG.out.cell 4, by simpa using HG.out.cell 5⟩) (fun hHeld => ?_)
        clear hK K
        (try simp only [Act.put, List.setIfInBounds_toArray, List.set_cons_zero, List.set_cons_succ])
        revert hHeld HGA HB HG HRS HA
        generalize hgA : v1.heap.size = gA
        generalize (World.alloc v1 (.cells #[.slice none 0 0, .int .i64 0, .int .i64 0, .int .i64 0, .int .i64 0, .int .i64 0] 46)) = w0
        intro HGA HB HG HRS HA hHeld
        clear hgA
        refine wpAnyL_ready (rs := [5]) (by kernel_rfl) (by simp) ?_
        refine AllReadyL.cons (o := ?o5x40) ?hi5x40 (fun K hK => ?_) AllReadyL.nil
        (case hi5x40 => (simp only [List.getElem?_toArray, List.getElem?_cons_succ, List.getElem?_cons_zero]; exact rfl))
        go_simp
        go_at_call 26
        refine (rto_c _ _ _).mono ?_
        rintro e v2 ⟨rfl, hb9⟩
        have t0 := below_tr HB.out hb9; have t1 := HG.out.below hb9 HG.out.lt; have t2 := HRS.out.below hb9 HRS.out.lt; have t3 := HA.out.below hb9 HA.out.lt
        clear HB HG HRS HA
        have HB := Lib.hid t0; have HG := Lib.hid t1; have HRS := Lib.hid t2; have HA := Lib.hid t3
        clear t0 t1 t2 t3
        clear hb9 
        (try go_wp2_with fail)
        (try clear hHeld)
        refine hK.out _ _ (by (try dsimp only); exact ⟨by simpa using HG.out.cell 1, by simpa using HG.out.cell 2, by simpa using HG.out.cell 3, by simpa using HG.out.cell 4, by simpa using HG.out.cell 5⟩) (fun hHeld => ?_)
        clear hK K
        (try simp only [Act.put, List.setIfInBounds_toArray, List.set_cons_zero, List.set_cons_succ])
        (refine wpAnyL_take (n := 0) (i := 8) (oi := ?ox41) (v := ?vx41) ?hix41 ?k1x41 ?k2x41 ?k3x41 ?k4x41 ?k5x41 ?k6x41 ?hQx41 ?hYx41 ?hSx41 ?restx41; (case hix41 => (simp only [List.getElem?_toArray, List.getElem?_cons_succ, List.getElem?_cons_zero]; exact rfl)); (case k1x41 => kernel_rfl); (case k2x41 => kernel_rfl); (case k3x41 => kernel_rfl); (case k4x41 => kernel_rfl); (case k5x41 => kernel_rfl); (case k6x41 => kernel_rfl); (case hSx41 => assumption); (case hYx41 => (refine Or.inl ⟨rfl, ?hyx41⟩; intro w hSw; (try dsimp only at hSw); go_simp; (try with_reducible rfl))); (case hQx41 => exact (fun _ _ _ h => h)); (try simp only [Act.put, List.setIfInBounds_toArray, List.set_cons_zero, List.set_cons_succ]))
        refine wpAnyL_ready (rs := [10]) (by kernel_rfl) (by simp) ?_
        refine AllReadyL.last (o := ?o10x42) ?hi10x42 ?he10x42 (fun K hK => ?_) AllReadyL.nil
        (case hi10x42 => (simp only [List.getElem?_toArray, List.getElem?_cons_succ, List.getElem?_cons_zero]; exact rfl))
        (case he10x42 => kernel_rfl)
        have s0 := HA.out.cell 0; have s1 := HA.out.cell 1; have s2 := HA.out.cell 2; have s3 := HA.out.cell 3; have s4 := HA.out.cell 4; have s5 := HA.out.cell 5
        have f0 := HA.out.frozen 0; have f1 := HA.out.frozen 1; have f2 := HA.out.frozen 2; have f3 := HA.out.frozen 3; have f4 := HA.out.frozen 4; have f5 := HA.out.frozen 5
        (try simp at s0 s1 s2 s3 s4 s5)
        go_simp
        (try clear hHeld)
        refine hK.out _ _ ?_
        clear hK K
        (try simp only [Act.put, List.setIfInBounds_toArray, List.set_cons_zero, List.set_cons_succ])
        (refine wpAnyL_done (by kernel_rfl) ?_ _)
        clear s0 s1 s2 s3 s4 s5 f0 f1 f2 f3 f4 f5
        go_wp2_with fail
        go_meet
        have kb := (((((HA.out.set_ 0 (.slice none 0 0)).set_ 1 (.int .i64 sn0)).set_ 2 (.int .i64 sn1)).set_ 3 (.int .i64 so0)).set_ 4 (.int .i64 so1)).set_ 5 (.int .i64 melt)
        have hga := HGA.out
        have hf : Fr (fun g => g = gA) v2 ((((((v2.setCell ⟨gA, 0, none⟩ (.slice none 0 0)).setCell ⟨gA, 1, none⟩ (.int .i64 sn0)).setCell ⟨gA, 2, none⟩ (.int .i64 sn1)).setCell ⟨gA, 3, none⟩ (.int .i64 so0)).setCell ⟨gA, 4, none⟩ (.int .i64 so1)).setCell ⟨gA, 5, none⟩ (.int .i64 melt)) := Fr.setAt (Fr.setAt (Fr.setAt (Fr.setAt (Fr.setAt (Fr.setAt (E := fun g => g = gA) (Fr.refl _ _) (p := ⟨gA, 0, none⟩) (.inl rfl) _) (p := ⟨gA, 1, none⟩) (.inl rfl) _) (p := ⟨gA, 2, none⟩) (.inl rfl) _) (p := ⟨gA, 3, none⟩) (.inl rfl) _) (p := ⟨gA, 4, none⟩) (.inl rfl) _) (p := ⟨gA, 5, none⟩) (.inl rfl) _
        exact ⟨gA, rfl, by simpa using kb, hf.blk HG.out (by omega), hf.blk HRS.out (by omega), World.ownsRow_nil _ _ _ _, HB.out.trans (hf.below HB.out.size (fun g e => by subst e; omega)), hga⟩
    · skip
      go_simp
      have hb9 := (Below.refl w0.heap.size w0).alloc (Nat.le_refl _) (.cells #[.slice none 0 0, .int .i64 0, .int .i64 0, .int .i64 0, .int .i64 0, .int .i64 0] 46)
      have hn := Blk.new w0 46 #[.slice none 0 0, .int .i64 0, .int .i64 0, .int .i64 0, .int .i64 0, .int .i64 0]
      have HGA := Lib.hid (show w.heap.size + 1 < w0.heap.size from HRS.out.lt)
      have t0 := below_tr HB.out hb9; have t1 := HG.out.below hb9 HG.out.lt; have t2 := HRS.out.below hb9 HRS.out.lt
      clear HB HG HRS
      have HB := Lib.hid t0; have HG := Lib.hid t1; have HRS := Lib.hid t2
      clear t0 t1 t2
      have HA := Lib.hid hn
      clear hb9 hn
      (try clear hHeld)
      refine hK.out _ _ (by (try dsimp only); exact ⟨by simpa using HG.out.cell 1, by simpa using HG.out.cell 2, by simpa using HG.out.cell 3, by simpa using HG.out.cell 4, by simpa using HG.out.cell 5⟩) (fun hHeld => ?_)
      clear hK K
      (try simp only [Act.put, List.setIfInBounds_toArray, List.set_cons_zero, List.set_cons_succ])
      revert hHeld HGA HB HG HRS HA
      generalize hgA : w0.heap.size = gA
      generalize (World.alloc w0 (.cells #[.slice none 0 0, .int .i64 0, .int .i64 0, .int .i64 0, .int .i64 0, .int .i64 0] 46)) = w0
      intro HGA HB HG HRS HA hHeld
      clear hgA
      refine wpAnyL_ready (rs := [2]) (by kernel_rfl) (by simp) ?_
      refine AllReadyL.cons (o := ?o2x43) ?hi2x43 (fun K hK => ?_) AllReadyL.nil
      (case hi2x43 => (simp only [List.getElem?_toArray, List.getElem?_cons_succ, List.getElem?_cons_zero]; exact rfl))
      go_simp
      go_at_call 26
      refine (rto_c _ _ _).mono ?_
      rintro e v1 ⟨rfl, hb9⟩
      have t0 := below_tr HB.out hb9; have t1 := HG.out.below hb9 HG.out.lt; have t2 := HRS.out.below hb9 HRS.out.lt; have t3 := HA.out.below hb9 HA.out.lt
      clear HB HG HRS HA
      have HB := Lib.hid t0; have HG := Lib.hid t1; have HRS := Lib.hid t2; have HA := Lib.hid t3
      clear t0 t1 t2 t3
      clear hb9 
      (try go_wp2_with fail)
      (try clear hHeld)
      refine hK.out _ _ (by (try dsimp only); exact ⟨by simpa using HG.out.cell 1, by simpa using HG.out.cell 2, by simpa using HG.out.cell 3, by simpa using HG.out.cell 4, by simpa using HG.out.cell 5⟩) (fun hHeld => ?_)
      clear hK K
      (try simp only [Act.put, List.setIfInBounds_toArray, List.set_cons_zero, List.set_cons_succ])
      refine wpAnyL_ready (rs := [5]) (by kernel_rfl) (by simp) ?_
      refine AllReadyL.cons (o := ?o5x44) ?hi5x44 (fun K hK => ?_) AllReadyL.nil
      (case hi5x44 => (simp only [List.getElem?_toArray, List.getElem?_cons_succ, List.getElem?_cons_zero]; exact rfl))
      go_simp
      go_at_call 26
      refine (rto_c _ _ _).mono ?_
      rintro e v2 ⟨rfl, hb9⟩
      have t0 := below_tr HB.out hb9; have t1 := HG.out.below hb9 HG.out.lt; have t2 := HRS.out.below hb9 HRS.out.lt; have t3 := HA.out.below hb9 HA.out.lt
      clear HB HG HRS HA
      have HB := Lib.hid t0; have HG := Lib.hid t1; have HRS := Lib.hid t2; have HA := Lib.hid t3
      clear t0 t1 t2 t3
      clear hb9 
      (try go_wp2_with fail)
      (try clear hHeld)
      refine hK.out _ _ (by (try dsimp only); exact ⟨by simpa using HG.out.cell 1, by simpa using HG.out.cell 2, by simpa using HG.out.cell 3, by simpa using HG.out.cell 4, by simpa using HG.out.cell 5⟩) (fun hHeld => ?_)
      clear hK K
      (try simp only [Act.put, List.setIfInBounds_toArray, List.set_cons_zero, List.set_cons_succ])
      (refine wpAnyL_take (n := 0) (i := 8) (oi := ?ox45) (v := ?vx45) ?hix45 ?k1x45 ?k2x45 ?k3x45 ?k4x45 ?k5x45 ?k6x45 ?hQx45 ?hYx45 ?hSx45 ?restx45; (case hix45 => (simp only [List.getElem?_toArray, List.getElem?_cons_succ, List.getElem?_cons_zero]; exact rfl)); (case k1x45 => kernel_rfl); (case k2x45 => kernel_rfl); (case k3x45 => kernel_rfl); (case k4x45 => kernel_rfl); (case k5x45 => kernel_rfl); (case k6x45 => kernel_rfl); (case hSx45 => assumption); (case hYx45 => (refine Or.inl ⟨rfl, ?hyx45⟩; intro w hSw; (try dsimp only at hSw); go_simp; (try with_reducible rfl))); (case hQx45 => exact (fun _ _ _ h => h)); (try simp only [Act.put, List.setIfInBounds_toArray, List.set_cons_zero, List.set_cons_succ]))
      refine wpAnyL_ready (rs := [10]) (by kernel_rfl) (by simp) ?_
      refine AllReadyL.last (o := ?o10x46) ?hi10x46 ?he10x46 (fun K hK => ?_) AllReadyL.nil
      (case hi10x46 => (simp only [List.getElem?_toArray, List.getElem?_cons_succ, List.getElem?_cons_zero]; exact rfl))
      (case he10x46 => kernel_rfl)
      have s0 := HA.out.cell 0; have s1 := HA.out.cell 1; have s2 := HA.out.cell 2; have s3 := HA.out.cell 3; have s4 := HA.out.cell 4; have s5 := HA.out.cell 5
      have f0 := HA.out.frozen 0; have f1 := HA.out.frozen 1; have f2 := HA.out.frozen 2; have f3 := HA.out.frozen 3; have f4 := HA.out.frozen 4; have f5 := HA.out.frozen 5
      (try simp at s0 s1 s2 s3 s4 s5)
      go_simp
      (try clear hHeld)
      refine hK.out _ _ ?_
      clear hK K
      (try simp only [Act.put, List.setIfInBounds_toArray, List.set_cons_zero, List.set_cons_succ])
      (refine wpAnyL_done (by kernel_rfl) ?_ _)
      clear s0 s1 s2 s3 s4 s5 f0 f1 f2 f3 f4 f5
      go_wp2_with fail
      go_meet
      have kb := (((((HA.out.set_ 0 (.slice none 0 0)).set_ 1 (.int .i64 sn0)).set_ 2 (.int .i64 sn1)).set_ 3 (.int .i64 so0)).set_ 4 (.int .i64 so1)).set_ 5 (.int .i64 melt)
      have hga := HGA.out
      have hf : Fr (fun g => g = gA) v2 ((((((v2.setCell ⟨gA, 0, none⟩ (.slice none 0 0)).setCell ⟨gA, 1, none⟩ (.int .i64 sn0)).setCell ⟨gA, 2, none⟩ (.int .i64 sn1)).setCell ⟨gA, 3, none⟩ (.int .i64 so0)).setCell ⟨gA, 4, none⟩ (.int .i64 so1)).setCell ⟨gA, 5, none⟩ (.int .i64 melt)) := Fr.setAt (Fr.setAt (Fr.setAt (Fr.setAt (Fr.setAt (Fr.setAt (E := fun g => g = gA) (Fr.refl _ _) (p := ⟨gA, 0, none⟩) (.inl rfl) _) (p := ⟨gA, 1, none⟩) (.inl rfl) _) (p := ⟨gA, 2, none⟩) (.inl rfl) _) (p := ⟨gA, 3, none⟩) (.inl rfl) _) (p := ⟨gA, 4, none⟩) (.inl rfl) _) (p := ⟨gA, 5, none⟩) (.inl rfl) _
      exact ⟨gA, rfl, by simpa using kb, hf.blk HG.out (by omega), hf.blk HRS.out (by omega), World.ownsRow_nil _ _ _ _, HB.out.trans (hf.below HB.out.size (fun g e => by subst e; omega)), hga⟩
  case rest =>
    obtain ⟨B3, rfl, hgi⟩ := hcut
    clear HB HG HRS
    have g0 := hgi.gr.cell 0
    simp at g0
    have HGI := Lib.hid hgi
    clear hgi
    go_wp2_with fail
    clear g0
    go_loopw [4, 5] (fun i _ wr => ∃ (k : Nat) (v : Value), k ≤ n ∧ i = .int .i64 (k : Int) ∧ GrI w #[.slice A n c, .int .i64 sn0, .int .i64 sn1, .int .i64 so0, .int .i64 so1, .int .i64 melt] B3 sn0 sn1 so0 so1 melt v v k (C.take k) wr) (fun i _ _ => n - (intOf i).toNat)
    case atStart => exact ⟨0, _, Nat.zero_le _, rfl, HGI.out⟩
    case round =>
      obtain ⟨k, v, hk, rfl, hgi⟩ := hrel
      clear HGI
      have g0 := hgi.gr.cell 0
      simp at g0
      by_cases hlt : k < n
      · obtain ⟨b, o, x, rfl, hbl, hx, y0, y1, y2, y3, y4, y5, y6⟩ := (HH.out.below hgi.bel).atCel hlt
        have hk0 : (0 : Int) ≤ (k : Int) := by omega
        have hkn : (k : Int) < (n : Int) := by omega
        have hal := (Below.refl wr.heap.size wr).alloc (Nat.le_refl _) (.cells #[.int .i64 x.lo, .int .i64 x.hi, .int .i64 x.cap, .int .i64 x.keep, .int .i64 x.pass, .int .i64 x.to, .int .i64 x.pump] 76)
        have HX := Lib.hid (Blk.new wr 76 #[.int .i64 x.lo, .int .i64 x.hi, .int .i64 x.cap, .int .i64 x.keep, .int .i64 x.pass, .int .i64 x.to, .int .i64 x.pump])
        have HT := Lib.hid (hgi.below hal); have HGX := Lib.hid hx
        clear hx hal hgi
        go_upto_region 6 with fail
        clear g0 y0 y1 y2 y3 y4 y5 y6
        revert HX HT
        generalize World.alloc wr _ = w6
        intro HX HT
        have x0 := HX.out.cell 0; have x1 := HX.out.cell 1; have x2 := HX.out.cell 2; have x3 := HX.out.cell 3; have x4 := HX.out.cell 4; have x5 := HX.out.cell 5; have x6 := HX.out.cell 6; have q0 := HT.out.tb.cell 0
        simp at x0 x1 x2 x3 x4 x5 x6 q0
        refine wp_region_till [17, 19] (fun U => U.cell? ⟨wr.heap.size, 0, none⟩ = some (.int .i64 x.lo) ∧ U.cell? ⟨wr.heap.size, 1, none⟩ = some (.int .i64 x.hi) ∧ U.cell? ⟨wr.heap.size, 2, none⟩ = some (.int .i64 x.cap) ∧ U.cell? ⟨wr.heap.size, 3, none⟩ = some (.int .i64 x.keep) ∧ U.cell? ⟨wr.heap.size, 4, none⟩ = some (.int .i64 x.pass) ∧ U.cell? ⟨wr.heap.size, 5, none⟩ = some (.int .i64 x.to) ∧ U.cell? ⟨wr.heap.size, 6, none⟩ = some (.int .i64 x.pump) ∧ U.cell? ⟨B3, 0, none⟩ = some v) (by kernel_rfl) (by exact ⟨x0, x1, x2, x3, x4, x5, x6, q0⟩) (fun hHeld => ?_)
        have hb9 := (Below.refl w6.heap.size w6).drew
        have t0 := HX.out.below hb9 HX.out.lt; have t1 := HT.out.below hb9
        clear HX HT
        have HX := Lib.hid t0; have HT := Lib.hid t1
        clear t0 t1
        clear hb9
        revert hHeld HX HT
        generalize w6.drew = w0
        intro hHeld HX HT
        (refine wpAnyL_take (n := 1) (i := 0) (oi := ?ox47) (v := ?vx47) ?hix47 ?k1x47 ?k2x47 ?k3x47 ?k4x47 ?k5x47 ?k6x47 ?hQx47 ?hYx47 ?hSx47 ?restx47; (case hix47 => (simp only [List.getElem?_toArray, List.getElem?_cons_succ, List.getElem?_cons_zero]; exact rfl)); (case k1x47 => kernel_rfl); (case k2x47 => kernel_rfl); (case k3x47 => kernel_rfl); (case k4x47 => kernel_rfl); (case k5x47 => kernel_rfl); (case k6x47 => kernel_rfl); (case hSx47 => assumption); (case hYx47 => (refine Or.inl ⟨rfl, ?hyx47⟩; intro w hSw; (try dsimp only at hSw); go_simp; (try with_reducible rfl))); (case hQx47 => exact (fun _ _ _ h => h)); (try simp only [Act.put, List.setIfInBounds_toArray, List.set_cons_zero, List.set_cons_succ]))
        (refine wpAnyL_take (n := 0) (i := 1) (oi := ?ox48) (v := ?vx48) ?hix48 ?k1x48 ?k2x48 ?k3x48 ?k4x48 ?k5x48 ?k6x48 ?hQx48 ?hYx48 ?hSx48 ?restx48; (case hix48 => (simp only [List.getElem?_toArray, List.getElem?_cons_succ, List.getElem?_cons_zero]; exact rfl)); (case k1x48 => kernel_rfl); (case k2x48 => kernel_rfl); (case k3x48 => kernel_rfl); (case k4x48 => kernel_rfl); (case k5x48 => kernel_rfl); (case k6x48 => kernel_rfl); (case hSx48 => assumption); (case hYx48 => (refine Or.inl ⟨rfl, ?hyx48⟩; intro w hSw; (try dsimp only at hSw); go_simp; (try with_reducible rfl))); (case hQx48 => exact (fun _ _ _ h => h)); (try simp only [Act.put, List.setIfInBounds_toArray, List.set_cons_zero, List.set_cons_succ]))
        (refine wpAnyL_take (n := 2) (i := 2) (oi := ?ox49) (v := ?vx49) ?hix49 ?k1x49 ?k2x49 ?k3x49 ?k4x49 ?k5x49 ?k6x49 ?hQx49 ?hYx49 ?hSx49 ?restx49; (case hix49 => (simp only [List.getElem?_toArray, List.getElem?_cons_succ, List.getElem?_cons_zero]; exact rfl)); (case k1x49 => kernel_rfl); (case k2x49 => kernel_rfl); (case k3x49 => kernel_rfl); (case k4x49 => kernel_rfl); (case k5x49 => kernel_rfl); (case k6x49 => kernel_rfl); (case hSx49 => assumption); (case hYx49 => (refine Or.inl ⟨rfl, ?hyx49⟩; intro w hSw; (try dsimp only at hSw); go_simp; (try with_reducible rfl))); (case hQx49 => exact (fun _ _ _ h => h)); (try simp only [Act.put, List.setIfInBounds_toArray, List.set_cons_zero, List.set_cons_succ]))
        (refine wpAnyL_take (n := 1) (i := 3) (oi := ?ox50) (v := ?vx50) ?hix50 ?k1x50 ?k2x50 ?k3x50 ?k4x50 ?k5x50 ?k6x50 ?hQx50 ?hYx50 ?hSx50 ?restx50; (case hix50 => (simp only [List.getElem?_toArray, List.getElem?_cons_succ, List.getElem?_cons_zero]; exact rfl)); (case k1x50 => kernel_rfl); (case k2x50 => kernel_rfl); (case k3x50 => kernel_rfl); (case k4x50 => kernel_rfl); (case k5x50 => kernel_rfl); (case k6x50 => kernel_rfl); (case hSx50 => assumption); (case hYx50 => (refine Or.inl ⟨rfl, ?hyx50⟩; intro w hSw; (try dsimp only at hSw); go_simp; (try with_reducible rfl))); (case hQx50 => exact (fun _ _ _ h => h)); (try simp only [Act.put, List.setIfInBounds_toArray, List.set_cons_zero, List.set_cons_succ]))
        (refine wpAnyL_take (n := 3) (i := 5) (oi := ?ox51) (v := ?vx51) ?hix51 ?k1x51 ?k2x51 ?k3x51 ?k4x51 ?k5x51 ?k6x51 ?hQx51 ?hYx51 ?hSx51 ?restx51; (case hix51 => (simp only [List.getElem?_toArray, List.getElem?_cons_succ, List.getElem?_cons_zero]; exact rfl)); (case k1x51 => kernel_rfl); (case k2x51 => kernel_rfl); (case k3x51 => kernel_rfl); (case k4x51 => kernel_rfl); (case k5x51 => kernel_rfl); (case k6x51 => kernel_rfl); (case hSx51 => assumption); (case hYx51 => (refine Or.inl ⟨rfl, ?hyx51⟩; intro w hSw; (try dsimp only at hSw); go_simp; (try with_reducible rfl))); (case hQx51 => exact (fun _ _ _ h => h)); (try simp only [Act.put, List.setIfInBounds_toArray, List.set_cons_zero, List.set_cons_succ]))
        (refine wpAnyL_take (n := 2) (i := 6) (oi := ?ox52) (v := ?vx52) ?hix52 ?k1x52 ?k2x52 ?k3x52 ?k4x52 ?k5x52 ?k6x52 ?hQx52 ?hYx52 ?hSx52 ?restx52; (case hix52 => (simp only [List.getElem?_toArray, List.getElem?_cons_succ, List.getElem?_cons_zero]; exact rfl)); (case k1x52 => kernel_rfl); (case k2x52 => kernel_rfl); (case k3x52 => kernel_rfl); (case k4x52 => kernel_rfl); (case k5x52 => kernel_rfl); (case k6x52 => kernel_rfl); (case hSx52 => assumption); (case hYx52 => (refine Or.inl ⟨rfl, ?hyx52⟩; intro w hSw; (try dsimp only at hSw); go_simp; (try with_reducible rfl))); (case hQx52 => exact (fun _ _ _ h => h)); (try simp only [Act.put, List.setIfInBounds_toArray, List.set_cons_zero, List.set_cons_succ]))
        (refine wpAnyL_take (n := 3) (i := 7) (oi := ?ox53) (v := ?vx53) ?hix53 ?k1x53 ?k2x53 ?k3x53 ?k4x53 ?k5x53 ?k6x53 ?hQx53 ?hYx53 ?hSx53 ?restx53; (case hix53 => (simp only [List.getElem?_toArray, List.getElem?_cons_succ, List.getElem?_cons_zero]; exact rfl)); (case k1x53 => kernel_rfl); (case k2x53 => kernel_rfl); (case k3x53 => kernel_rfl); (case k4x53 => kernel_rfl); (case k5x53 => kernel_rfl); (case k6x53 => kernel_rfl); (case hSx53 => assumption); (case hYx53 => (refine Or.inl ⟨rfl, ?hyx53⟩; intro w hSw; (try dsimp only at hSw); go_simp; (try with_reducible rfl))); (case hQx53 => exact (fun _ _ _ h => h)); (try simp only [Act.put, List.setIfInBounds_toArray, List.set_cons_zero, List.set_cons_succ]))
        (refine wpAnyL_take (n := 2) (i := 8) (oi := ?ox54) (v := ?vx54) ?hix54 ?k1x54 ?k2x54 ?k3x54 ?k4x54 ?k5x54 ?k6x54 ?hQx54 ?hYx54 ?hSx54 ?restx54; (case hix54 => (simp only [List.getElem?_toArray, List.getElem?_cons_succ, List.getElem?_cons_zero]; exact rfl)); (case k1x54 => kernel_rfl); (case k2x54 => kernel_rfl); (case k3x54 => kernel_rfl); (case k4x54 => kernel_rfl); (case k5x54 => kernel_rfl); (case k6x54 => kernel_rfl); (case hSx54 => assumption); (case hYx54 => (refine Or.inl ⟨rfl, ?hyx54⟩; intro w hSw; (try dsimp only at hSw); go_simp; (try with_reducible rfl))); (case hQx54 => exact (fun _ _ _ h => h)); (try simp only [Act.put, List.setIfInBounds_toArray, List.set_cons_zero, List.set_cons_succ]))
        (refine wpAnyL_take (n := 3) (i := 9) (oi := ?ox55) (v := ?vx55) ?hix55 ?k1x55 ?k2x55 ?k3x55 ?k4x55 ?k5x55 ?k6x55 ?hQx55 ?hYx55 ?hSx55 ?restx55; (case hix55 => (simp only [List.getElem?_toArray, List.getElem?_cons_succ, List.getElem?_cons_zero]; exact rfl)); (case k1x55 => kernel_rfl); (case k2x55 => kernel_rfl); (case k3x55 => kernel_rfl); (case k4x55 => kernel_rfl); (case k5x55 => kernel_rfl); (case k6x55 => kernel_rfl); (case hSx55 => assumption); (case hYx55 => (refine Or.inl ⟨rfl, ?hyx55⟩; intro w hSw; (try dsimp only at hSw); go_simp; (try with_reducible rfl))); (case hQx55 => exact (fun _ _ _ h => h)); (try simp only [Act.put, List.setIfInBounds_toArray, List.set_cons_zero, List.set_cons_succ]))
        (refine wpAnyL_take (n := 2) (i := 10) (oi := ?ox56) (v := ?vx56) ?hix56 ?k1x56 ?k2x56 ?k3x56 ?k4x56 ?k5x56 ?k6x56 ?hQx56 ?hYx56 ?hSx56 ?restx56; (case hix56 => (simp only [List.getElem?_toArray, List.getElem?_cons_succ, List.getElem?_cons_zero]; exact rfl)); (case k1x56 => kernel_rfl); (case k2x56 => kernel_rfl); (case k3x56 => kernel_rfl); (case k4x56 => kernel_rfl); (case k5x56 => kernel_rfl); (case k6x56 => kernel_rfl); (case hSx56 => assumption); (case hYx56 => (refine Or.inl ⟨rfl, ?hyx56⟩; intro w hSw; (try dsimp only at hSw); go_simp; (try with_reducible rfl))); (case hQx56 => exact (fun _ _ _ h => h)); (try simp only [Act.put, List.setIfInBounds_toArray, List.set_cons_zero, List.set_cons_succ]))
        (refine wpAnyL_take (n := 3) (i := 11) (oi := ?ox57) (v := ?vx57) ?hix57 ?k1x57 ?k2x57 ?k3x57 ?k4x57 ?k5x57 ?k6x57 ?hQx57 ?hYx57 ?hSx57 ?restx57; (case hix57 => (simp only [List.getElem?_toArray, List.getElem?_cons_succ, List.getElem?_cons_zero]; exact rfl)); (case k1x57 => kernel_rfl); (case k2x57 => kernel_rfl); (case k3x57 => kernel_rfl); (case k4x57 => kernel_rfl); (case k5x57 => kernel_rfl); (case k6x57 => kernel_rfl); (case hSx57 => assumption); (case hYx57 => (refine Or.inl ⟨rfl, ?hyx57⟩; intro w hSw; (try dsimp only at hSw); go_simp; (try with_reducible rfl))); (case hQx57 => exact (fun _ _ _ h => h)); (try simp only [Act.put, List.setIfInBounds_toArray, List.set_cons_zero, List.set_cons_succ]))
        (refine wpAnyL_take (n := 2) (i := 12) (oi := ?ox58) (v := ?vx58) ?hix58 ?k1x58 ?k2x58 ?k3x58 ?k4x58 ?k5x58 ?k6x58 ?hQx58 ?hYx58 ?hSx58 ?restx58; (case hix58 => (simp only [List.getElem?_toArray, List.getElem?_cons_succ, List.getElem?_cons_zero]; exact rfl)); (case k1x58 => kernel_rfl); (case k2x58 => kernel_rfl); (case k3x58 => kernel_rfl); (case k4x58 => kernel_rfl); (case k5x58 => kernel_rfl); (case k6x58 => kernel_rfl); (case hSx58 => assumption); (case hYx58 => (refine Or.inl ⟨rfl, ?hyx58⟩; intro w hSw; (try dsimp only at hSw); go_simp; (try with_reducible rfl))); (case hQx58 => exact (fun _ _ _ h => h)); (try simp only [Act.put, List.setIfInBounds_toArray, List.set_cons_zero, List.set_cons_succ]))
        (refine wpAnyL_take (n := 3) (i := 13) (oi := ?ox59) (v := ?vx59) ?hix59 ?k1x59 ?k2x59 ?k3x59 ?k4x59 ?k5x59 ?k6x59 ?hQx59 ?hYx59 ?hSx59 ?restx59; (case hix59 => (simp only [List.getElem?_toArray, List.getElem?_cons_succ, List.getElem?_cons_zero]; exact rfl)); (case k1x59 => kernel_rfl); (case k2x59 => kernel_rfl); (case k3x59 => kernel_rfl); (case k4x59 => kernel_rfl); (case k5x59 => kernel_rfl); (case k6x59 => kernel_rfl); (case hSx59 => assumption); (case hYx59 => (refine Or.inl ⟨rfl, ?hyx59⟩; intro w hSw; (try dsimp only at hSw); go_simp; (try with_reducible rfl))); (case hQx59 => exact (fun _ _ _ h => h)); (try simp only [Act.put, List.setIfInBounds_toArray, List.set_cons_zero, List.set_cons_succ]))
        (refine wpAnyL_take (n := 2) (i := 14) (oi := ?ox60) (v := ?vx60) ?hix60 ?k1x60 ?k2x60 ?k3x60 ?k4x60 ?k5x60 ?k6x60 ?hQx60 ?hYx60 ?hSx60 ?restx60; (case hix60 => (simp only [List.getElem?_toArray, List.getElem?_cons_succ, List.getElem?_cons_zero]; exact rfl)); (case k1x60 => kernel_rfl); (case k2x60 => kernel_rfl); (case k3x60 => kernel_rfl); (case k4x60 => kernel_rfl); (case k5x60 => kernel_rfl); (case k6x60 => kernel_rfl); (case hSx60 => assumption); (case hYx60 => (refine Or.inl ⟨rfl, ?hyx60⟩; intro w hSw; (try dsimp only at hSw); go_simp; (try with_reducible rfl))); (case hQx60 => exact (fun _ _ _ h => h)); (try simp only [Act.put, List.setIfInBounds_toArray, List.set_cons_zero, List.set_cons_succ]))
        refine wpAnyL_ready (rs := [4]) (by kernel_rfl) (by simp) ?_
        refine AllReadyL.cons (o := ?o4x61) ?hi4x61 (fun K hK => ?_) AllReadyL.nil
        (case hi4x61 => (simp only [List.getElem?_toArray, List.getElem?_cons_succ, List.getElem?_cons_zero]; exact rfl))
        go_simp
        go_at_call 26
        refine (rto_c _ _ _).mono ?_
        rintro e w1 ⟨rfl, hb9⟩
        have t0 := HX.out.below hb9 HX.out.lt; have t1 := HT.out.below hb9
        clear HX HT
        have HX := Lib.hid t0; have HT := Lib.hid t1
        clear t0 t1
        clear hb9 
        (try go_wp2_with fail)
        (try clear hHeld)
        refine hK.out _ _ (by (try dsimp only); exact ⟨by simpa using HX.out.cell 0, by simpa using HX.out.cell 1, by simpa using HX.out.cell 2, by simpa using HX.out.cell 3, by simpa using HX.out.cell 4, by simpa using HX.out.cell 5, by simpa using HX.out.cell 6, by simpa using HT.out.tb.cell 0⟩) (fun hHeld => ?_)
        clear hK K
        (try simp only [Act.put, List.setIfInBounds_toArray, List.set_cons_zero, List.set_cons_succ])
        (refine wpAnyL_take (n := 1) (i := 15) (oi := ?ox62) (v := ?vx62) ?hix62 ?k1x62 ?k2x62 ?k3x62 ?k4x62 ?k5x62 ?k6x62 ?hQx62 ?hYx62 ?hSx62 ?restx62; (case hix62 => (simp only [List.getElem?_toArray, List.getElem?_cons_succ, List.getElem?_cons_zero]; exact rfl)); (case k1x62 => kernel_rfl); (case k2x62 => kernel_rfl); (case k3x62 => kernel_rfl); (case k4x62 => kernel_rfl); (case k5x62 => kernel_rfl); (case k6x62 => kernel_rfl); (case hSx62 => assumption); (case hYx62 => (refine Or.inl ⟨rfl, ?hyx62⟩; intro w hSw; (try dsimp only at hSw); go_simp; (try with_reducible rfl))); (case hQx62 => exact (fun _ _ _ h => h)); (try simp only [Act.put, List.setIfInBounds_toArray, List.set_cons_zero, List.set_cons_succ]))
        refine wpAnyL_ready (rs := [16]) (by kernel_rfl) (by simp) ?_
        refine AllReadyL.cons (o := ?o16x63) ?hi16x63 (fun K hK => ?_) AllReadyL.nil
        (case hi16x63 => (simp only [List.getElem?_toArray, List.getElem?_cons_succ, List.getElem?_cons_zero]; exact rfl))
        go_simp
        have hb9 := (Below.refl w1.heap.size w1).alloc (Nat.le_refl _) (.cells #[.int .i64 x.lo, .int .i64 x.hi, .int .i64 x.cap, .int .i64 x.keep, .int .i64 x.pass, .int .i64 x.to, .int .i64 x.pump] 90)
        have hn := Blk.new w1 90 #[.int .i64 x.lo, .int .i64 x.hi, .int .i64 x.cap, .int .i64 x.keep, .int .i64 x.pass, .int .i64 x.to, .int .i64 x.pump]
        have t0 := HX.out.below hb9 HX.out.lt; have t1 := HT.out.below hb9
        clear HX HT
        have HX := Lib.hid t0; have HT := Lib.hid t1
        clear t0 t1
        have HA := Lib.hid hn
        clear hb9 hn
        (try clear hHeld)
        refine hK.out _ _ (by (try dsimp only); exact ⟨by simpa using HX.out.cell 0, by simpa using HX.out.cell 1, by simpa using HX.out.cell 2, by simpa using HX.out.cell 3, by simpa using HX.out.cell 4, by simpa using HX.out.cell 5, by simpa using HX.out.cell 6, by simpa using HT.out.tb.cell 0⟩) (fun hHeld => ?_)
        clear hK K
        (try simp only [Act.put, List.setIfInBounds_toArray, List.set_cons_zero, List.set_cons_succ])
        revert hHeld HX HT HA
        generalize hgA : w1.heap.size = gA
        generalize (World.alloc w1 (.cells #[.int .i64 x.lo, .int .i64 x.hi, .int .i64 x.cap, .int .i64 x.keep, .int .i64 x.pass, .int .i64 x.to, .int .i64 x.pump] 90)) = w0
        intro HX HT HA hHeld
        clear hgA
        refine wpAnyL_ready (rs := [17]) (by kernel_rfl) (by simp) ?_
        refine AllReadyL.last (o := ?o17x64) ?hi17x64 ?he17x64 (fun K hK => ?_) AllReadyL.nil
        (case hi17x64 => (simp only [List.getElem?_toArray, List.getElem?_cons_succ, List.getElem?_cons_zero]; exact rfl))
        (case he17x64 => kernel_rfl)
        refine step_append_rd rfl _ _ 43 rfl w.heap.size 90 i0 _ 7 56 Tryz.underlying43 HI0.out HZ0.out HZ1.out HZ2.out (by simp [go_sem]) (by decide) _ k ((C.take k).flatMap encCel) rfl HT.out.own encCel_len oneCelT (some ⟨gA, 0, none⟩) 1 1 [x] rfl (Rd.of_blkE (k := 7) encCel_len HA.out (l := [x]) rfl rfl) (by unfold maxLen; omega) (by omega) HT.out.bel.size ?_
        intro v' w3 hown3 hgrow
        obtain ⟨A3, c3, rfl, hc3⟩ := own_form hown3
        rw [← flat_take HGX.out] at hown3
        have ht9 := HT.out.grow hown3 hgrow
        clear HT HA HX
        have HT := Lib.hid ht9
        clear ht9 hown3 hgrow
        (try clear hHeld)
        refine hK.out _ _ ?_
        clear hK K
        (try simp only [Act.put, List.setIfInBounds_toArray, List.set_cons_zero, List.set_cons_succ])
        (refine wpAnyL_free (i := 18) (oi := ?ox65) (v := ?vx65) ?hix65 ?k1x65 ?k2x65 ?k3x65 ?k4x65 ?k5x65 ?hQx65 ?hYx65 ?restx65; (case hix65 => (simp only [List.getElem?_toArray, List.getElem?_cons_succ, List.getElem?_cons_zero]; exact rfl)); (case k1x65 => kernel_rfl); (case k2x65 => kernel_rfl); (case k3x65 => kernel_rfl); (case k4x65 => kernel_rfl); (case k5x65 => kernel_rfl); (case hYx65 => (refine Or.inl ⟨rfl, ?hyx65⟩; intro w hSw; (try dsimp only at hSw); go_simp; (try with_reducible rfl))); (case hQx65 => exact (fun _ _ _ h => h)); (try simp only [Act.put, List.setIfInBounds_toArray, List.set_cons_zero, List.set_cons_succ]))
        refine wpAnyL_ready (rs := [19]) (by kernel_rfl) (by simp) ?_
        refine AllReadyL.last (o := ?o19x66) ?hi19x66 ?he19x66 (fun K hK => ?_) AllReadyL.nil
        (case hi19x66 => (simp only [List.getElem?_toArray, List.getElem?_cons_succ, List.getElem?_cons_zero]; exact rfl))
        (case he19x66 => kernel_rfl)
        have s0 := HT.out.tb.cell 0; have f0 := HT.out.tb.frozen 0
        (try simp at s0)
        go_simp
        (try clear hHeld)
        refine hK.out _ _ ?_
        clear hK K
        (try simp only [Act.put, List.setIfInBounds_toArray, List.set_cons_zero, List.set_cons_succ])
        (refine wpAnyL_done (by kernel_rfl) ?_ _)
        have ht9 := HT.out.store (.slice A3 (k + 1) c3)
        clear s0 f0
        go_wp2_with fail
        go_roundw
        case rel => exact ⟨k + 1, _, by omega, by go_num, ht9⟩
        case measure => simp [intOf] <;> omega
      · obtain rfl : k = n := by omega
        rw [List.take_of_length_le (by rw [HLEN.out]; exact Nat.le_refl _)] at hgi
        obtain ⟨A', c', rfl, _⟩ := own_form hgi.own
        have t0 := hgi.tb.cell 0; have t1 := hgi.tb.cell 1; have t2 := hgi.tb.cell 2; have t3 := hgi.tb.cell 3; have t4 := hgi.tb.cell 4; have t5 := hgi.tb.cell 5
        have r0 := hgi.rs.cell 0; have r1 := hgi.rs.cell 1; have r2 := hgi.rs.cell 2; have r3 := hgi.rs.cell 3; have r4 := hgi.rs.cell 4; have r5 := hgi.rs.cell 5
        have f0 := hgi.rs.frozen 0; have f1 := hgi.rs.frozen 1; have f2 := hgi.rs.frozen 2; have f3 := hgi.rs.frozen 3; have f4 := hgi.rs.frozen 4; have f5 := hgi.rs.frozen 5
        simp at t0 t1 t2 t3 t4 t5 r0 r1 r2 r3 r4 r5
        have HT := Lib.hid hgi
        clear hgi
        go_wp2_with fail
        have kb := (((((HT.out.rs.set_ 0 (.slice A' k c')).set_ 1 (.int .i64 sn0)).set_ 2 (.int .i64 sn1)).set_ 3 (.int .i64 so0)).set_ 4 (.int .i64 so1)).set_ 5 (.int .i64 melt)
        have hf : Fr (fun g => g = w.heap.size + 1) wr ((((((wr.setCell ⟨w.heap.size + 1, 0, none⟩ (.slice A' k c')).setCell ⟨w.heap.size + 1, 1, none⟩ (.int .i64 sn0)).setCell ⟨w.heap.size + 1, 2, none⟩ (.int .i64 sn1)).setCell ⟨w.heap.size + 1, 3, none⟩ (.int .i64 so0)).setCell ⟨w.heap.size + 1, 4, none⟩ (.int .i64 so1)).setCell ⟨w.heap.size + 1, 5, none⟩ (.int .i64 melt)) := Fr.setAt (Fr.setAt (Fr.setAt (Fr.setAt (Fr.setAt (Fr.setAt (E := fun g => g = w.heap.size + 1) (Fr.refl _ _) (p := ⟨w.heap.size + 1, 0, none⟩) (.inl rfl) _) (p := ⟨w.heap.size + 1, 1, none⟩) (.inl rfl) _) (p := ⟨w.heap.size + 1, 2, none⟩) (.inl rfl) _) (p := ⟨w.heap.size + 1, 3, none⟩) (.inl rfl) _) (p := ⟨w.heap.size + 1, 4, none⟩) (.inl rfl) _) (p := ⟨w.heap.size + 1, 5, none⟩) (.inl rfl) _
        have p1 := hf.row HT.out.own (fun g hg e => by subst e; exact own_blk_ne HT.out.own HT.out.rs (by decide) hg)
        have q0 := kb.cell 0; have q1 := kb.cell 1; have q2 := kb.cell 2; have q3 := kb.cell 3; have q4 := kb.cell 4; have q5 := kb.cell 5
        simp at q0 q1 q2 q3 q4 q5
        refine bodyPost_ret (v := .agg #[.slice A' k c', .int .i64 sn0, .int .i64 sn1, .int .i64 so0, .int .i64 so1, .int .i64 melt]) ?_ rfl ⟨A', c', rfl, Rd.of_own encCel_len p1 HLEN.out, HT.out.bel.trans (hf.below HT.out.bel.size (fun g e => by subst e; omega))⟩
        simp [results, Tryz.f10, go_sem, q0, q1, q2, q3, q4, q5]
end Go.Proofs.YtjpobkmlcjbpiaaGreat
