/- CONTRACT of (*water.way).pass. -/
import Derived.Test.YtjpobkmlcjbpiaaGreatYPassLaw
import Derived.Test.YtjpobkmlcjbpiaaGreatYFall
import Derived.BigQuiet
set_option linter.unusedVariables false
set_option linter.unusedSimpArgs false
namespace Go.Proofs.YtjpobkmlcjbpiaaGreat
open Go.RowKit Go.Proofs
attribute [local go_sem ↓] Go.wp_at_zero Go.wp_at_succ

/-- what holds of the way and of the local row behind k cells -/
structure PassI (w : World) (W0 B5 : Nat) (CS DS LV RN : Slc) (sn0 sn1 so0 so1 melt tsn tso snow : Int) (lv : Nat → Int) (left : Int) (now : Nat → Int) (W : World) : Prop where
  way : Blk W W0 87 (wayC CS sn0 sn1 so0 so1 melt DS tsn tso LV RN lv snow left)
  row : Blk W B5 85 (arr8 now)
  fr : Fr (fun g => g = W0) w W
theorem PassI.below {w : World} {W0 B5 : Nat} {CS DS LV RN : Slc} {sn0 sn1 so0 so1 melt tsn tso snow : Int} {lv : Nat → Int} {left : Int} {now : Nat → Int} {W W' : World}
    (h : PassI w W0 B5 CS DS LV RN sn0 sn1 so0 so1 melt tsn tso snow lv left now W) (hb : Below W.heap.size W W') : PassI w W0 B5 CS DS LV RN sn0 sn1 so0 so1 melt tsn tso snow lv left now W' :=
  ⟨h.way.below hb h.way.lt, h.row.below hb h.row.lt, h.fr.trans (Fr.of_below hb _)⟩

section
variable {w : World} {W0 B5 : Nat} {CS DS LV RN : Slc} {sn0 sn1 so0 so1 melt tsn tso snow : Int} {lv : Nat → Int} {left : Int} {now : Nat → Int} {W : World}
theorem PassI.setRow (h : PassI w W0 B5 CS DS LV RN sn0 sn1 so0 so1 melt tsn tso snow lv left now W) {k : Nat} (hk : k < 8) (hB : w.heap.size ≤ B5) (hW : W0 < w.heap.size) (v : Int) :
    PassI w W0 B5 CS DS LV RN sn0 sn1 so0 so1 melt tsn tso snow lv left (fun j => if j = k then v else now j) (W.setCell ⟨B5, k, none⟩ (.int .i64 v)) :=
  ⟨h.way.far (by dsimp only; omega) _, by have := h.row.set_ k (.int .i64 v); rwa [arr8_set hk] at this, Fr.setAt h.fr (.inr hB) _⟩
theorem PassI.setLeft (h : PassI w W0 B5 CS DS LV RN sn0 sn1 so0 so1 melt tsn tso snow lv left now W) (hB : w.heap.size ≤ B5) (hW : W0 < w.heap.size) (v : Int) :
    PassI w W0 B5 CS DS LV RN sn0 sn1 so0 so1 melt tsn tso snow lv v now (W.setCell ⟨W0, 20, none⟩ (.int .i64 v)) :=
  ⟨by have := h.way.set_ 20 (.int .i64 v); rwa [wayC_left] at this, h.row.far (by dsimp only; omega) _, Fr.setAt h.fr (.inl rfl) _⟩
theorem PassI.setLv (h : PassI w W0 B5 CS DS LV RN sn0 sn1 so0 so1 melt tsn tso snow lv left now W) {k : Nat} (hk : k < 8) (hB : w.heap.size ≤ B5) (hW : W0 < w.heap.size) (v : Int) :
    PassI w W0 B5 CS DS LV RN sn0 sn1 so0 so1 melt tsn tso snow (fun j => if j = k then v else lv j) left now (W.setCell ⟨W0, 11 + k, none⟩ (.int .i64 v)) :=
  ⟨by have := h.way.set_ (11 + k) (.int .i64 v); rwa [wayC_set hk] at this, h.row.far (by dsimp only; omega) _, Fr.setAt h.fr (.inl rfl) _⟩
theorem PassI.way_cell (h : PassI w W0 B5 CS DS LV RN sn0 sn1 so0 so1 melt tsn tso snow lv left now W) : W.cell? ⟨W0, 20, none⟩ = some (.int .i64 left) := by
  have := h.way.cell 20; simpa [wayC] using this
end
set_option linter.unusedSimpArgs false in
set_option maxRecDepth 100000 in
set_option maxHeartbeats 4000000 in
theorem pass_c {CS DS LV RN : Slc} {sn0 sn1 so0 so1 melt tsn tso snow left down : Int} {L : List Int} {C : List Cel} {W0 : Nat} {w : World}
    (h : Blk w W0 87 (wayC CS sn0 sn1 so0 so1 melt DS tsn tso LV RN (lvA L) snow left)) (hC : Rd encCel 7 w CS.A CS.n C) (hne : ∀ ad, CS.A = some ad → ad.block ≠ W0)
    (hok : ∀ c ∈ C, celOk CS.n c) (hn : 1 ≤ CS.n ∧ CS.n ≤ 8) (hL : LvB L) (hl : L.length = CS.n) (hd : 0 ≤ down ∧ down ≤ 1000000) (ht : 0 ≤ tso ∧ tso ≤ 1000) :
    Calls Tryz.prog 58 #[.pointer (some ⟨W0, 0, none⟩), .int .i64 down] w fun e w' => (∃ v, e = .returned v) ∧
      Blk w' W0 87 (wayC CS sn0 sn1 so0 so1 melt DS tsn tso LV RN (lvA (passW C L (down * tso / 1000))) snow (leftW C L down (down * tso / 1000) C.length + overW C L (down * tso / 1000) C.length)) ∧ Fr (fun g => g = W0) w w' := by
  have hlen := hC.len
  obtain ⟨CA, cn, cc⟩ := CS
  dsimp only at hC hne hok hn hl hlen
  obtain ⟨cb, co, rfl, hcb, _⟩ := hC.2 (by omega)
  have hpd : 0 ≤ down * tso ∧ down * tso ≤ 1000000000 := ⟨Int.mul_nonneg hd.1 ht.1, Int.le_trans (Int.mul_le_mul hd.2 ht.2 ht.1 (by omega)) (by decide)⟩
  have hsd : 0 ≤ down * tso / 1000 ∧ down * tso / 1000 ≤ down := by
    have : down * tso ≤ down * 1000 := Int.mul_le_mul_of_nonneg_left ht.2 hd.1
    omega
  generalize hM : down * tso = M at hpd hsd
  have hdv : M.tdiv 1000 = M / 1000 := Int.tdiv_eq_ediv_of_nonneg hpd.1
  obtain ⟨s, hs⟩ : ∃ s, s = M / 1000 := ⟨_, rfl⟩
  rw [← hs] at hsd hdv ⊢
  have HS := Lib.hid hs
  clear hs
  have hW : W0 < w.heap.size := h.lt
  have c8 := h.cell 8; have c20 := h.cell 20; have c0 := h.cell 0
  have z20 := h.frozen 20
  simp [wayC, Slc.v] at c8 c20 c0
  have hw1 := h.set_ 20 (.int .i64 0)
  rw [wayC_left] at hw1
  have hf1 := Fr.setAt (E := fun g => g = W0) (Fr.refl _ w) (p := ⟨W0, 20, none⟩) (.inl rfl) (.int .i64 0)
  have HI := Lib.hid (show PassI w W0 w.heap.size ⟨some ⟨cb, co, none⟩, cn, cc⟩ DS LV RN sn0 sn1 so0 so1 melt tsn tso snow (lvA L) (leftW C L down s 0) (fun _ => 0) ((w.setCell ⟨W0, 20, none⟩ (.int .i64 0)).alloc (.cells (arr8 fun _ => 0) 85)) from
    ⟨hw1.alloc _, by simpa [World.setCell] using Blk.new (w.setCell ⟨W0, 20, none⟩ (.int .i64 0)) 85 (arr8 fun _ => 0), hf1.trans (Fr.of_below ((Below.refl _ _).alloc (Nat.le_refl _) _) _)⟩)
  have HC := Lib.hid hC; have HNE := Lib.hid hne; have HOK := Lib.hid hok; have HL := Lib.hid hL
  clear hw1 hf1 h hC hne hok hL
  go_enter Tryz.func58, Tryz.ntmps58
  go_wp2_with fail
  go_loopw [6, 7, 8, 9, 10, 30] (fun _ _ _ _ _ i wr => ∃ k : Nat, k ≤ cn ∧ i = .int .i64 (k : Int) ∧ PassI w W0 w.heap.size ⟨some ⟨cb, co, none⟩, cn, cc⟩ DS LV RN sn0 sn1 so0 so1 melt tsn tso snow (lvA L) (leftW C L down s k) (nowW C L s k) wr) (fun _ _ _ _ _ i _ => cn - (intOf i).toNat)
  case atStart => exact ⟨0, Nat.zero_le _, rfl, (show nowW C L s 0 = fun _ => 0 from rfl) ▸ HI.out⟩
  case round =>
    obtain ⟨k, hk, rfl, hi⟩ := hrel
    clear HI
    by_cases hlt : k < cn
    · obtain ⟨b, o, x, hA, hbl, hx, y0, y1, y2, y3, y4, y5, y6⟩ := (hi.fr.rd HC.out (fun ad e => HNE.out ad e)).atCel hlt
      cases hA
      have hce := celA_at hx
      have hck := HOK.out x (List.mem_of_getElem? hx)
      have hk8 : k < 8 := by omega
      have hki : (k : Int) < 8 := by omega
      have HX := on_x hck (HL.out k)
      have HCE := Lib.hid hce
      clear hx hce
      have hi2 := hi.below ((Below.refl wr.heap.size wr).alloc (Nat.le_refl _) (.cells #[.int .i64 x.lo, .int .i64 x.hi, .int .i64 x.cap, .int .i64 x.keep, .int .i64 x.pass, .int .i64 x.to, .int .i64 x.pump] 90))
      have hb7 := Blk.new wr 90 #[.int .i64 x.lo, .int .i64 x.hi, .int .i64 x.cap, .int .i64 x.keep, .int .i64 x.pass, .int .i64 x.to, .int .i64 x.pump]
      have HI := Lib.hid hi2; have H7 := Lib.hid hb7
      have HB7 := Lib.hid (show w.heap.size < wr.heap.size from hi.row.lt)
      clear hi2 hb7 hi
      go_upto_region 6 with fail
      revert HI H7
      generalize (World.alloc wr (.cells #[.int .i64 x.lo, .int .i64 x.hi, .int .i64 x.cap, .int .i64 x.keep, .int .i64 x.pass, .int .i64 x.to, .int .i64 x.pump] 90)) = w6
      intro HI H7
      go_cut [8] (fun v wx => v = .int .i64 (takenW x (lvA L k)) ∧ Below w6.heap.size w6 wx)
      case first =>
        have q1 := HI.out.way.cell (11 + k); rw [wayC_lv hk8] at q1
        have q2 := H7.out.cell 6
        simp at q2
        rcases Int.lt_or_le x.pump (lvA L k) with hc | hc
        · have hm : takenW x (lvA L k) = x.pump := by unfold takenW; omega
          refine wp_region_till [] (fun U => U.cell? ⟨W0, 11 + k, none⟩ = some (.int .i64 (lvA L k)) ∧ U.cell? ⟨wr.heap.size, 6, none⟩ = some (.int .i64 x.pump)) (by kernel_rfl) (by exact ⟨q1, q2⟩) (fun hHeld => ?_)
          skip
          (refine wpAnyL_take (n := 0) (i := 0) (oi := ?ox1) (v := ?vx1) ?hix1 ?k1x1 ?k2x1 ?k3x1 ?k4x1 ?k5x1 ?k6x1 ?hQx1 ?hYx1 ?hSx1 ?restx1; (case hix1 => (simp only [List.getElem?_toArray, List.getElem?_cons_succ, List.getElem?_cons_zero]; exact rfl)); (case k1x1 => kernel_rfl); (case k2x1 => kernel_rfl); (case k3x1 => kernel_rfl); (case k4x1 => kernel_rfl); (case k5x1 => kernel_rfl); (case k6x1 => kernel_rfl); (case hSx1 => assumption); (case hYx1 => (refine Or.inl ⟨rfl, ?hyx1⟩; intro w hSw; (try dsimp only at hSw); go_simp; (try with_reducible rfl))); (case hQx1 => exact (fun _ _ _ h => h)); (try simp only [Act.put, List.setIfInBounds_toArray, List.set_cons_zero, List.set_cons_succ]))
          (refine wpAnyL_take (n := 0) (i := 1) (oi := ?ox2) (v := ?vx2) ?hix2 ?k1x2 ?k2x2 ?k3x2 ?k4x2 ?k5x2 ?k6x2 ?hQx2 ?hYx2 ?hSx2 ?restx2; (case hix2 => (simp only [List.getElem?_toArray, List.getElem?_cons_succ, List.getElem?_cons_zero]; exact rfl)); (case k1x2 => kernel_rfl); (case k2x2 => kernel_rfl); (case k3x2 => kernel_rfl); (case k4x2 => kernel_rfl); (case k5x2 => kernel_rfl); (case k6x2 => kernel_rfl); (case hSx2 => assumption); (case hYx2 => (refine Or.inl ⟨rfl, ?hyx2⟩; intro w hSw; (try dsimp only at hSw); go_simp; (try with_reducible rfl))); (case hQx2 => exact (fun _ _ _ h => h)); (try simp only [Act.put, List.setIfInBounds_toArray, List.set_cons_zero, List.set_cons_succ]))
          (refine wpAnyL_take (n := 0) (i := 2) (oi := ?ox3) (v := ?vx3) ?hix3 ?k1x3 ?k2x3 ?k3x3 ?k4x3 ?k5x3 ?k6x3 ?hQx3 ?hYx3 ?hSx3 ?restx3; (case hix3 => (simp only [List.getElem?_toArray, List.getElem?_cons_succ, List.getElem?_cons_zero]; exact rfl)); (case k1x3 => kernel_rfl); (case k2x3 => kernel_rfl); (case k3x3 => kernel_rfl); (case k4x3 => kernel_rfl); (case k5x3 => kernel_rfl); (case k6x3 => kernel_rfl); (case hSx3 => assumption); (case hYx3 => (refine Or.inl ⟨rfl, ?hyx3⟩; intro w hSw; (try dsimp only at hSw); go_simp; (try with_reducible rfl))); (case hQx3 => exact (fun _ _ _ h => h)); (try simp only [Act.put, List.setIfInBounds_toArray, List.set_cons_zero, List.set_cons_succ]))
          (refine wpAnyL_take (n := 0) (i := 3) (oi := ?ox4) (v := ?vx4) ?hix4 ?k1x4 ?k2x4 ?k3x4 ?k4x4 ?k5x4 ?k6x4 ?hQx4 ?hYx4 ?hSx4 ?restx4; (case hix4 => (simp only [List.getElem?_toArray, List.getElem?_cons_succ, List.getElem?_cons_zero]; exact rfl)); (case k1x4 => kernel_rfl); (case k2x4 => kernel_rfl); (case k3x4 => kernel_rfl); (case k4x4 => kernel_rfl); (case k5x4 => kernel_rfl); (case k6x4 => kernel_rfl); (case hSx4 => assumption); (case hYx4 => (refine Or.inl ⟨rfl, ?hyx4⟩; intro w hSw; (try dsimp only at hSw); go_simp; (try with_reducible rfl))); (case hQx4 => exact (fun _ _ _ h => h)); (try simp only [Act.put, List.setIfInBounds_toArray, List.set_cons_zero, List.set_cons_succ]))
          (refine wpAnyL_take (n := 0) (i := 4) (oi := ?ox5) (v := ?vx5) ?hix5 ?k1x5 ?k2x5 ?k3x5 ?k4x5 ?k5x5 ?k6x5 ?hQx5 ?hYx5 ?hSx5 ?restx5; (case hix5 => (simp only [List.getElem?_toArray, List.getElem?_cons_succ, List.getElem?_cons_zero]; exact rfl)); (case k1x5 => kernel_rfl); (case k2x5 => kernel_rfl); (case k3x5 => kernel_rfl); (case k4x5 => kernel_rfl); (case k5x5 => kernel_rfl); (case k6x5 => kernel_rfl); (case hSx5 => assumption); (case hYx5 => (refine Or.inl ⟨rfl, ?hyx5⟩; intro w hSw; (try dsimp only at hSw); go_simp; (try with_reducible rfl))); (case hQx5 => exact (fun _ _ _ h => h)); (try simp only [Act.put, List.setIfInBounds_toArray, List.set_cons_zero, List.set_cons_succ]))
          (refine wpAnyL_take (n := 0) (i := 5) (oi := ?ox6) (v := ?vx6) ?hix6 ?k1x6 ?k2x6 ?k3x6 ?k4x6 ?k5x6 ?k6x6 ?hQx6 ?hYx6 ?hSx6 ?restx6; (case hix6 => (simp only [List.getElem?_toArray, List.getElem?_cons_succ, List.getElem?_cons_zero]; exact rfl)); (case k1x6 => kernel_rfl); (case k2x6 => kernel_rfl); (case k3x6 => kernel_rfl); (case k4x6 => kernel_rfl); (case k5x6 => kernel_rfl); (case k6x6 => kernel_rfl); (case hSx6 => assumption); (case hYx6 => (refine Or.inl ⟨rfl, ?hyx6⟩; intro w hSw; (try dsimp only at hSw); go_simp; (try with_reducible rfl))); (case hQx6 => exact (fun _ _ _ h => h)); (try simp only [Act.put, List.setIfInBounds_toArray, List.set_cons_zero, List.set_cons_succ]))
          (refine wpAnyL_take (n := 0) (i := 6) (oi := ?ox7) (v := ?vx7) ?hix7 ?k1x7 ?k2x7 ?k3x7 ?k4x7 ?k5x7 ?k6x7 ?hQx7 ?hYx7 ?hSx7 ?restx7; (case hix7 => (simp only [List.getElem?_toArray, List.getElem?_cons_succ, List.getElem?_cons_zero]; exact rfl)); (case k1x7 => kernel_rfl); (case k2x7 => kernel_rfl); (case k3x7 => kernel_rfl); (case k4x7 => kernel_rfl); (case k5x7 => kernel_rfl); (case k6x7 => kernel_rfl); (case hSx7 => assumption); (case hYx7 => (refine Or.inl ⟨rfl, ?hyx7⟩; intro w hSw; (try dsimp only at hSw); go_simp; (try with_reducible rfl))); (case hQx7 => exact (fun _ _ _ h => h)); (try simp only [Act.put, List.setIfInBounds_toArray, List.set_cons_zero, List.set_cons_succ]))
          (refine wpAnyL_take (n := 0) (i := 7) (oi := ?ox8) (v := ?vx8) ?hix8 ?k1x8 ?k2x8 ?k3x8 ?k4x8 ?k5x8 ?k6x8 ?hQx8 ?hYx8 ?hSx8 ?restx8; (case hix8 => (simp only [List.getElem?_toArray, List.getElem?_cons_succ, List.getElem?_cons_zero]; exact rfl)); (case k1x8 => kernel_rfl); (case k2x8 => kernel_rfl); (case k3x8 => kernel_rfl); (case k4x8 => kernel_rfl); (case k5x8 => kernel_rfl); (case k6x8 => kernel_rfl); (case hSx8 => assumption); (case hYx8 => (refine Or.inl ⟨rfl, ?hyx8⟩; intro w hSw; (try dsimp only at hSw); go_simp; (try with_reducible rfl))); (case hQx8 => exact (fun _ _ _ h => h)); (try simp only [Act.put, List.setIfInBounds_toArray, List.set_cons_zero, List.set_cons_succ]))
          (refine wpAnyL_take (n := 0) (i := 8) (oi := ?ox9) (v := ?vx9) ?hix9 ?k1x9 ?k2x9 ?k3x9 ?k4x9 ?k5x9 ?k6x9 ?hQx9 ?hYx9 ?hSx9 ?restx9; (case hix9 => (simp only [List.getElem?_toArray, List.getElem?_cons_succ, List.getElem?_cons_zero]; exact rfl)); (case k1x9 => kernel_rfl); (case k2x9 => kernel_rfl); (case k3x9 => kernel_rfl); (case k4x9 => kernel_rfl); (case k5x9 => kernel_rfl); (case k6x9 => kernel_rfl); (case hSx9 => assumption); (case hYx9 => (refine Or.inl ⟨rfl, ?hyx9⟩; intro w hSw; (try dsimp only at hSw); go_simp; (try with_reducible rfl))); (case hQx9 => exact (fun _ _ _ h => h)); (try simp only [Act.put, List.setIfInBounds_toArray, List.set_cons_zero, List.set_cons_succ]))
          (refine wpAnyL_take (n := 0) (i := 9) (oi := ?ox10) (v := ?vx10) ?hix10 ?k1x10 ?k2x10 ?k3x10 ?k4x10 ?k5x10 ?k6x10 ?hQx10 ?hYx10 ?hSx10 ?restx10; (case hix10 => (simp only [List.getElem?_toArray, List.getElem?_cons_succ, List.getElem?_cons_zero]; exact rfl)); (case k1x10 => kernel_rfl); (case k2x10 => kernel_rfl); (case k3x10 => kernel_rfl); (case k4x10 => kernel_rfl); (case k5x10 => kernel_rfl); (case k6x10 => kernel_rfl); (case hSx10 => assumption); (case hYx10 => (refine Or.inl ⟨rfl, ?hyx10⟩; intro w hSw; (try dsimp only at hSw); go_simp; (try with_reducible rfl))); (case hQx10 => exact (fun _ _ _ h => h)); (try simp only [Act.put, List.setIfInBounds_toArray, List.set_cons_zero, List.set_cons_succ]))
          (refine wpAnyL_done (by kernel_rfl) ?_ _)
          go_wp2_with fail
          go_meet
          exact ⟨by rw [hm], (Below.refl _ _).drew⟩
        · have hm : takenW x (lvA L k) = lvA L k := by unfold takenW; omega
          refine wp_region_till [] (fun U => U.cell? ⟨W0, 11 + k, none⟩ = some (.int .i64 (lvA L k)) ∧ U.cell? ⟨wr.heap.size, 6, none⟩ = some (.int .i64 x.pump)) (by kernel_rfl) (by exact ⟨q1, q2⟩) (fun hHeld => ?_)
          skip
          (refine wpAnyL_take (n := 0) (i := 0) (oi := ?ox11) (v := ?vx11) ?hix11 ?k1x11 ?k2x11 ?k3x11 ?k4x11 ?k5x11 ?k6x11 ?hQx11 ?hYx11 ?hSx11 ?restx11; (case hix11 => (simp only [List.getElem?_toArray, List.getElem?_cons_succ, List.getElem?_cons_zero]; exact rfl)); (case k1x11 => kernel_rfl); (case k2x11 => kernel_rfl); (case k3x11 => kernel_rfl); (case k4x11 => kernel_rfl); (case k5x11 => kernel_rfl); (case k6x11 => kernel_rfl); (case hSx11 => assumption); (case hYx11 => (refine Or.inl ⟨rfl, ?hyx11⟩; intro w hSw; (try dsimp only at hSw); go_simp; (try with_reducible rfl))); (case hQx11 => exact (fun _ _ _ h => h)); (try simp only [Act.put, List.setIfInBounds_toArray, List.set_cons_zero, List.set_cons_succ]))
          (refine wpAnyL_take (n := 0) (i := 1) (oi := ?ox12) (v := ?vx12) ?hix12 ?k1x12 ?k2x12 ?k3x12 ?k4x12 ?k5x12 ?k6x12 ?hQx12 ?hYx12 ?hSx12 ?restx12; (case hix12 => (simp only [List.getElem?_toArray, List.getElem?_cons_succ, List.getElem?_cons_zero]; exact rfl)); (case k1x12 => kernel_rfl); (case k2x12 => kernel_rfl); (case k3x12 => kernel_rfl); (case k4x12 => kernel_rfl); (case k5x12 => kernel_rfl); (case k6x12 => kernel_rfl); (case hSx12 => assumption); (case hYx12 => (refine Or.inl ⟨rfl, ?hyx12⟩; intro w hSw; (try dsimp only at hSw); go_simp; (try with_reducible rfl))); (case hQx12 => exact (fun _ _ _ h => h)); (try simp only [Act.put, List.setIfInBounds_toArray, List.set_cons_zero, List.set_cons_succ]))
          (refine wpAnyL_take (n := 0) (i := 2) (oi := ?ox13) (v := ?vx13) ?hix13 ?k1x13 ?k2x13 ?k3x13 ?k4x13 ?k5x13 ?k6x13 ?hQx13 ?hYx13 ?hSx13 ?restx13; (case hix13 => (simp only [List.getElem?_toArray, List.getElem?_cons_succ, List.getElem?_cons_zero]; exact rfl)); (case k1x13 => kernel_rfl); (case k2x13 => kernel_rfl); (case k3x13 => kernel_rfl); (case k4x13 => kernel_rfl); (case k5x13 => kernel_rfl); (case k6x13 => kernel_rfl); (case hSx13 => assumption); (case hYx13 => (refine Or.inl ⟨rfl, ?hyx13⟩; intro w hSw; (try dsimp only at hSw); go_simp; (try with_reducible rfl))); (case hQx13 => exact (fun _ _ _ h => h)); (try simp only [Act.put, List.setIfInBounds_toArray, List.set_cons_zero, List.set_cons_succ]))
          (refine wpAnyL_take (n := 0) (i := 3) (oi := ?ox14) (v := ?vx14) ?hix14 ?k1x14 ?k2x14 ?k3x14 ?k4x14 ?k5x14 ?k6x14 ?hQx14 ?hYx14 ?hSx14 ?restx14; (case hix14 => (simp only [List.getElem?_toArray, List.getElem?_cons_succ, List.getElem?_cons_zero]; exact rfl)); (case k1x14 => kernel_rfl); (case k2x14 => kernel_rfl); (case k3x14 => kernel_rfl); (case k4x14 => kernel_rfl); (case k5x14 => kernel_rfl); (case k6x14 => kernel_rfl); (case hSx14 => assumption); (case hYx14 => (refine Or.inl ⟨rfl, ?hyx14⟩; intro w hSw; (try dsimp only at hSw); go_simp; (try with_reducible rfl))); (case hQx14 => exact (fun _ _ _ h => h)); (try simp only [Act.put, List.setIfInBounds_toArray, List.set_cons_zero, List.set_cons_succ]))
          (refine wpAnyL_take (n := 0) (i := 4) (oi := ?ox15) (v := ?vx15) ?hix15 ?k1x15 ?k2x15 ?k3x15 ?k4x15 ?k5x15 ?k6x15 ?hQx15 ?hYx15 ?hSx15 ?restx15; (case hix15 => (simp only [List.getElem?_toArray, List.getElem?_cons_succ, List.getElem?_cons_zero]; exact rfl)); (case k1x15 => kernel_rfl); (case k2x15 => kernel_rfl); (case k3x15 => kernel_rfl); (case k4x15 => kernel_rfl); (case k5x15 => kernel_rfl); (case k6x15 => kernel_rfl); (case hSx15 => assumption); (case hYx15 => (refine Or.inl ⟨rfl, ?hyx15⟩; intro w hSw; (try dsimp only at hSw); go_simp; (try with_reducible rfl))); (case hQx15 => exact (fun _ _ _ h => h)); (try simp only [Act.put, List.setIfInBounds_toArray, List.set_cons_zero, List.set_cons_succ]))
          (refine wpAnyL_take (n := 0) (i := 5) (oi := ?ox16) (v := ?vx16) ?hix16 ?k1x16 ?k2x16 ?k3x16 ?k4x16 ?k5x16 ?k6x16 ?hQx16 ?hYx16 ?hSx16 ?restx16; (case hix16 => (simp only [List.getElem?_toArray, List.getElem?_cons_succ, List.getElem?_cons_zero]; exact rfl)); (case k1x16 => kernel_rfl); (case k2x16 => kernel_rfl); (case k3x16 => kernel_rfl); (case k4x16 => kernel_rfl); (case k5x16 => kernel_rfl); (case k6x16 => kernel_rfl); (case hSx16 => assumption); (case hYx16 => (refine Or.inl ⟨rfl, ?hyx16⟩; intro w hSw; (try dsimp only at hSw); go_simp; (try with_reducible rfl))); (case hQx16 => exact (fun _ _ _ h => h)); (try simp only [Act.put, List.setIfInBounds_toArray, List.set_cons_zero, List.set_cons_succ]))
          (refine wpAnyL_take (n := 0) (i := 6) (oi := ?ox17) (v := ?vx17) ?hix17 ?k1x17 ?k2x17 ?k3x17 ?k4x17 ?k5x17 ?k6x17 ?hQx17 ?hYx17 ?hSx17 ?restx17; (case hix17 => (simp only [List.getElem?_toArray, List.getElem?_cons_succ, List.getElem?_cons_zero]; exact rfl)); (case k1x17 => kernel_rfl); (case k2x17 => kernel_rfl); (case k3x17 => kernel_rfl); (case k4x17 => kernel_rfl); (case k5x17 => kernel_rfl); (case k6x17 => kernel_rfl); (case hSx17 => assumption); (case hYx17 => (refine Or.inl ⟨rfl, ?hyx17⟩; intro w hSw; (try dsimp only at hSw); go_simp; (try with_reducible rfl))); (case hQx17 => exact (fun _ _ _ h => h)); (try simp only [Act.put, List.setIfInBounds_toArray, List.set_cons_zero, List.set_cons_succ]))
          (refine wpAnyL_take (n := 0) (i := 7) (oi := ?ox18) (v := ?vx18) ?hix18 ?k1x18 ?k2x18 ?k3x18 ?k4x18 ?k5x18 ?k6x18 ?hQx18 ?hYx18 ?hSx18 ?restx18; (case hix18 => (simp only [List.getElem?_toArray, List.getElem?_cons_succ, List.getElem?_cons_zero]; exact rfl)); (case k1x18 => kernel_rfl); (case k2x18 => kernel_rfl); (case k3x18 => kernel_rfl); (case k4x18 => kernel_rfl); (case k5x18 => kernel_rfl); (case k6x18 => kernel_rfl); (case hSx18 => assumption); (case hYx18 => (refine Or.inl ⟨rfl, ?hyx18⟩; intro w hSw; (try dsimp only at hSw); go_simp; (try with_reducible rfl))); (case hQx18 => exact (fun _ _ _ h => h)); (try simp only [Act.put, List.setIfInBounds_toArray, List.set_cons_zero, List.set_cons_succ]))
          (refine wpAnyL_take (n := 0) (i := 8) (oi := ?ox19) (v := ?vx19) ?hix19 ?k1x19 ?k2x19 ?k3x19 ?k4x19 ?k5x19 ?k6x19 ?hQx19 ?hYx19 ?hSx19 ?restx19; (case hix19 => (simp only [List.getElem?_toArray, List.getElem?_cons_succ, List.getElem?_cons_zero]; exact rfl)); (case k1x19 => kernel_rfl); (case k2x19 => kernel_rfl); (case k3x19 => kernel_rfl); (case k4x19 => kernel_rfl); (case k5x19 => kernel_rfl); (case k6x19 => kernel_rfl); (case hSx19 => assumption); (case hYx19 => (refine Or.inl ⟨rfl, ?hyx19⟩; intro w hSw; (try dsimp only at hSw); go_simp; (try with_reducible rfl))); (case hQx19 => exact (fun _ _ _ h => h)); (try simp only [Act.put, List.setIfInBounds_toArray, List.set_cons_zero, List.set_cons_succ]))
          (refine wpAnyL_take (n := 0) (i := 9) (oi := ?ox20) (v := ?vx20) ?hix20 ?k1x20 ?k2x20 ?k3x20 ?k4x20 ?k5x20 ?k6x20 ?hQx20 ?hYx20 ?hSx20 ?restx20; (case hix20 => (simp only [List.getElem?_toArray, List.getElem?_cons_succ, List.getElem?_cons_zero]; exact rfl)); (case k1x20 => kernel_rfl); (case k2x20 => kernel_rfl); (case k3x20 => kernel_rfl); (case k4x20 => kernel_rfl); (case k5x20 => kernel_rfl); (case k6x20 => kernel_rfl); (case hSx20 => assumption); (case hYx20 => (refine Or.inl ⟨rfl, ?hyx20⟩; intro w hSw; (try dsimp only at hSw); go_simp; (try with_reducible rfl))); (case hQx20 => exact (fun _ _ _ h => h)); (try simp only [Act.put, List.setIfInBounds_toArray, List.set_cons_zero, List.set_cons_succ]))
          (refine wpAnyL_done (by kernel_rfl) ?_ _)
          go_wp2_with fail
          go_meet
          exact ⟨by rw [hm], (Below.refl _ _).drew⟩
      case rest =>
        obtain ⟨rfl, hb6⟩ := hcut
        have hi7 := HI.out.below hb6
        have h77 := H7.out.below hb6 H7.out.lt
        clear HI H7 hb6
        have HI := Lib.hid hi7; have H7 := Lib.hid h77
        clear hi7 h77
        obtain ⟨HX1, HX2, HX3, HX4⟩ := HX
        have q1 := HI.out.way.cell (11 + k); rw [wayC_lv hk8] at q1
        have q3 := H7.out.cell 3; have q4 := H7.out.cell 4
        simp at q3 q4
        have hst : staysW x (lvA L k) = lvA L k - takenW x (lvA L k) := rfl
        have hon : onW x (lvA L k) = max 0 (staysW x (lvA L k) - x.keep) * x.pass / 1000 := rfl
        obtain ⟨l, hl9⟩ : ∃ l, l = lvA L k := ⟨_, rfl⟩
        rw [← hl9] at HX1 HX2 HX3 HX4 q1 hst hon ⊢
        have hl0 : 0 ≤ l ∧ l ≤ 100000 := by rw [hl9]; exact HL.out k
        obtain ⟨t, ht9⟩ : ∃ t, t = takenW x l := ⟨_, rfl⟩
        obtain ⟨st, hst9⟩ : ∃ st, st = staysW x l := ⟨_, rfl⟩
        obtain ⟨on, hon9⟩ : ∃ on, on = onW x l := ⟨_, rfl⟩
        rw [← ht9] at HX1 hst ⊢
        rw [← hst9] at HX2 HX3 HX4 hst hon
        rw [← hon9] at HX4 hon
        generalize hX : max 0 (st - x.keep) * x.pass = X at HX3 hon
        have hXd : X.tdiv 1000 = X / 1000 := Int.tdiv_eq_ediv_of_nonneg HX3.1
        have hkp := hck.2.2.1
        have hcp := hck.1
        rw [← hon] at hXd
        subst hst
        have hmx : max 0 (l - t - x.keep) = if x.keep < l - t then l - t - x.keep else 0 := by split <;> omega
        rw [hmx] at hX
        clear hmx
        have HL9 := Lib.hid hl9; have HT9 := Lib.hid ht9; have HST9 := Lib.hid hst9; have HON9 := Lib.hid hon9; have HON := Lib.hid hon
        clear hl9 ht9 hst9 hon9 hon
        have HNB := Lib.hid (now_bd HOK.out HL.out ⟨hsd.1, by omega⟩ k k)
        have hnb := HNB.out
        have q5 := HI.out.row.cell k; rw [arr8_get hk8] at q5
        have z5 := HI.out.row.frozen k
        obtain ⟨nk, hnk⟩ : ∃ nk, nk = nowW C L s k k := ⟨_, rfl⟩
        rw [← hnk] at hnb q5
        have HNK := Lib.hid hnk; clear hnk
        have hk2 : (k : Int) * 2000000 ≤ 16000000 := by omega
        have hkl : k < C.length := by omega
        clear c8 c20 c0 z20
        go_upto_region 10 with fail
        clear q1 q3 q4 q5 z5 hX hXd
        generalize (if x.keep < l - t then l - t - x.keep else 0) = mx
        have hi9 := HI.out.setRow hk8 (Nat.le_refl _) hW (nk + (l - t - on + s))
        have h79 := H7.out.far (p := ⟨w.heap.size, k, none⟩) (by have := HB7.out; dsimp only; omega) (.int .i64 (nk + (l - t - on + s)))
        clear HI H7
        have HI := Lib.hid hi9; have H7 := Lib.hid h79
        clear hi9 h79
        revert HI H7
        generalize World.setCell _ _ _ = w9
        intro HI H7
        have c20 := HI.out.way_cell
        have HLB := Lib.hid (left_bd (d := down) HOK.out HL.out ⟨hsd.2, hd.2⟩ hsd.1 k)
        have hlb := HLB.out
        obtain ⟨lf, hlf⟩ : ∃ lf, lf = leftW C L down s k := ⟨_, rfl⟩
        rw [← hlf] at hlb c20
        have HLF := Lib.hid hlf; clear hlf
        have e1 : IntKind.i64.wrap (down - s) = down - s := wi (by omega)
        have e2 : IntKind.i64.wrap (lf + (down - s + t)) = lf + (down - s + t) := wi (by omega)
        go_cut [] (fun wx => PassI w W0 w.heap.size ⟨some ⟨cb, co, none⟩, cn, cc⟩ DS LV RN sn0 sn1 so0 so1 melt tsn tso snow (lvA L) (lf + (down - s + t)) (fun j => if j = k then nk + (l - t - on + s) else nowW C L s k j) wx ∧ Blk wx wr.heap.size 90 #[.int .i64 x.lo, .int .i64 x.hi, .int .i64 x.cap, .int .i64 x.keep, .int .i64 x.pass, .int .i64 x.to, .int .i64 x.pump])
        case first =>
          refine wp_region_till [13] (fun U => U.cell? ⟨W0, 20, none⟩ = some (.int .i64 lf)) (by kernel_rfl) (by exact c20) (fun hHeld => ?_)
          have hb9 := (Below.refl w9.heap.size w9).drew
          have t0 := HI.out.below hb9; have t1 := H7.out.below hb9 H7.out.lt
          clear HI H7
          have HI := Lib.hid t0; have H7 := Lib.hid t1
          clear t0 t1
          clear hb9
          revert hHeld HI H7
          generalize w9.drew = w0
          intro hHeld HI H7
          (refine wpAnyL_take (n := 0) (i := 0) (oi := ?ox21) (v := ?vx21) ?hix21 ?k1x21 ?k2x21 ?k3x21 ?k4x21 ?k5x21 ?k6x21 ?hQx21 ?hYx21 ?hSx21 ?restx21; (case hix21 => (simp only [List.getElem?_toArray, List.getElem?_cons_succ, List.getElem?_cons_zero]; exact rfl)); (case k1x21 => kernel_rfl); (case k2x21 => kernel_rfl); (case k3x21 => kernel_rfl); (case k4x21 => kernel_rfl); (case k5x21 => kernel_rfl); (case k6x21 => kernel_rfl); (case hSx21 => assumption); (case hYx21 => (refine Or.inl ⟨rfl, ?hyx21⟩; intro w hSw; (try dsimp only at hSw); go_simp; (try with_reducible rfl))); (case hQx21 => exact (fun _ _ _ h => h)); (try simp only [Act.put, List.setIfInBounds_toArray, List.set_cons_zero, List.set_cons_succ]))
          (refine wpAnyL_take (n := 0) (i := 1) (oi := ?ox22) (v := ?vx22) ?hix22 ?k1x22 ?k2x22 ?k3x22 ?k4x22 ?k5x22 ?k6x22 ?hQx22 ?hYx22 ?hSx22 ?restx22; (case hix22 => (simp only [List.getElem?_toArray, List.getElem?_cons_succ, List.getElem?_cons_zero]; exact rfl)); (case k1x22 => kernel_rfl); (case k2x22 => kernel_rfl); (case k3x22 => kernel_rfl); (case k4x22 => kernel_rfl); (case k5x22 => kernel_rfl); (case k6x22 => kernel_rfl); (case hSx22 => assumption); (case hYx22 => (refine Or.inl ⟨rfl, ?hyx22⟩; intro w hSw; (try dsimp only at hSw); go_simp; (try with_reducible rfl))); (case hQx22 => exact (fun _ _ _ h => h)); (try simp only [Act.put, List.setIfInBounds_toArray, List.set_cons_zero, List.set_cons_succ]))
          (refine wpAnyL_take (n := 0) (i := 2) (oi := ?ox23) (v := ?vx23) ?hix23 ?k1x23 ?k2x23 ?k3x23 ?k4x23 ?k5x23 ?k6x23 ?hQx23 ?hYx23 ?hSx23 ?restx23; (case hix23 => (simp only [List.getElem?_toArray, List.getElem?_cons_succ, List.getElem?_cons_zero]; exact rfl)); (case k1x23 => kernel_rfl); (case k2x23 => kernel_rfl); (case k3x23 => kernel_rfl); (case k4x23 => kernel_rfl); (case k5x23 => kernel_rfl); (case k6x23 => kernel_rfl); (case hSx23 => assumption); (case hYx23 => (refine Or.inl ⟨rfl, ?hyx23⟩; intro w hSw; (try dsimp only at hSw); go_simp; (try with_reducible rfl))); (case hQx23 => exact (fun _ _ _ h => h)); (try simp only [Act.put, List.setIfInBounds_toArray, List.set_cons_zero, List.set_cons_succ]))
          (refine wpAnyL_take (n := 0) (i := 3) (oi := ?ox24) (v := ?vx24) ?hix24 ?k1x24 ?k2x24 ?k3x24 ?k4x24 ?k5x24 ?k6x24 ?hQx24 ?hYx24 ?hSx24 ?restx24; (case hix24 => (simp only [List.getElem?_toArray, List.getElem?_cons_succ, List.getElem?_cons_zero]; exact rfl)); (case k1x24 => kernel_rfl); (case k2x24 => kernel_rfl); (case k3x24 => kernel_rfl); (case k4x24 => kernel_rfl); (case k5x24 => kernel_rfl); (case k6x24 => kernel_rfl); (case hSx24 => assumption); (case hYx24 => (refine Or.inl ⟨rfl, ?hyx24⟩; intro w hSw; (try dsimp only at hSw); go_simp; (try with_reducible rfl))); (case hQx24 => exact (fun _ _ _ h => h)); (try simp only [Act.put, List.setIfInBounds_toArray, List.set_cons_zero, List.set_cons_succ]))
          (refine wpAnyL_take (n := 0) (i := 4) (oi := ?ox25) (v := ?vx25) ?hix25 ?k1x25 ?k2x25 ?k3x25 ?k4x25 ?k5x25 ?k6x25 ?hQx25 ?hYx25 ?hSx25 ?restx25; (case hix25 => (simp only [List.getElem?_toArray, List.getElem?_cons_succ, List.getElem?_cons_zero]; exact rfl)); (case k1x25 => kernel_rfl); (case k2x25 => kernel_rfl); (case k3x25 => kernel_rfl); (case k4x25 => kernel_rfl); (case k5x25 => kernel_rfl); (case k6x25 => kernel_rfl); (case hSx25 => assumption); (case hYx25 => (refine Or.inl ⟨rfl, ?hyx25⟩; intro w hSw; (try dsimp only at hSw); go_simp; (try with_reducible rfl))); (case hQx25 => exact (fun _ _ _ h => h)); (try simp only [Act.put, List.setIfInBounds_toArray, List.set_cons_zero, List.set_cons_succ]))
          (refine wpAnyL_take (n := 0) (i := 5) (oi := ?ox26) (v := ?vx26) ?hix26 ?k1x26 ?k2x26 ?k3x26 ?k4x26 ?k5x26 ?k6x26 ?hQx26 ?hYx26 ?hSx26 ?restx26; (case hix26 => (simp only [List.getElem?_toArray, List.getElem?_cons_succ, List.getElem?_cons_zero]; exact rfl)); (case k1x26 => kernel_rfl); (case k2x26 => kernel_rfl); (case k3x26 => kernel_rfl); (case k4x26 => kernel_rfl); (case k5x26 => kernel_rfl); (case k6x26 => kernel_rfl); (case hSx26 => assumption); (case hYx26 => (refine Or.inl ⟨rfl, ?hyx26⟩; intro w hSw; (try dsimp only at hSw); go_simp; (try with_reducible rfl))); (case hQx26 => exact (fun _ _ _ h => h)); (try simp only [Act.put, List.setIfInBounds_toArray, List.set_cons_zero, List.set_cons_succ]))
          (refine wpAnyL_take (n := 0) (i := 6) (oi := ?ox27) (v := ?vx27) ?hix27 ?k1x27 ?k2x27 ?k3x27 ?k4x27 ?k5x27 ?k6x27 ?hQx27 ?hYx27 ?hSx27 ?restx27; (case hix27 => (simp only [List.getElem?_toArray, List.getElem?_cons_succ, List.getElem?_cons_zero]; exact rfl)); (case k1x27 => kernel_rfl); (case k2x27 => kernel_rfl); (case k3x27 => kernel_rfl); (case k4x27 => kernel_rfl); (case k5x27 => kernel_rfl); (case k6x27 => kernel_rfl); (case hSx27 => assumption); (case hYx27 => (refine Or.inl ⟨rfl, ?hyx27⟩; intro w hSw; (try dsimp only at hSw); go_simp; (try with_reducible rfl))); (case hQx27 => exact (fun _ _ _ h => h)); (try simp only [Act.put, List.setIfInBounds_toArray, List.set_cons_zero, List.set_cons_succ]))
          (refine wpAnyL_take (n := 0) (i := 7) (oi := ?ox28) (v := ?vx28) ?hix28 ?k1x28 ?k2x28 ?k3x28 ?k4x28 ?k5x28 ?k6x28 ?hQx28 ?hYx28 ?hSx28 ?restx28; (case hix28 => (simp only [List.getElem?_toArray, List.getElem?_cons_succ, List.getElem?_cons_zero]; exact rfl)); (case k1x28 => kernel_rfl); (case k2x28 => kernel_rfl); (case k3x28 => kernel_rfl); (case k4x28 => kernel_rfl); (case k5x28 => kernel_rfl); (case k6x28 => kernel_rfl); (case hSx28 => assumption); (case hYx28 => (refine Or.inl ⟨rfl, ?hyx28⟩; intro w hSw; (try dsimp only at hSw); go_simp; (try with_reducible rfl))); (case hQx28 => exact (fun _ _ _ h => h)); (try simp only [Act.put, List.setIfInBounds_toArray, List.set_cons_zero, List.set_cons_succ]))
          refine wpAnyL_ready (rs := [8]) (by kernel_rfl) (by simp) ?_
          refine AllReadyL.cons (o := ?o8x29) ?hi8x29 (fun K hK => ?_) AllReadyL.nil
          (case hi8x29 => (simp only [List.getElem?_toArray, List.getElem?_cons_succ, List.getElem?_cons_zero]; exact rfl))
          go_simp
          have hb9 := (Below.refl w0.heap.size w0).alloc (Nat.le_refl _) (.cells #[.int .i64 (down - s), .int .i64 t] 3)
          have hrd := Rd.of_blkE (k := 1) enc1_len (Blk.new w0 3 #[.int .i64 (down - s), .int .i64 t]) (l := [down - s, t]) (n := 2) rfl rfl
          have t0 := HI.out.below hb9; have t1 := H7.out.below hb9 H7.out.lt
          clear HI H7
          have HI := Lib.hid t0; have H7 := Lib.hid t1
          clear t0 t1
          have HR := Lib.hid hrd
          clear hb9 hrd
          (try clear hHeld)
          refine hK.out _ _ (by (try dsimp only); exact (by rw [HLF.out]; exact HI.out.way_cell)) (fun hHeld => ?_)
          clear hK K
          (try simp only [Act.put, List.setIfInBounds_toArray, List.set_cons_zero, List.set_cons_succ])
          refine wpAnyL_ready (rs := [9]) (by kernel_rfl) (by simp) ?_
          refine AllReadyL.cons (o := ?o9x30) ?hi9x30 (fun K hK => ?_) AllReadyL.nil
          (case hi9x30 => (simp only [List.getElem?_toArray, List.getElem?_cons_succ, List.getElem?_cons_zero]; exact rfl))
          go_simp
          go_at_call 82
          refine (wsum2_c (c := 2) HR.out (by omega) (by omega)).mono ?_
          rintro e w1 ⟨rfl, hb9⟩
          have t0 := HI.out.below hb9; have t1 := H7.out.below hb9 H7.out.lt; have t2 := HR.out.below hb9
          clear HI H7 HR
          have HI := Lib.hid t0; have H7 := Lib.hid t1; have HR := Lib.hid t2
          clear t0 t1 t2
          clear hb9 
          (try go_wp2_with fail)
          (try clear hHeld)
          refine hK.out _ _ (by (try dsimp only); exact (by rw [HLF.out]; exact HI.out.way_cell)) (fun hHeld => ?_)
          clear hK K
          (try simp only [Act.put, List.setIfInBounds_toArray, List.set_cons_zero, List.set_cons_succ])
          (refine wpAnyL_take (n := 0) (i := 10) (oi := ?ox31) (v := ?vx31) ?hix31 ?k1x31 ?k2x31 ?k3x31 ?k4x31 ?k5x31 ?k6x31 ?hQx31 ?hYx31 ?hSx31 ?restx31; (case hix31 => (simp only [List.getElem?_toArray, List.getElem?_cons_succ, List.getElem?_cons_zero]; exact rfl)); (case k1x31 => kernel_rfl); (case k2x31 => kernel_rfl); (case k3x31 => kernel_rfl); (case k4x31 => kernel_rfl); (case k5x31 => kernel_rfl); (case k6x31 => kernel_rfl); (case hSx31 => assumption); (case hYx31 => (refine Or.inl ⟨rfl, ?hyx31⟩; intro w hSw; (try dsimp only at hSw); go_simp; (try with_reducible rfl))); (case hQx31 => exact (fun _ _ _ h => h)); (try simp only [Act.put, List.setIfInBounds_toArray, List.set_cons_zero, List.set_cons_succ]))
          (refine wpAnyL_take (n := 1) (i := 11) (oi := ?ox32) (v := ?vx32) ?hix32 ?k1x32 ?k2x32 ?k3x32 ?k4x32 ?k5x32 ?k6x32 ?hQx32 ?hYx32 ?hSx32 ?restx32; (case hix32 => (simp only [List.getElem?_toArray, List.getElem?_cons_succ, List.getElem?_cons_zero]; exact rfl)); (case k1x32 => kernel_rfl); (case k2x32 => kernel_rfl); (case k3x32 => kernel_rfl); (case k4x32 => kernel_rfl); (case k5x32 => kernel_rfl); (case k6x32 => kernel_rfl); (case hSx32 => assumption); (case hYx32 => (refine Or.inl ⟨rfl, ?hyx32⟩; intro w hSw; (try dsimp only at hSw); go_simp; (try with_reducible rfl))); (case hQx32 => exact (fun _ _ _ h => h)); (try simp only [Act.put, List.setIfInBounds_toArray, List.set_cons_zero, List.set_cons_succ]))
          (refine wpAnyL_take (n := 0) (i := 12) (oi := ?ox33) (v := ?vx33) ?hix33 ?k1x33 ?k2x33 ?k3x33 ?k4x33 ?k5x33 ?k6x33 ?hQx33 ?hYx33 ?hSx33 ?restx33; (case hix33 => (simp only [List.getElem?_toArray, List.getElem?_cons_succ, List.getElem?_cons_zero]; exact rfl)); (case k1x33 => kernel_rfl); (case k2x33 => kernel_rfl); (case k3x33 => kernel_rfl); (case k4x33 => kernel_rfl); (case k5x33 => kernel_rfl); (case k6x33 => kernel_rfl); (case hSx33 => assumption); (case hYx33 => (refine Or.inl ⟨rfl, ?hyx33⟩; intro w hSw; (try dsimp only at hSw); go_simp; (try with_reducible rfl))); (case hQx33 => exact (fun _ _ _ h => h)); (try simp only [Act.put, List.setIfInBounds_toArray, List.set_cons_zero, List.set_cons_succ]))
          refine wpAnyL_ready (rs := [13]) (by kernel_rfl) (by simp) ?_
          refine AllReadyL.last (o := ?o13x34) ?hi13x34 ?he13x34 (fun K hK => ?_) AllReadyL.nil
          (case hi13x34 => (simp only [List.getElem?_toArray, List.getElem?_cons_succ, List.getElem?_cons_zero]; exact rfl))
          (case he13x34 => kernel_rfl)
          have c20 := HI.out.way_cell
          have z20 := HI.out.way.frozen 20
          go_simp
          (try clear hHeld)
          refine hK.out _ _ ?_
          clear hK K
          (try simp only [Act.put, List.setIfInBounds_toArray, List.set_cons_zero, List.set_cons_succ])
          (refine wpAnyL_done (by kernel_rfl) ?_ _)
          go_wp2_with fail
          go_meet
          exact ⟨HI.out.setLeft (Nat.le_refl _) hW _, H7.out.far (p := ⟨W0, 20, none⟩) (by have := HB7.out; dsimp only; omega) _⟩
        case rest =>
          obtain ⟨hi10, h710⟩ := hcut
          clear HI H7 c20
          have HI := Lib.hid hi10; have H7 := Lib.hid h710
          clear hi10 h710
          have p4 := H7.out.cell 5
          simp at p4
          have hto := hck.2.2.2.2.1
          by_cases hr : x.to = -1
          · have c20 := HI.out.way_cell
            have z20 := HI.out.way.frozen 20
            have HR := Lib.hid hr
            go_wp2_with fail
            have hi11 := HI.out.setLeft (Nat.le_refl _) hW (lf + (down - s + t) + on)
            have e5 := now_river HCE.out HR.out (L := L) (s := s) (v := nk + (l - t - on + s)) (by rw [HNK.out, HON9.out, HT9.out, HL9.out]; rfl)
            have e6 := left_river HCE.out HR.out (L := L) (s := s) (d := down) (v := lf + (down - s + t) + on) (by rw [HLF.out, HON9.out, HT9.out, HL9.out])
            rw [e5, e6] at hi11
            rw [e6]
            go_roundw
            case rel => exact ⟨k + 1, by omega, by go_num, hi11⟩
            case measure => simp [intOf] <;> omega
          · have hto0 : 0 ≤ x.to ∧ x.to < 8 := by omega
            obtain ⟨m, hm⟩ : ∃ m : Nat, x.to = (m : Int) := ⟨x.to.toNat, by omega⟩
            rw [hm] at p4
            have hm8 : m < 8 := by omega
            have hmi : (m : Int) < 8 := by omega
            have hmn : ¬ ((m : Int) = -1) := by omega
            have hmb : ((m : Int) == -1) = false := by rw [beq_eq_false_iff_ne]; omega
            have q5 := HI.out.row.cell m; rw [arr8_get hm8] at q5
            have z5 := HI.out.row.frozen m
            have hnm := now_bd HOK.out HL.out ⟨hsd.1, by omega⟩ k m
            obtain ⟨v, hv⟩ : ∃ v, v = (if m = k then nk + (l - t - on + s) else nowW C L s k m) := ⟨_, rfl⟩
            have hvb : 0 ≤ v ∧ v ≤ 20000000 := by rw [hv]; split <;> omega
            rw [← hv] at q5
            have HV := Lib.hid hv; have HM := Lib.hid hm; have HR := Lib.hid hr
            clear hv hm hr hnm
            go_wp2_with fail
            have hi11 := HI.out.setRow hm8 (Nat.le_refl _) hW (v + on)
            have e5 := now_to HCE.out HM.out (L := L) (s := s) (v := nk + (l - t - on + s)) (u := v + on) (by rw [HNK.out, HON9.out, HT9.out, HL9.out]; rfl) (by rw [HV.out, HON9.out, HL9.out])
            have e6 := left_to HCE.out HR.out (L := L) (s := s) (d := down) (v := lf + (down - s + t)) (by rw [HLF.out, HT9.out, HL9.out])
            rw [e5, e6] at hi11
            go_roundw
            case rel => exact ⟨k + 1, by omega, by go_num, hi11⟩
            case measure => simp [intOf] <;> omega
    · obtain rfl : k = cn := by omega
      have HI := Lib.hid hi
      clear hi hk hlt
      have d0 := HI.out.way.cell 0
      simp [wayC, Slc.v] at d0
      have HCL := Lib.hid hlen
      clear c8 c20 c0 z20 hM hpd hdv
      go_wp2_with fail
      go_loopw [11, 12, 109] (fun _ _ i wr => ∃ i' : Nat, i' ≤ k ∧ i = .int .i64 (i' : Int) ∧ PassI w W0 w.heap.size ⟨some ⟨cb, co, none⟩, k, cc⟩ DS LV RN sn0 sn1 so0 so1 melt tsn tso snow (fun j => if j < i' then lvA (passW C L s) j else lvA L j) (leftW C L down s C.length + overW C L s i') (nowW C L s C.length) wr) (fun _ _ i _ => k - (intOf i).toNat)
      case atStart => exact ⟨0, Nat.zero_le _, rfl, by
        simp only [Nat.not_lt_zero, if_false, overW, Int.add_zero, HCL.out]
        exact HI.out⟩
      case round =>
        obtain ⟨i, hi, rfl, hI⟩ := hrel
        clear HI d0
        by_cases hlt : i < k
        · obtain ⟨b, o, x, hA, hbl, hx, y0, y1, y2, y3, y4, y5, y6⟩ := (hI.fr.rd HC.out (fun ad e => HNE.out ad e)).atCel hlt
          cases hA
          have hce := celA_at hx
          have hck := HOK.out x (List.mem_of_getElem? hx)
          have hk8 : i < 8 := by omega
          have hki : (i : Int) < 8 := by omega
          have HCE := Lib.hid hce
          clear hx hce
          have hi2 := hI.below ((Below.refl wr.heap.size wr).alloc (Nat.le_refl _) (.cells #[.int .i64 x.lo, .int .i64 x.hi, .int .i64 x.cap, .int .i64 x.keep, .int .i64 x.pass, .int .i64 x.to, .int .i64 x.pump] 90))
          have hb7 := Blk.new wr 90 #[.int .i64 x.lo, .int .i64 x.hi, .int .i64 x.cap, .int .i64 x.keep, .int .i64 x.pass, .int .i64 x.to, .int .i64 x.pump]
          have HI := Lib.hid hi2; have H7 := Lib.hid hb7
          have HB7 := Lib.hid (show w.heap.size < wr.heap.size from hI.row.lt)
          clear hi2 hb7 hI
          go_upto_region 18 with fail
          revert HI H7
          generalize (World.alloc wr (.cells #[.int .i64 x.lo, .int .i64 x.hi, .int .i64 x.cap, .int .i64 x.keep, .int .i64 x.pass, .int .i64 x.to, .int .i64 x.pump] 90)) = w6
          intro HI H7
          have c20 := HI.out.way_cell
          have p2 := H7.out.cell 2
          simp at p2
          have q5 := HI.out.row.cell i; rw [arr8_get hk8] at q5
          have hnb := now_bd HOK.out HL.out ⟨hsd.1, by omega⟩ C.length i
          have hlb := left_bd (d := down) HOK.out HL.out ⟨hsd.2, hd.2⟩ hsd.1 C.length
          have hob := over_bd HOK.out HL.out ⟨hsd.1, by omega⟩ (by have := HCL.out; omega) i
          have hcl8 : (C.length : Int) ≤ 8 := by have := HCL.out; omega
          obtain ⟨nk, hnk⟩ : ∃ nk, nk = nowW C L s C.length i := ⟨_, rfl⟩
          obtain ⟨lf, hlf⟩ : ∃ lf, lf = leftW C L down s C.length + overW C L s i := ⟨_, rfl⟩
          have hlfb : 0 ≤ lf ∧ lf ≤ 200000000 := by omega
          rw [← hnk] at hnb q5
          rw [← hlf] at c20
          have HNK := Lib.hid hnk; have HLF := Lib.hid hlf
          have hnb2 : 0 ≤ nk ∧ nk ≤ 16000000 := by omega
          clear hnk hlf hnb hlb hob
          have hcp := hck.1
          have e1 : IntKind.i64.wrap (nk - x.cap) = nk - x.cap := wi (by omega)
          go_cut [] (fun wx => PassI w W0 w.heap.size ⟨some ⟨cb, co, none⟩, k, cc⟩ DS LV RN sn0 sn1 so0 so1 melt tsn tso snow (fun j => if j < i then lvA (passW C L s) j else lvA L j) (lf + max 0 (nk - x.cap)) (nowW C L s C.length) wx ∧ Blk wx wr.heap.size 90 #[.int .i64 x.lo, .int .i64 x.hi, .int .i64 x.cap, .int .i64 x.keep, .int .i64 x.pass, .int .i64 x.to, .int .i64 x.pump])
          case first =>
            rcases Int.lt_or_le x.cap nk with hc | hc
            · have hm : max 0 (nk - x.cap) = nk - x.cap := by omega
              have hpos : 0 < nk - x.cap := by omega
              have e2 : IntKind.i64.wrap (lf + (nk - x.cap)) = lf + (nk - x.cap) := wi (by omega)
              refine wp_region_till [14] (fun U => U.cell? ⟨W0, 20, none⟩ = some (.int .i64 lf) ∧ U.cell? ⟨w.heap.size, i, none⟩ = some (.int .i64 nk) ∧ U.cell? ⟨wr.heap.size, 2, none⟩ = some (.int .i64 x.cap)) (by kernel_rfl) (by exact ⟨c20, q5, p2⟩) (fun hHeld => ?_)
              have hb9 := (Below.refl w6.heap.size w6).drew
              have t0 := HI.out.below hb9; have t1 := H7.out.below hb9 H7.out.lt
              clear HI H7
              have HI := Lib.hid t0; have H7 := Lib.hid t1
              clear t0 t1
              clear hb9
              revert hHeld HI H7
              generalize w6.drew = w0
              intro hHeld HI H7
              (refine wpAnyL_take (n := 0) (i := 0) (oi := ?ox35) (v := ?vx35) ?hix35 ?k1x35 ?k2x35 ?k3x35 ?k4x35 ?k5x35 ?k6x35 ?hQx35 ?hYx35 ?hSx35 ?restx35; (case hix35 => (simp only [List.getElem?_toArray, List.getElem?_cons_succ, List.getElem?_cons_zero]; exact rfl)); (case k1x35 => kernel_rfl); (case k2x35 => kernel_rfl); (case k3x35 => kernel_rfl); (case k4x35 => kernel_rfl); (case k5x35 => kernel_rfl); (case k6x35 => kernel_rfl); (case hSx35 => assumption); (case hYx35 => (refine Or.inl ⟨rfl, ?hyx35⟩; intro w hSw; (try dsimp only at hSw); go_simp; (try with_reducible rfl))); (case hQx35 => exact (fun _ _ _ h => h)); (try simp only [Act.put, List.setIfInBounds_toArray, List.set_cons_zero, List.set_cons_succ]))
              (refine wpAnyL_take (n := 0) (i := 1) (oi := ?ox36) (v := ?vx36) ?hix36 ?k1x36 ?k2x36 ?k3x36 ?k4x36 ?k5x36 ?k6x36 ?hQx36 ?hYx36 ?hSx36 ?restx36; (case hix36 => (simp only [List.getElem?_toArray, List.getElem?_cons_succ, List.getElem?_cons_zero]; exact rfl)); (case k1x36 => kernel_rfl); (case k2x36 => kernel_rfl); (case k3x36 => kernel_rfl); (case k4x36 => kernel_rfl); (case k5x36 => kernel_rfl); (case k6x36 => kernel_rfl); (case hSx36 => assumption); (case hYx36 => (refine Or.inl ⟨rfl, ?hyx36⟩; intro w hSw; (try dsimp only at hSw); go_simp; (try with_reducible rfl))); (case hQx36 => exact (fun _ _ _ h => h)); (try simp only [Act.put, List.setIfInBounds_toArray, List.set_cons_zero, List.set_cons_succ]))
              (refine wpAnyL_take (n := 0) (i := 2) (oi := ?ox37) (v := ?vx37) ?hix37 ?k1x37 ?k2x37 ?k3x37 ?k4x37 ?k5x37 ?k6x37 ?hQx37 ?hYx37 ?hSx37 ?restx37; (case hix37 => (simp only [List.getElem?_toArray, List.getElem?_cons_succ, List.getElem?_cons_zero]; exact rfl)); (case k1x37 => kernel_rfl); (case k2x37 => kernel_rfl); (case k3x37 => kernel_rfl); (case k4x37 => kernel_rfl); (case k5x37 => kernel_rfl); (case k6x37 => kernel_rfl); (case hSx37 => assumption); (case hYx37 => (refine Or.inl ⟨rfl, ?hyx37⟩; intro w hSw; (try dsimp only at hSw); go_simp; (try with_reducible rfl))); (case hQx37 => exact (fun _ _ _ h => h)); (try simp only [Act.put, List.setIfInBounds_toArray, List.set_cons_zero, List.set_cons_succ]))
              (refine wpAnyL_take (n := 0) (i := 3) (oi := ?ox38) (v := ?vx38) ?hix38 ?k1x38 ?k2x38 ?k3x38 ?k4x38 ?k5x38 ?k6x38 ?hQx38 ?hYx38 ?hSx38 ?restx38; (case hix38 => (simp only [List.getElem?_toArray, List.getElem?_cons_succ, List.getElem?_cons_zero]; exact rfl)); (case k1x38 => kernel_rfl); (case k2x38 => kernel_rfl); (case k3x38 => kernel_rfl); (case k4x38 => kernel_rfl); (case k5x38 => kernel_rfl); (case k6x38 => kernel_rfl); (case hSx38 => assumption); (case hYx38 => (refine Or.inl ⟨rfl, ?hyx38⟩; intro w hSw; (try dsimp only at hSw); go_simp; (try with_reducible rfl))); (case hQx38 => exact (fun _ _ _ h => h)); (try simp only [Act.put, List.setIfInBounds_toArray, List.set_cons_zero, List.set_cons_succ]))
              (refine wpAnyL_take (n := 0) (i := 4) (oi := ?ox39) (v := ?vx39) ?hix39 ?k1x39 ?k2x39 ?k3x39 ?k4x39 ?k5x39 ?k6x39 ?hQx39 ?hYx39 ?hSx39 ?restx39; (case hix39 => (simp only [List.getElem?_toArray, List.getElem?_cons_succ, List.getElem?_cons_zero]; exact rfl)); (case k1x39 => kernel_rfl); (case k2x39 => kernel_rfl); (case k3x39 => kernel_rfl); (case k4x39 => kernel_rfl); (case k5x39 => kernel_rfl); (case k6x39 => kernel_rfl); (case hSx39 => assumption); (case hYx39 => (refine Or.inl ⟨rfl, ?hyx39⟩; intro w hSw; (try dsimp only at hSw); go_simp; (try with_reducible rfl))); (case hQx39 => exact (fun _ _ _ h => h)); (try simp only [Act.put, List.setIfInBounds_toArray, List.set_cons_zero, List.set_cons_succ]))
              (refine wpAnyL_take (n := 0) (i := 5) (oi := ?ox40) (v := ?vx40) ?hix40 ?k1x40 ?k2x40 ?k3x40 ?k4x40 ?k5x40 ?k6x40 ?hQx40 ?hYx40 ?hSx40 ?restx40; (case hix40 => (simp only [List.getElem?_toArray, List.getElem?_cons_succ, List.getElem?_cons_zero]; exact rfl)); (case k1x40 => kernel_rfl); (case k2x40 => kernel_rfl); (case k3x40 => kernel_rfl); (case k4x40 => kernel_rfl); (case k5x40 => kernel_rfl); (case k6x40 => kernel_rfl); (case hSx40 => assumption); (case hYx40 => (refine Or.inl ⟨rfl, ?hyx40⟩; intro w hSw; (try dsimp only at hSw); go_simp; (try with_reducible rfl))); (case hQx40 => exact (fun _ _ _ h => h)); (try simp only [Act.put, List.setIfInBounds_toArray, List.set_cons_zero, List.set_cons_succ]))
              (refine wpAnyL_take (n := 0) (i := 6) (oi := ?ox41) (v := ?vx41) ?hix41 ?k1x41 ?k2x41 ?k3x41 ?k4x41 ?k5x41 ?k6x41 ?hQx41 ?hYx41 ?hSx41 ?restx41; (case hix41 => (simp only [List.getElem?_toArray, List.getElem?_cons_succ, List.getElem?_cons_zero]; exact rfl)); (case k1x41 => kernel_rfl); (case k2x41 => kernel_rfl); (case k3x41 => kernel_rfl); (case k4x41 => kernel_rfl); (case k5x41 => kernel_rfl); (case k6x41 => kernel_rfl); (case hSx41 => assumption); (case hYx41 => (refine Or.inl ⟨rfl, ?hyx41⟩; intro w hSw; (try dsimp only at hSw); go_simp; (try with_reducible rfl))); (case hQx41 => exact (fun _ _ _ h => h)); (try simp only [Act.put, List.setIfInBounds_toArray, List.set_cons_zero, List.set_cons_succ]))
              (refine wpAnyL_take (n := 0) (i := 7) (oi := ?ox42) (v := ?vx42) ?hix42 ?k1x42 ?k2x42 ?k3x42 ?k4x42 ?k5x42 ?k6x42 ?hQx42 ?hYx42 ?hSx42 ?restx42; (case hix42 => (simp only [List.getElem?_toArray, List.getElem?_cons_succ, List.getElem?_cons_zero]; exact rfl)); (case k1x42 => kernel_rfl); (case k2x42 => kernel_rfl); (case k3x42 => kernel_rfl); (case k4x42 => kernel_rfl); (case k5x42 => kernel_rfl); (case k6x42 => kernel_rfl); (case hSx42 => assumption); (case hYx42 => (refine Or.inl ⟨rfl, ?hyx42⟩; intro w hSw; (try dsimp only at hSw); go_simp; (try with_reducible rfl))); (case hQx42 => exact (fun _ _ _ h => h)); (try simp only [Act.put, List.setIfInBounds_toArray, List.set_cons_zero, List.set_cons_succ]))
              (refine wpAnyL_take (n := 0) (i := 8) (oi := ?ox43) (v := ?vx43) ?hix43 ?k1x43 ?k2x43 ?k3x43 ?k4x43 ?k5x43 ?k6x43 ?hQx43 ?hYx43 ?hSx43 ?restx43; (case hix43 => (simp only [List.getElem?_toArray, List.getElem?_cons_succ, List.getElem?_cons_zero]; exact rfl)); (case k1x43 => kernel_rfl); (case k2x43 => kernel_rfl); (case k3x43 => kernel_rfl); (case k4x43 => kernel_rfl); (case k5x43 => kernel_rfl); (case k6x43 => kernel_rfl); (case hSx43 => assumption); (case hYx43 => (refine Or.inl ⟨rfl, ?hyx43⟩; intro w hSw; (try dsimp only at hSw); go_simp; (try with_reducible rfl))); (case hQx43 => exact (fun _ _ _ h => h)); (try simp only [Act.put, List.setIfInBounds_toArray, List.set_cons_zero, List.set_cons_succ]))
              (refine wpAnyL_take (n := 0) (i := 9) (oi := ?ox44) (v := ?vx44) ?hix44 ?k1x44 ?k2x44 ?k3x44 ?k4x44 ?k5x44 ?k6x44 ?hQx44 ?hYx44 ?hSx44 ?restx44; (case hix44 => (simp only [List.getElem?_toArray, List.getElem?_cons_succ, List.getElem?_cons_zero]; exact rfl)); (case k1x44 => kernel_rfl); (case k2x44 => kernel_rfl); (case k3x44 => kernel_rfl); (case k4x44 => kernel_rfl); (case k5x44 => kernel_rfl); (case k6x44 => kernel_rfl); (case hSx44 => assumption); (case hYx44 => (refine Or.inl ⟨rfl, ?hyx44⟩; intro w hSw; (try dsimp only at hSw); go_simp; (try with_reducible rfl))); (case hQx44 => exact (fun _ _ _ h => h)); (try simp only [Act.put, List.setIfInBounds_toArray, List.set_cons_zero, List.set_cons_succ]))
              (refine wpAnyL_take (n := 0) (i := 10) (oi := ?ox45) (v := ?vx45) ?hix45 ?k1x45 ?k2x45 ?k3x45 ?k4x45 ?k5x45 ?k6x45 ?hQx45 ?hYx45 ?hSx45 ?restx45; (case hix45 => (simp only [List.getElem?_toArray, List.getElem?_cons_succ, List.getElem?_cons_zero]; exact rfl)); (case k1x45 => kernel_rfl); (case k2x45 => kernel_rfl); (case k3x45 => kernel_rfl); (case k4x45 => kernel_rfl); (case k5x45 => kernel_rfl); (case k6x45 => kernel_rfl); (case hSx45 => assumption); (case hYx45 => (refine Or.inl ⟨rfl, ?hyx45⟩; intro w hSw; (try dsimp only at hSw); go_simp; (try with_reducible rfl))); (case hQx45 => exact (fun _ _ _ h => h)); (try simp only [Act.put, List.setIfInBounds_toArray, List.set_cons_zero, List.set_cons_succ]))
              (refine wpAnyL_take (n := 0) (i := 11) (oi := ?ox46) (v := ?vx46) ?hix46 ?k1x46 ?k2x46 ?k3x46 ?k4x46 ?k5x46 ?k6x46 ?hQx46 ?hYx46 ?hSx46 ?restx46; (case hix46 => (simp only [List.getElem?_toArray, List.getElem?_cons_succ, List.getElem?_cons_zero]; exact rfl)); (case k1x46 => kernel_rfl); (case k2x46 => kernel_rfl); (case k3x46 => kernel_rfl); (case k4x46 => kernel_rfl); (case k5x46 => kernel_rfl); (case k6x46 => kernel_rfl); (case hSx46 => assumption); (case hYx46 => (refine Or.inl ⟨rfl, ?hyx46⟩; intro w hSw; (try dsimp only at hSw); go_simp; (try with_reducible rfl))); (case hQx46 => exact (fun _ _ _ h => h)); (try simp only [Act.put, List.setIfInBounds_toArray, List.set_cons_zero, List.set_cons_succ]))
              (refine wpAnyL_take (n := 1) (i := 12) (oi := ?ox47) (v := ?vx47) ?hix47 ?k1x47 ?k2x47 ?k3x47 ?k4x47 ?k5x47 ?k6x47 ?hQx47 ?hYx47 ?hSx47 ?restx47; (case hix47 => (simp only [List.getElem?_toArray, List.getElem?_cons_succ, List.getElem?_cons_zero]; exact rfl)); (case k1x47 => kernel_rfl); (case k2x47 => kernel_rfl); (case k3x47 => kernel_rfl); (case k4x47 => kernel_rfl); (case k5x47 => kernel_rfl); (case k6x47 => kernel_rfl); (case hSx47 => assumption); (case hYx47 => (refine Or.inl ⟨rfl, ?hyx47⟩; intro w hSw; (try dsimp only at hSw); go_simp; (try with_reducible rfl))); (case hQx47 => exact (fun _ _ _ h => h)); (try simp only [Act.put, List.setIfInBounds_toArray, List.set_cons_zero, List.set_cons_succ]))
              (refine wpAnyL_take (n := 0) (i := 13) (oi := ?ox48) (v := ?vx48) ?hix48 ?k1x48 ?k2x48 ?k3x48 ?k4x48 ?k5x48 ?k6x48 ?hQx48 ?hYx48 ?hSx48 ?restx48; (case hix48 => (simp only [List.getElem?_toArray, List.getElem?_cons_succ, List.getElem?_cons_zero]; exact rfl)); (case k1x48 => kernel_rfl); (case k2x48 => kernel_rfl); (case k3x48 => kernel_rfl); (case k4x48 => kernel_rfl); (case k5x48 => kernel_rfl); (case k6x48 => kernel_rfl); (case hSx48 => assumption); (case hYx48 => (refine Or.inl ⟨rfl, ?hyx48⟩; intro w hSw; (try dsimp only at hSw); go_simp; (try with_reducible rfl))); (case hQx48 => exact (fun _ _ _ h => h)); (try simp only [Act.put, List.setIfInBounds_toArray, List.set_cons_zero, List.set_cons_succ]))
              refine wpAnyL_ready (rs := [14]) (by kernel_rfl) (by simp) ?_
              refine AllReadyL.last (o := ?o14x49) ?hi14x49 ?he14x49 (fun K hK => ?_) AllReadyL.nil
              (case hi14x49 => (simp only [List.getElem?_toArray, List.getElem?_cons_succ, List.getElem?_cons_zero]; exact rfl))
              (case he14x49 => kernel_rfl)
              have c20 := HI.out.way_cell
              have z20 := HI.out.way.frozen 20
              go_simp
              (try clear hHeld)
              refine hK.out _ _ ?_
              clear hK K
              (try simp only [Act.put, List.setIfInBounds_toArray, List.set_cons_zero, List.set_cons_succ])
              (refine wpAnyL_done (by kernel_rfl) ?_ _)
              go_wp2_with fail
              go_meet
              exact ⟨by rw [hm]; have := HI.out.setLeft (Nat.le_refl _) hW (lf + (nk - x.cap)); exact this, H7.out.far (p := ⟨W0, 20, none⟩) (by have := HB7.out; dsimp only; omega) _⟩

            · have hm : max 0 (nk - x.cap) = 0 := by omega
              have hneg : nk - x.cap ≤ 0 := by omega
              have e2 : IntKind.i64.wrap lf = lf := wi (by omega)
              refine wp_region_till [14] (fun U => U.cell? ⟨W0, 20, none⟩ = some (.int .i64 lf) ∧ U.cell? ⟨w.heap.size, i, none⟩ = some (.int .i64 nk) ∧ U.cell? ⟨wr.heap.size, 2, none⟩ = some (.int .i64 x.cap)) (by kernel_rfl) (by exact ⟨c20, q5, p2⟩) (fun hHeld => ?_)
              have hb9 := (Below.refl w6.heap.size w6).drew
              have t0 := HI.out.below hb9; have t1 := H7.out.below hb9 H7.out.lt
              clear HI H7
              have HI := Lib.hid t0; have H7 := Lib.hid t1
              clear t0 t1
              clear hb9
              revert hHeld HI H7
              generalize w6.drew = w0
              intro hHeld HI H7
              (refine wpAnyL_take (n := 0) (i := 0) (oi := ?ox50) (v := ?vx50) ?hix50 ?k1x50 ?k2x50 ?k3x50 ?k4x50 ?k5x50 ?k6x50 ?hQx50 ?hYx50 ?hSx50 ?restx50; (case hix50 => (simp only [List.getElem?_toArray, List.getElem?_cons_succ, List.getElem?_cons_zero]; exact rfl)); (case k1x50 => kernel_rfl); (case k2x50 => kernel_rfl); (case k3x50 => kernel_rfl); (case k4x50 => kernel_rfl); (case k5x50 => kernel_rfl); (case k6x50 => kernel_rfl); (case hSx50 => assumption); (case hYx50 => (refine Or.inl ⟨rfl, ?hyx50⟩; intro w hSw; (try dsimp only at hSw); go_simp; (try with_reducible rfl))); (case hQx50 => exact (fun _ _ _ h => h)); (try simp only [Act.put, List.setIfInBounds_toArray, List.set_cons_zero, List.set_cons_succ]))
              (refine wpAnyL_take (n := 0) (i := 1) (oi := ?ox51) (v := ?vx51) ?hix51 ?k1x51 ?k2x51 ?k3x51 ?k4x51 ?k5x51 ?k6x51 ?hQx51 ?hYx51 ?hSx51 ?restx51; (case hix51 => (simp only [List.getElem?_toArray, List.getElem?_cons_succ, List.getElem?_cons_zero]; exact rfl)); (case k1x51 => kernel_rfl); (case k2x51 => kernel_rfl); (case k3x51 => kernel_rfl); (case k4x51 => kernel_rfl); (case k5x51 => kernel_rfl); (case k6x51 => kernel_rfl); (case hSx51 => assumption); (case hYx51 => (refine Or.inl ⟨rfl, ?hyx51⟩; intro w hSw; (try dsimp only at hSw); go_simp; (try with_reducible rfl))); (case hQx51 => exact (fun _ _ _ h => h)); (try simp only [Act.put, List.setIfInBounds_toArray, List.set_cons_zero, List.set_cons_succ]))
              (refine wpAnyL_take (n := 0) (i := 2) (oi := ?ox52) (v := ?vx52) ?hix52 ?k1x52 ?k2x52 ?k3x52 ?k4x52 ?k5x52 ?k6x52 ?hQx52 ?hYx52 ?hSx52 ?restx52; (case hix52 => (simp only [List.getElem?_toArray, List.getElem?_cons_succ, List.getElem?_cons_zero]; exact rfl)); (case k1x52 => kernel_rfl); (case k2x52 => kernel_rfl); (case k3x52 => kernel_rfl); (case k4x52 => kernel_rfl); (case k5x52 => kernel_rfl); (case k6x52 => kernel_rfl); (case hSx52 => assumption); (case hYx52 => (refine Or.inl ⟨rfl, ?hyx52⟩; intro w hSw; (try dsimp only at hSw); go_simp; (try with_reducible rfl))); (case hQx52 => exact (fun _ _ _ h => h)); (try simp only [Act.put, List.setIfInBounds_toArray, List.set_cons_zero, List.set_cons_succ]))
              (refine wpAnyL_take (n := 0) (i := 3) (oi := ?ox53) (v := ?vx53) ?hix53 ?k1x53 ?k2x53 ?k3x53 ?k4x53 ?k5x53 ?k6x53 ?hQx53 ?hYx53 ?hSx53 ?restx53; (case hix53 => (simp only [List.getElem?_toArray, List.getElem?_cons_succ, List.getElem?_cons_zero]; exact rfl)); (case k1x53 => kernel_rfl); (case k2x53 => kernel_rfl); (case k3x53 => kernel_rfl); (case k4x53 => kernel_rfl); (case k5x53 => kernel_rfl); (case k6x53 => kernel_rfl); (case hSx53 => assumption); (case hYx53 => (refine Or.inl ⟨rfl, ?hyx53⟩; intro w hSw; (try dsimp only at hSw); go_simp; (try with_reducible rfl))); (case hQx53 => exact (fun _ _ _ h => h)); (try simp only [Act.put, List.setIfInBounds_toArray, List.set_cons_zero, List.set_cons_succ]))
              (refine wpAnyL_take (n := 0) (i := 4) (oi := ?ox54) (v := ?vx54) ?hix54 ?k1x54 ?k2x54 ?k3x54 ?k4x54 ?k5x54 ?k6x54 ?hQx54 ?hYx54 ?hSx54 ?restx54; (case hix54 => (simp only [List.getElem?_toArray, List.getElem?_cons_succ, List.getElem?_cons_zero]; exact rfl)); (case k1x54 => kernel_rfl); (case k2x54 => kernel_rfl); (case k3x54 => kernel_rfl); (case k4x54 => kernel_rfl); (case k5x54 => kernel_rfl); (case k6x54 => kernel_rfl); (case hSx54 => assumption); (case hYx54 => (refine Or.inl ⟨rfl, ?hyx54⟩; intro w hSw; (try dsimp only at hSw); go_simp; (try with_reducible rfl))); (case hQx54 => exact (fun _ _ _ h => h)); (try simp only [Act.put, List.setIfInBounds_toArray, List.set_cons_zero, List.set_cons_succ]))
              (refine wpAnyL_take (n := 0) (i := 5) (oi := ?ox55) (v := ?vx55) ?hix55 ?k1x55 ?k2x55 ?k3x55 ?k4x55 ?k5x55 ?k6x55 ?hQx55 ?hYx55 ?hSx55 ?restx55; (case hix55 => (simp only [List.getElem?_toArray, List.getElem?_cons_succ, List.getElem?_cons_zero]; exact rfl)); (case k1x55 => kernel_rfl); (case k2x55 => kernel_rfl); (case k3x55 => kernel_rfl); (case k4x55 => kernel_rfl); (case k5x55 => kernel_rfl); (case k6x55 => kernel_rfl); (case hSx55 => assumption); (case hYx55 => (refine Or.inl ⟨rfl, ?hyx55⟩; intro w hSw; (try dsimp only at hSw); go_simp; (try with_reducible rfl))); (case hQx55 => exact (fun _ _ _ h => h)); (try simp only [Act.put, List.setIfInBounds_toArray, List.set_cons_zero, List.set_cons_succ]))
              (refine wpAnyL_take (n := 0) (i := 6) (oi := ?ox56) (v := ?vx56) ?hix56 ?k1x56 ?k2x56 ?k3x56 ?k4x56 ?k5x56 ?k6x56 ?hQx56 ?hYx56 ?hSx56 ?restx56; (case hix56 => (simp only [List.getElem?_toArray, List.getElem?_cons_succ, List.getElem?_cons_zero]; exact rfl)); (case k1x56 => kernel_rfl); (case k2x56 => kernel_rfl); (case k3x56 => kernel_rfl); (case k4x56 => kernel_rfl); (case k5x56 => kernel_rfl); (case k6x56 => kernel_rfl); (case hSx56 => assumption); (case hYx56 => (refine Or.inl ⟨rfl, ?hyx56⟩; intro w hSw; (try dsimp only at hSw); go_simp; (try with_reducible rfl))); (case hQx56 => exact (fun _ _ _ h => h)); (try simp only [Act.put, List.setIfInBounds_toArray, List.set_cons_zero, List.set_cons_succ]))
              (refine wpAnyL_take (n := 0) (i := 7) (oi := ?ox57) (v := ?vx57) ?hix57 ?k1x57 ?k2x57 ?k3x57 ?k4x57 ?k5x57 ?k6x57 ?hQx57 ?hYx57 ?hSx57 ?restx57; (case hix57 => (simp only [List.getElem?_toArray, List.getElem?_cons_succ, List.getElem?_cons_zero]; exact rfl)); (case k1x57 => kernel_rfl); (case k2x57 => kernel_rfl); (case k3x57 => kernel_rfl); (case k4x57 => kernel_rfl); (case k5x57 => kernel_rfl); (case k6x57 => kernel_rfl); (case hSx57 => assumption); (case hYx57 => (refine Or.inl ⟨rfl, ?hyx57⟩; intro w hSw; (try dsimp only at hSw); go_simp; (try with_reducible rfl))); (case hQx57 => exact (fun _ _ _ h => h)); (try simp only [Act.put, List.setIfInBounds_toArray, List.set_cons_zero, List.set_cons_succ]))
              (refine wpAnyL_take (n := 0) (i := 8) (oi := ?ox58) (v := ?vx58) ?hix58 ?k1x58 ?k2x58 ?k3x58 ?k4x58 ?k5x58 ?k6x58 ?hQx58 ?hYx58 ?hSx58 ?restx58; (case hix58 => (simp only [List.getElem?_toArray, List.getElem?_cons_succ, List.getElem?_cons_zero]; exact rfl)); (case k1x58 => kernel_rfl); (case k2x58 => kernel_rfl); (case k3x58 => kernel_rfl); (case k4x58 => kernel_rfl); (case k5x58 => kernel_rfl); (case k6x58 => kernel_rfl); (case hSx58 => assumption); (case hYx58 => (refine Or.inl ⟨rfl, ?hyx58⟩; intro w hSw; (try dsimp only at hSw); go_simp; (try with_reducible rfl))); (case hQx58 => exact (fun _ _ _ h => h)); (try simp only [Act.put, List.setIfInBounds_toArray, List.set_cons_zero, List.set_cons_succ]))
              (refine wpAnyL_take (n := 0) (i := 9) (oi := ?ox59) (v := ?vx59) ?hix59 ?k1x59 ?k2x59 ?k3x59 ?k4x59 ?k5x59 ?k6x59 ?hQx59 ?hYx59 ?hSx59 ?restx59; (case hix59 => (simp only [List.getElem?_toArray, List.getElem?_cons_succ, List.getElem?_cons_zero]; exact rfl)); (case k1x59 => kernel_rfl); (case k2x59 => kernel_rfl); (case k3x59 => kernel_rfl); (case k4x59 => kernel_rfl); (case k5x59 => kernel_rfl); (case k6x59 => kernel_rfl); (case hSx59 => assumption); (case hYx59 => (refine Or.inl ⟨rfl, ?hyx59⟩; intro w hSw; (try dsimp only at hSw); go_simp; (try with_reducible rfl))); (case hQx59 => exact (fun _ _ _ h => h)); (try simp only [Act.put, List.setIfInBounds_toArray, List.set_cons_zero, List.set_cons_succ]))
              (refine wpAnyL_take (n := 0) (i := 10) (oi := ?ox60) (v := ?vx60) ?hix60 ?k1x60 ?k2x60 ?k3x60 ?k4x60 ?k5x60 ?k6x60 ?hQx60 ?hYx60 ?hSx60 ?restx60; (case hix60 => (simp only [List.getElem?_toArray, List.getElem?_cons_succ, List.getElem?_cons_zero]; exact rfl)); (case k1x60 => kernel_rfl); (case k2x60 => kernel_rfl); (case k3x60 => kernel_rfl); (case k4x60 => kernel_rfl); (case k5x60 => kernel_rfl); (case k6x60 => kernel_rfl); (case hSx60 => assumption); (case hYx60 => (refine Or.inl ⟨rfl, ?hyx60⟩; intro w hSw; (try dsimp only at hSw); go_simp; (try with_reducible rfl))); (case hQx60 => exact (fun _ _ _ h => h)); (try simp only [Act.put, List.setIfInBounds_toArray, List.set_cons_zero, List.set_cons_succ]))
              (refine wpAnyL_take (n := 0) (i := 11) (oi := ?ox61) (v := ?vx61) ?hix61 ?k1x61 ?k2x61 ?k3x61 ?k4x61 ?k5x61 ?k6x61 ?hQx61 ?hYx61 ?hSx61 ?restx61; (case hix61 => (simp only [List.getElem?_toArray, List.getElem?_cons_succ, List.getElem?_cons_zero]; exact rfl)); (case k1x61 => kernel_rfl); (case k2x61 => kernel_rfl); (case k3x61 => kernel_rfl); (case k4x61 => kernel_rfl); (case k5x61 => kernel_rfl); (case k6x61 => kernel_rfl); (case hSx61 => assumption); (case hYx61 => (refine Or.inl ⟨rfl, ?hyx61⟩; intro w hSw; (try dsimp only at hSw); go_simp; (try with_reducible rfl))); (case hQx61 => exact (fun _ _ _ h => h)); (try simp only [Act.put, List.setIfInBounds_toArray, List.set_cons_zero, List.set_cons_succ]))
              (refine wpAnyL_take (n := 1) (i := 12) (oi := ?ox62) (v := ?vx62) ?hix62 ?k1x62 ?k2x62 ?k3x62 ?k4x62 ?k5x62 ?k6x62 ?hQx62 ?hYx62 ?hSx62 ?restx62; (case hix62 => (simp only [List.getElem?_toArray, List.getElem?_cons_succ, List.getElem?_cons_zero]; exact rfl)); (case k1x62 => kernel_rfl); (case k2x62 => kernel_rfl); (case k3x62 => kernel_rfl); (case k4x62 => kernel_rfl); (case k5x62 => kernel_rfl); (case k6x62 => kernel_rfl); (case hSx62 => assumption); (case hYx62 => (refine Or.inl ⟨rfl, ?hyx62⟩; intro w hSw; (try dsimp only at hSw); go_simp; (try with_reducible rfl))); (case hQx62 => exact (fun _ _ _ h => h)); (try simp only [Act.put, List.setIfInBounds_toArray, List.set_cons_zero, List.set_cons_succ]))
              (refine wpAnyL_take (n := 0) (i := 13) (oi := ?ox63) (v := ?vx63) ?hix63 ?k1x63 ?k2x63 ?k3x63 ?k4x63 ?k5x63 ?k6x63 ?hQx63 ?hYx63 ?hSx63 ?restx63; (case hix63 => (simp only [List.getElem?_toArray, List.getElem?_cons_succ, List.getElem?_cons_zero]; exact rfl)); (case k1x63 => kernel_rfl); (case k2x63 => kernel_rfl); (case k3x63 => kernel_rfl); (case k4x63 => kernel_rfl); (case k5x63 => kernel_rfl); (case k6x63 => kernel_rfl); (case hSx63 => assumption); (case hYx63 => (refine Or.inl ⟨rfl, ?hyx63⟩; intro w hSw; (try dsimp only at hSw); go_simp; (try with_reducible rfl))); (case hQx63 => exact (fun _ _ _ h => h)); (try simp only [Act.put, List.setIfInBounds_toArray, List.set_cons_zero, List.set_cons_succ]))
              refine wpAnyL_ready (rs := [14]) (by kernel_rfl) (by simp) ?_
              refine AllReadyL.last (o := ?o14x64) ?hi14x64 ?he14x64 (fun K hK => ?_) AllReadyL.nil
              (case hi14x64 => (simp only [List.getElem?_toArray, List.getElem?_cons_succ, List.getElem?_cons_zero]; exact rfl))
              (case he14x64 => kernel_rfl)
              have c20 := HI.out.way_cell
              have z20 := HI.out.way.frozen 20
              go_simp
              (try clear hHeld)
              refine hK.out _ _ ?_
              clear hK K
              (try simp only [Act.put, List.setIfInBounds_toArray, List.set_cons_zero, List.set_cons_succ])
              (refine wpAnyL_done (by kernel_rfl) ?_ _)
              go_wp2_with fail
              go_meet
              exact ⟨by rw [hm]; have := HI.out.setLeft (Nat.le_refl _) hW (lf); simpa using this, H7.out.far (p := ⟨W0, 20, none⟩) (by have := HB7.out; dsimp only; omega) _⟩

          case rest =>
            obtain ⟨hi10, h710⟩ := hcut
            clear HI H7 c20 q5 p2
            have HI := Lib.hid hi10; have H7 := Lib.hid h710
            clear hi10 h710
            have p2 := H7.out.cell 2
            simp at p2
            have q5 := HI.out.row.cell i; rw [arr8_get hk8, ← HNK.out] at q5
            have e7 : lf + max 0 (nk - x.cap) = leftW C L down s C.length + overW C L s (i + 1) := by
              rw [HLF.out, HNK.out, ← HCE.out]; simp only [overW]; omega
            have HE8 := Lib.hid (show (fun j => if j = i then min nk x.cap else if j < i then lvA (passW C L s) j else lvA L j) = fun j => if j < i + 1 then lvA (passW C L s) j else lvA L j from by
              funext j
              by_cases hj : j = i
              · subst hj
                rw [if_pos rfl, if_pos (by omega), lvA_pass, if_pos (by have := HCL.out; omega), HNK.out, HCE.out]
              · rw [if_neg hj]
                by_cases hj2 : j < i
                · rw [if_pos hj2, if_pos (by omega)]
                · rw [if_neg hj2, if_neg (by omega)])
            have HE7 := Lib.hid e7
            clear e7
            go_upto_region 19 with fail
            rcases Int.lt_or_le x.cap nk with hc | hc
            · have HM := Lib.hid (show min nk x.cap = x.cap by omega)
              refine wp_region_till [11] (fun U => U.cell? ⟨w.heap.size, i, none⟩ = some (.int .i64 nk) ∧ U.cell? ⟨wr.heap.size, 2, none⟩ = some (.int .i64 x.cap)) (by kernel_rfl) (by exact ⟨q5, p2⟩) (fun hHeld => ?_)
              have hb9 := (Below.refl wc.heap.size wc).drew
              have t0 := HI.out.below hb9; have t1 := H7.out.below hb9 H7.out.lt
              clear HI H7
              have HI := Lib.hid t0; have H7 := Lib.hid t1
              clear t0 t1
              clear hb9
              revert hHeld HI H7
              generalize wc.drew = w0
              intro hHeld HI H7
              (refine wpAnyL_take (n := 0) (i := 0) (oi := ?ox65) (v := ?vx65) ?hix65 ?k1x65 ?k2x65 ?k3x65 ?k4x65 ?k5x65 ?k6x65 ?hQx65 ?hYx65 ?hSx65 ?restx65; (case hix65 => (simp only [List.getElem?_toArray, List.getElem?_cons_succ, List.getElem?_cons_zero]; exact rfl)); (case k1x65 => kernel_rfl); (case k2x65 => kernel_rfl); (case k3x65 => kernel_rfl); (case k4x65 => kernel_rfl); (case k5x65 => kernel_rfl); (case k6x65 => kernel_rfl); (case hSx65 => assumption); (case hYx65 => (refine Or.inl ⟨rfl, ?hyx65⟩; intro w hSw; (try dsimp only at hSw); go_simp; (try with_reducible rfl))); (case hQx65 => exact (fun _ _ _ h => h)); (try simp only [Act.put, List.setIfInBounds_toArray, List.set_cons_zero, List.set_cons_succ]))
              (refine wpAnyL_take (n := 0) (i := 1) (oi := ?ox66) (v := ?vx66) ?hix66 ?k1x66 ?k2x66 ?k3x66 ?k4x66 ?k5x66 ?k6x66 ?hQx66 ?hYx66 ?hSx66 ?restx66; (case hix66 => (simp only [List.getElem?_toArray, List.getElem?_cons_succ, List.getElem?_cons_zero]; exact rfl)); (case k1x66 => kernel_rfl); (case k2x66 => kernel_rfl); (case k3x66 => kernel_rfl); (case k4x66 => kernel_rfl); (case k5x66 => kernel_rfl); (case k6x66 => kernel_rfl); (case hSx66 => assumption); (case hYx66 => (refine Or.inl ⟨rfl, ?hyx66⟩; intro w hSw; (try dsimp only at hSw); go_simp; (try with_reducible rfl))); (case hQx66 => exact (fun _ _ _ h => h)); (try simp only [Act.put, List.setIfInBounds_toArray, List.set_cons_zero, List.set_cons_succ]))
              (refine wpAnyL_take (n := 0) (i := 2) (oi := ?ox67) (v := ?vx67) ?hix67 ?k1x67 ?k2x67 ?k3x67 ?k4x67 ?k5x67 ?k6x67 ?hQx67 ?hYx67 ?hSx67 ?restx67; (case hix67 => (simp only [List.getElem?_toArray, List.getElem?_cons_succ, List.getElem?_cons_zero]; exact rfl)); (case k1x67 => kernel_rfl); (case k2x67 => kernel_rfl); (case k3x67 => kernel_rfl); (case k4x67 => kernel_rfl); (case k5x67 => kernel_rfl); (case k6x67 => kernel_rfl); (case hSx67 => assumption); (case hYx67 => (refine Or.inl ⟨rfl, ?hyx67⟩; intro w hSw; (try dsimp only at hSw); go_simp; (try with_reducible rfl))); (case hQx67 => exact (fun _ _ _ h => h)); (try simp only [Act.put, List.setIfInBounds_toArray, List.set_cons_zero, List.set_cons_succ]))
              (refine wpAnyL_take (n := 0) (i := 3) (oi := ?ox68) (v := ?vx68) ?hix68 ?k1x68 ?k2x68 ?k3x68 ?k4x68 ?k5x68 ?k6x68 ?hQx68 ?hYx68 ?hSx68 ?restx68; (case hix68 => (simp only [List.getElem?_toArray, List.getElem?_cons_succ, List.getElem?_cons_zero]; exact rfl)); (case k1x68 => kernel_rfl); (case k2x68 => kernel_rfl); (case k3x68 => kernel_rfl); (case k4x68 => kernel_rfl); (case k5x68 => kernel_rfl); (case k6x68 => kernel_rfl); (case hSx68 => assumption); (case hYx68 => (refine Or.inl ⟨rfl, ?hyx68⟩; intro w hSw; (try dsimp only at hSw); go_simp; (try with_reducible rfl))); (case hQx68 => exact (fun _ _ _ h => h)); (try simp only [Act.put, List.setIfInBounds_toArray, List.set_cons_zero, List.set_cons_succ]))
              (refine wpAnyL_take (n := 0) (i := 4) (oi := ?ox69) (v := ?vx69) ?hix69 ?k1x69 ?k2x69 ?k3x69 ?k4x69 ?k5x69 ?k6x69 ?hQx69 ?hYx69 ?hSx69 ?restx69; (case hix69 => (simp only [List.getElem?_toArray, List.getElem?_cons_succ, List.getElem?_cons_zero]; exact rfl)); (case k1x69 => kernel_rfl); (case k2x69 => kernel_rfl); (case k3x69 => kernel_rfl); (case k4x69 => kernel_rfl); (case k5x69 => kernel_rfl); (case k6x69 => kernel_rfl); (case hSx69 => assumption); (case hYx69 => (refine Or.inl ⟨rfl, ?hyx69⟩; intro w hSw; (try dsimp only at hSw); go_simp; (try with_reducible rfl))); (case hQx69 => exact (fun _ _ _ h => h)); (try simp only [Act.put, List.setIfInBounds_toArray, List.set_cons_zero, List.set_cons_succ]))
              (refine wpAnyL_take (n := 0) (i := 5) (oi := ?ox70) (v := ?vx70) ?hix70 ?k1x70 ?k2x70 ?k3x70 ?k4x70 ?k5x70 ?k6x70 ?hQx70 ?hYx70 ?hSx70 ?restx70; (case hix70 => (simp only [List.getElem?_toArray, List.getElem?_cons_succ, List.getElem?_cons_zero]; exact rfl)); (case k1x70 => kernel_rfl); (case k2x70 => kernel_rfl); (case k3x70 => kernel_rfl); (case k4x70 => kernel_rfl); (case k5x70 => kernel_rfl); (case k6x70 => kernel_rfl); (case hSx70 => assumption); (case hYx70 => (refine Or.inl ⟨rfl, ?hyx70⟩; intro w hSw; (try dsimp only at hSw); go_simp; (try with_reducible rfl))); (case hQx70 => exact (fun _ _ _ h => h)); (try simp only [Act.put, List.setIfInBounds_toArray, List.set_cons_zero, List.set_cons_succ]))
              (refine wpAnyL_take (n := 0) (i := 6) (oi := ?ox71) (v := ?vx71) ?hix71 ?k1x71 ?k2x71 ?k3x71 ?k4x71 ?k5x71 ?k6x71 ?hQx71 ?hYx71 ?hSx71 ?restx71; (case hix71 => (simp only [List.getElem?_toArray, List.getElem?_cons_succ, List.getElem?_cons_zero]; exact rfl)); (case k1x71 => kernel_rfl); (case k2x71 => kernel_rfl); (case k3x71 => kernel_rfl); (case k4x71 => kernel_rfl); (case k5x71 => kernel_rfl); (case k6x71 => kernel_rfl); (case hSx71 => assumption); (case hYx71 => (refine Or.inl ⟨rfl, ?hyx71⟩; intro w hSw; (try dsimp only at hSw); go_simp; (try with_reducible rfl))); (case hQx71 => exact (fun _ _ _ h => h)); (try simp only [Act.put, List.setIfInBounds_toArray, List.set_cons_zero, List.set_cons_succ]))
              (refine wpAnyL_take (n := 0) (i := 7) (oi := ?ox72) (v := ?vx72) ?hix72 ?k1x72 ?k2x72 ?k3x72 ?k4x72 ?k5x72 ?k6x72 ?hQx72 ?hYx72 ?hSx72 ?restx72; (case hix72 => (simp only [List.getElem?_toArray, List.getElem?_cons_succ, List.getElem?_cons_zero]; exact rfl)); (case k1x72 => kernel_rfl); (case k2x72 => kernel_rfl); (case k3x72 => kernel_rfl); (case k4x72 => kernel_rfl); (case k5x72 => kernel_rfl); (case k6x72 => kernel_rfl); (case hSx72 => assumption); (case hYx72 => (refine Or.inl ⟨rfl, ?hyx72⟩; intro w hSw; (try dsimp only at hSw); go_simp; (try with_reducible rfl))); (case hQx72 => exact (fun _ _ _ h => h)); (try simp only [Act.put, List.setIfInBounds_toArray, List.set_cons_zero, List.set_cons_succ]))
              (refine wpAnyL_take (n := 2) (i := 8) (oi := ?ox73) (v := ?vx73) ?hix73 ?k1x73 ?k2x73 ?k3x73 ?k4x73 ?k5x73 ?k6x73 ?hQx73 ?hYx73 ?hSx73 ?restx73; (case hix73 => (simp only [List.getElem?_toArray, List.getElem?_cons_succ, List.getElem?_cons_zero]; exact rfl)); (case k1x73 => kernel_rfl); (case k2x73 => kernel_rfl); (case k3x73 => kernel_rfl); (case k4x73 => kernel_rfl); (case k5x73 => kernel_rfl); (case k6x73 => kernel_rfl); (case hSx73 => assumption); (case hYx73 => (refine Or.inl ⟨rfl, ?hyx73⟩; intro w hSw; (try dsimp only at hSw); go_simp; (try with_reducible rfl))); (case hQx73 => exact (fun _ _ _ h => h)); (try simp only [Act.put, List.setIfInBounds_toArray, List.set_cons_zero, List.set_cons_succ]))
              (refine wpAnyL_take (n := 1) (i := 9) (oi := ?ox74) (v := ?vx74) ?hix74 ?k1x74 ?k2x74 ?k3x74 ?k4x74 ?k5x74 ?k6x74 ?hQx74 ?hYx74 ?hSx74 ?restx74; (case hix74 => (simp only [List.getElem?_toArray, List.getElem?_cons_succ, List.getElem?_cons_zero]; exact rfl)); (case k1x74 => kernel_rfl); (case k2x74 => kernel_rfl); (case k3x74 => kernel_rfl); (case k4x74 => kernel_rfl); (case k5x74 => kernel_rfl); (case k6x74 => kernel_rfl); (case hSx74 => assumption); (case hYx74 => (refine Or.inl ⟨rfl, ?hyx74⟩; intro w hSw; (try dsimp only at hSw); go_simp; (try with_reducible rfl))); (case hQx74 => exact (fun _ _ _ h => h)); (try simp only [Act.put, List.setIfInBounds_toArray, List.set_cons_zero, List.set_cons_succ]))
              (refine wpAnyL_take (n := 0) (i := 10) (oi := ?ox75) (v := ?vx75) ?hix75 ?k1x75 ?k2x75 ?k3x75 ?k4x75 ?k5x75 ?k6x75 ?hQx75 ?hYx75 ?hSx75 ?restx75; (case hix75 => (simp only [List.getElem?_toArray, List.getElem?_cons_succ, List.getElem?_cons_zero]; exact rfl)); (case k1x75 => kernel_rfl); (case k2x75 => kernel_rfl); (case k3x75 => kernel_rfl); (case k4x75 => kernel_rfl); (case k5x75 => kernel_rfl); (case k6x75 => kernel_rfl); (case hSx75 => assumption); (case hYx75 => (refine Or.inl ⟨rfl, ?hyx75⟩; intro w hSw; (try dsimp only at hSw); go_simp; (try with_reducible rfl))); (case hQx75 => exact (fun _ _ _ h => h)); (try simp only [Act.put, List.setIfInBounds_toArray, List.set_cons_zero, List.set_cons_succ]))
              refine wpAnyL_ready (rs := [11]) (by kernel_rfl) (by simp) ?_
              refine AllReadyL.last (o := ?o11x76) ?hi11x76 ?he11x76 (fun K hK => ?_) AllReadyL.nil
              (case hi11x76 => (simp only [List.getElem?_toArray, List.getElem?_cons_succ, List.getElem?_cons_zero]; exact rfl))
              (case he11x76 => kernel_rfl)
              have c20 := HI.out.way.cell (11 + i); rw [wayC_lv hk8] at c20
              have z20 := HI.out.way.frozen (11 + i)
              go_simp
              (try clear hHeld)
              refine hK.out _ _ ?_
              clear hK K
              (try simp only [Act.put, List.setIfInBounds_toArray, List.set_cons_zero, List.set_cons_succ])
              (refine wpAnyL_done (by kernel_rfl) ?_ _)
              have hi12 := HI.out.setLv hk8 (Nat.le_refl _) hW (x.cap)
              have e8 := HE8.out
              rw [HM.out] at e8
              rw [e8, HE7.out] at hi12
              go_wp2_with fail
              go_roundw
              case rel => exact ⟨i + 1, by omega, by go_num, hi12⟩
              case measure => simp [intOf] <;> omega
            · have HM := Lib.hid (show min nk x.cap = nk by omega)
              refine wp_region_till [11] (fun U => U.cell? ⟨w.heap.size, i, none⟩ = some (.int .i64 nk) ∧ U.cell? ⟨wr.heap.size, 2, none⟩ = some (.int .i64 x.cap)) (by kernel_rfl) (by exact ⟨q5, p2⟩) (fun hHeld => ?_)
              have hb9 := (Below.refl wc.heap.size wc).drew
              have t0 := HI.out.below hb9; have t1 := H7.out.below hb9 H7.out.lt
              clear HI H7
              have HI := Lib.hid t0; have H7 := Lib.hid t1
              clear t0 t1
              clear hb9
              revert hHeld HI H7
              generalize wc.drew = w0
              intro hHeld HI H7
              (refine wpAnyL_take (n := 0) (i := 0) (oi := ?ox77) (v := ?vx77) ?hix77 ?k1x77 ?k2x77 ?k3x77 ?k4x77 ?k5x77 ?k6x77 ?hQx77 ?hYx77 ?hSx77 ?restx77; (case hix77 => (simp only [List.getElem?_toArray, List.getElem?_cons_succ, List.getElem?_cons_zero]; exact rfl)); (case k1x77 => kernel_rfl); (case k2x77 => kernel_rfl); (case k3x77 => kernel_rfl); (case k4x77 => kernel_rfl); (case k5x77 => kernel_rfl); (case k6x77 => kernel_rfl); (case hSx77 => assumption); (case hYx77 => (refine Or.inl ⟨rfl, ?hyx77⟩; intro w hSw; (try dsimp only at hSw); go_simp; (try with_reducible rfl))); (case hQx77 => exact (fun _ _ _ h => h)); (try simp only [Act.put, List.setIfInBounds_toArray, List.set_cons_zero, List.set_cons_succ]))
              (refine wpAnyL_take (n := 0) (i := 1) (oi := ?ox78) (v := ?vx78) ?hix78 ?k1x78 ?k2x78 ?k3x78 ?k4x78 ?k5x78 ?k6x78 ?hQx78 ?hYx78 ?hSx78 ?restx78; (case hix78 => (simp only [List.getElem?_toArray, List.getElem?_cons_succ, List.getElem?_cons_zero]; exact rfl)); (case k1x78 => kernel_rfl); (case k2x78 => kernel_rfl); (case k3x78 => kernel_rfl); (case k4x78 => kernel_rfl); (case k5x78 => kernel_rfl); (case k6x78 => kernel_rfl); (case hSx78 => assumption); (case hYx78 => (refine Or.inl ⟨rfl, ?hyx78⟩; intro w hSw; (try dsimp only at hSw); go_simp; (try with_reducible rfl))); (case hQx78 => exact (fun _ _ _ h => h)); (try simp only [Act.put, List.setIfInBounds_toArray, List.set_cons_zero, List.set_cons_succ]))
              (refine wpAnyL_take (n := 0) (i := 2) (oi := ?ox79) (v := ?vx79) ?hix79 ?k1x79 ?k2x79 ?k3x79 ?k4x79 ?k5x79 ?k6x79 ?hQx79 ?hYx79 ?hSx79 ?restx79; (case hix79 => (simp only [List.getElem?_toArray, List.getElem?_cons_succ, List.getElem?_cons_zero]; exact rfl)); (case k1x79 => kernel_rfl); (case k2x79 => kernel_rfl); (case k3x79 => kernel_rfl); (case k4x79 => kernel_rfl); (case k5x79 => kernel_rfl); (case k6x79 => kernel_rfl); (case hSx79 => assumption); (case hYx79 => (refine Or.inl ⟨rfl, ?hyx79⟩; intro w hSw; (try dsimp only at hSw); go_simp; (try with_reducible rfl))); (case hQx79 => exact (fun _ _ _ h => h)); (try simp only [Act.put, List.setIfInBounds_toArray, List.set_cons_zero, List.set_cons_succ]))
              (refine wpAnyL_take (n := 0) (i := 3) (oi := ?ox80) (v := ?vx80) ?hix80 ?k1x80 ?k2x80 ?k3x80 ?k4x80 ?k5x80 ?k6x80 ?hQx80 ?hYx80 ?hSx80 ?restx80; (case hix80 => (simp only [List.getElem?_toArray, List.getElem?_cons_succ, List.getElem?_cons_zero]; exact rfl)); (case k1x80 => kernel_rfl); (case k2x80 => kernel_rfl); (case k3x80 => kernel_rfl); (case k4x80 => kernel_rfl); (case k5x80 => kernel_rfl); (case k6x80 => kernel_rfl); (case hSx80 => assumption); (case hYx80 => (refine Or.inl ⟨rfl, ?hyx80⟩; intro w hSw; (try dsimp only at hSw); go_simp; (try with_reducible rfl))); (case hQx80 => exact (fun _ _ _ h => h)); (try simp only [Act.put, List.setIfInBounds_toArray, List.set_cons_zero, List.set_cons_succ]))
              (refine wpAnyL_take (n := 0) (i := 4) (oi := ?ox81) (v := ?vx81) ?hix81 ?k1x81 ?k2x81 ?k3x81 ?k4x81 ?k5x81 ?k6x81 ?hQx81 ?hYx81 ?hSx81 ?restx81; (case hix81 => (simp only [List.getElem?_toArray, List.getElem?_cons_succ, List.getElem?_cons_zero]; exact rfl)); (case k1x81 => kernel_rfl); (case k2x81 => kernel_rfl); (case k3x81 => kernel_rfl); (case k4x81 => kernel_rfl); (case k5x81 => kernel_rfl); (case k6x81 => kernel_rfl); (case hSx81 => assumption); (case hYx81 => (refine Or.inl ⟨rfl, ?hyx81⟩; intro w hSw; (try dsimp only at hSw); go_simp; (try with_reducible rfl))); (case hQx81 => exact (fun _ _ _ h => h)); (try simp only [Act.put, List.setIfInBounds_toArray, List.set_cons_zero, List.set_cons_succ]))
              (refine wpAnyL_take (n := 0) (i := 5) (oi := ?ox82) (v := ?vx82) ?hix82 ?k1x82 ?k2x82 ?k3x82 ?k4x82 ?k5x82 ?k6x82 ?hQx82 ?hYx82 ?hSx82 ?restx82; (case hix82 => (simp only [List.getElem?_toArray, List.getElem?_cons_succ, List.getElem?_cons_zero]; exact rfl)); (case k1x82 => kernel_rfl); (case k2x82 => kernel_rfl); (case k3x82 => kernel_rfl); (case k4x82 => kernel_rfl); (case k5x82 => kernel_rfl); (case k6x82 => kernel_rfl); (case hSx82 => assumption); (case hYx82 => (refine Or.inl ⟨rfl, ?hyx82⟩; intro w hSw; (try dsimp only at hSw); go_simp; (try with_reducible rfl))); (case hQx82 => exact (fun _ _ _ h => h)); (try simp only [Act.put, List.setIfInBounds_toArray, List.set_cons_zero, List.set_cons_succ]))
              (refine wpAnyL_take (n := 0) (i := 6) (oi := ?ox83) (v := ?vx83) ?hix83 ?k1x83 ?k2x83 ?k3x83 ?k4x83 ?k5x83 ?k6x83 ?hQx83 ?hYx83 ?hSx83 ?restx83; (case hix83 => (simp only [List.getElem?_toArray, List.getElem?_cons_succ, List.getElem?_cons_zero]; exact rfl)); (case k1x83 => kernel_rfl); (case k2x83 => kernel_rfl); (case k3x83 => kernel_rfl); (case k4x83 => kernel_rfl); (case k5x83 => kernel_rfl); (case k6x83 => kernel_rfl); (case hSx83 => assumption); (case hYx83 => (refine Or.inl ⟨rfl, ?hyx83⟩; intro w hSw; (try dsimp only at hSw); go_simp; (try with_reducible rfl))); (case hQx83 => exact (fun _ _ _ h => h)); (try simp only [Act.put, List.setIfInBounds_toArray, List.set_cons_zero, List.set_cons_succ]))
              (refine wpAnyL_take (n := 0) (i := 7) (oi := ?ox84) (v := ?vx84) ?hix84 ?k1x84 ?k2x84 ?k3x84 ?k4x84 ?k5x84 ?k6x84 ?hQx84 ?hYx84 ?hSx84 ?restx84; (case hix84 => (simp only [List.getElem?_toArray, List.getElem?_cons_succ, List.getElem?_cons_zero]; exact rfl)); (case k1x84 => kernel_rfl); (case k2x84 => kernel_rfl); (case k3x84 => kernel_rfl); (case k4x84 => kernel_rfl); (case k5x84 => kernel_rfl); (case k6x84 => kernel_rfl); (case hSx84 => assumption); (case hYx84 => (refine Or.inl ⟨rfl, ?hyx84⟩; intro w hSw; (try dsimp only at hSw); go_simp; (try with_reducible rfl))); (case hQx84 => exact (fun _ _ _ h => h)); (try simp only [Act.put, List.setIfInBounds_toArray, List.set_cons_zero, List.set_cons_succ]))
              (refine wpAnyL_take (n := 2) (i := 8) (oi := ?ox85) (v := ?vx85) ?hix85 ?k1x85 ?k2x85 ?k3x85 ?k4x85 ?k5x85 ?k6x85 ?hQx85 ?hYx85 ?hSx85 ?restx85; (case hix85 => (simp only [List.getElem?_toArray, List.getElem?_cons_succ, List.getElem?_cons_zero]; exact rfl)); (case k1x85 => kernel_rfl); (case k2x85 => kernel_rfl); (case k3x85 => kernel_rfl); (case k4x85 => kernel_rfl); (case k5x85 => kernel_rfl); (case k6x85 => kernel_rfl); (case hSx85 => assumption); (case hYx85 => (refine Or.inl ⟨rfl, ?hyx85⟩; intro w hSw; (try dsimp only at hSw); go_simp; (try with_reducible rfl))); (case hQx85 => exact (fun _ _ _ h => h)); (try simp only [Act.put, List.setIfInBounds_toArray, List.set_cons_zero, List.set_cons_succ]))
              (refine wpAnyL_take (n := 1) (i := 9) (oi := ?ox86) (v := ?vx86) ?hix86 ?k1x86 ?k2x86 ?k3x86 ?k4x86 ?k5x86 ?k6x86 ?hQx86 ?hYx86 ?hSx86 ?restx86; (case hix86 => (simp only [List.getElem?_toArray, List.getElem?_cons_succ, List.getElem?_cons_zero]; exact rfl)); (case k1x86 => kernel_rfl); (case k2x86 => kernel_rfl); (case k3x86 => kernel_rfl); (case k4x86 => kernel_rfl); (case k5x86 => kernel_rfl); (case k6x86 => kernel_rfl); (case hSx86 => assumption); (case hYx86 => (refine Or.inl ⟨rfl, ?hyx86⟩; intro w hSw; (try dsimp only at hSw); go_simp; (try with_reducible rfl))); (case hQx86 => exact (fun _ _ _ h => h)); (try simp only [Act.put, List.setIfInBounds_toArray, List.set_cons_zero, List.set_cons_succ]))
              (refine wpAnyL_take (n := 0) (i := 10) (oi := ?ox87) (v := ?vx87) ?hix87 ?k1x87 ?k2x87 ?k3x87 ?k4x87 ?k5x87 ?k6x87 ?hQx87 ?hYx87 ?hSx87 ?restx87; (case hix87 => (simp only [List.getElem?_toArray, List.getElem?_cons_succ, List.getElem?_cons_zero]; exact rfl)); (case k1x87 => kernel_rfl); (case k2x87 => kernel_rfl); (case k3x87 => kernel_rfl); (case k4x87 => kernel_rfl); (case k5x87 => kernel_rfl); (case k6x87 => kernel_rfl); (case hSx87 => assumption); (case hYx87 => (refine Or.inl ⟨rfl, ?hyx87⟩; intro w hSw; (try dsimp only at hSw); go_simp; (try with_reducible rfl))); (case hQx87 => exact (fun _ _ _ h => h)); (try simp only [Act.put, List.setIfInBounds_toArray, List.set_cons_zero, List.set_cons_succ]))
              refine wpAnyL_ready (rs := [11]) (by kernel_rfl) (by simp) ?_
              refine AllReadyL.last (o := ?o11x88) ?hi11x88 ?he11x88 (fun K hK => ?_) AllReadyL.nil
              (case hi11x88 => (simp only [List.getElem?_toArray, List.getElem?_cons_succ, List.getElem?_cons_zero]; exact rfl))
              (case he11x88 => kernel_rfl)
              have c20 := HI.out.way.cell (11 + i); rw [wayC_lv hk8] at c20
              have z20 := HI.out.way.frozen (11 + i)
              go_simp
              (try clear hHeld)
              refine hK.out _ _ ?_
              clear hK K
              (try simp only [Act.put, List.setIfInBounds_toArray, List.set_cons_zero, List.set_cons_succ])
              (refine wpAnyL_done (by kernel_rfl) ?_ _)
              have hi12 := HI.out.setLv hk8 (Nat.le_refl _) hW (nk)
              have e8 := HE8.out
              rw [HM.out] at e8
              rw [e8, HE7.out] at hi12
              go_wp2_with fail
              go_roundw
              case rel => exact ⟨i + 1, by omega, by go_num, hi12⟩
              case measure => simp [intOf] <;> omega
        · obtain rfl : i = k := by omega
          go_wp2_with fail
          go_end0
          refine ⟨⟨_, rfl⟩, ?_, hI.fr⟩
          have hcl := HCL.out
          have := hI.way
          rw [← hcl] at this ⊢
          rw [wayC_congr (g := lvA (passW C L s))] at this
          · exact this
          · intro j _
            split
            · rfl
            · rw [lvA_pass, if_neg (by omega)]
              unfold lvA
              rw [List.getD_eq_getElem?_getD, List.getElem?_eq_none (by omega)]
              rfl
end Go.Proofs.YtjpobkmlcjbpiaaGreat
