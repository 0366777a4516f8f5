/- CONTRACTS of (water.Range).has and, where a truth fits, of (water.Ground).has. -/
import Derived.Test.YtjpobkmlcjbpiaaGreatYGround
import Derived.Test.YtjpobkmlcjbpiaaGreatYPassLaw
set_option linter.unusedVariables false
set_option linter.unusedSimpArgs false
namespace Go.Proofs.YtjpobkmlcjbpiaaGreat
open Go.RowKit Go.Proofs
attribute [local go_sem ↓] Go.wp_at_zero Go.wp_at_succ

theorem whas_c (lo hi n : Int) (w : World) :
    Calls Tryz.prog 55 #[.agg #[.int .i64 lo, .int .i64 hi], .int .i64 n] w fun e w' => e = .returned (.bool (inB n lo hi)) ∧ Below w.heap.size w w' := by
  have hal := (Below.refl w.heap.size w).alloc (Nat.le_refl _) (.cells #[.int .i64 lo, .int .i64 hi] 44)
  have hx := Blk.new w 44 #[.int .i64 lo, .int .i64 hi]
  have x0 := hx.cell 0; have x1 := hx.cell 1
  simp at x0 x1
  have HB := Lib.hid hal
  clear hal hx
  go_enter Tryz.func55, Tryz.ntmps55
  go_wp2_with (go_at_call 38; refine (wa_within_c _ _ _ _).mono ?_; rintro e w1 ⟨rfl, hb9⟩; have HB9 := Lib.hid hb9; clear hb9)
  go_ret
  exact ⟨rfl, below_tr HB.out HB9.out⟩
set_option linter.unusedSimpArgs false in
set_option maxRecDepth 100000 in
set_option maxHeartbeats 4000000 in
theorem has_c {CA DA LA RA : Option Addr} {cn cc dn dc ln lc rn rc : Nat} {sn0 sn1 so0 so1 melt tsn tso : Int} {C : List Cel} {D : List Dy} {L Rn : List Int} {w : World}
    (hC : Rd encCel 7 w CA cn C) (hD : Rd encDy 3 w DA dn D) (hL : Rd enc1 1 w LA ln L) (hR : Rd enc1 1 w RA rn Rn) (h1 : ln = cn) (h2 : rn = dn) (hcn : cn ≤ 100) (hdn : dn ≤ 100)
    (h3 : sn0 ≤ tsn ∧ tsn ≤ sn1) (h4 : so0 ≤ tso ∧ tso ≤ so1) (h5 : ∀ (i : Nat) c l, C[i]? = some c → L[i]? = some l → c.lo ≤ l ∧ l ≤ c.hi) (h6 : ∀ (i : Nat) d r, D[i]? = some d → Rn[i]? = some r → d.lo ≤ r ∧ r ≤ d.hi) :
    Calls Tryz.prog 22 #[.agg #[.slice CA cn cc, .int .i64 sn0, .int .i64 sn1, .int .i64 so0, .int .i64 so1, .int .i64 melt], .slice DA dn dc, .agg #[.int .i64 tsn, .int .i64 tso, .slice LA ln lc, .slice RA rn rc]] w fun e w' => e = .returned (.bool true) ∧ Below w.heap.size w w' := by
  subst h1 h2
  have i3 : inB tsn sn0 sn1 = true := by unfold inB; simp; omega
  have i4 : inB tso so0 so1 = true := by unfold inB; simp; omega
  have hs := whas_c sn0 sn1 tsn; have ho := whas_c so0 so1 tso
  rw [i3] at hs; rw [i4] at ho
  have HSN := Lib.hid hs; have HSO := Lib.hid ho
  have hal := ((Below.refl w.heap.size w).alloc (Nat.le_refl _) (.cells #[.slice CA ln cc, .int .i64 sn0, .int .i64 sn1, .int .i64 so0, .int .i64 so1, .int .i64 melt] 46)).alloc (by simp) (.cells #[.int .i64 tsn, .int .i64 tso, .slice LA ln lc, .slice RA rn rc] 50)
  have hg := (Blk.new w 46 #[.slice CA ln cc, .int .i64 sn0, .int .i64 sn1, .int .i64 so0, .int .i64 so1, .int .i64 melt]).alloc (.cells #[.int .i64 tsn, .int .i64 tso, .slice LA ln lc, .slice RA rn rc] 50)
  have ht := Blk.new (w.alloc (.cells #[.slice CA ln cc, .int .i64 sn0, .int .i64 sn1, .int .i64 so0, .int .i64 so1, .int .i64 melt] 46)) 50 #[.int .i64 tsn, .int .i64 tso, .slice LA ln lc, .slice RA rn rc]
  simp only [World.size_alloc] at ht
  have HB := Lib.hid hal; have HG := Lib.hid hg; have HT := Lib.hid ht; have HC := Lib.hid (hC.below hal); have HD := Lib.hid (hD.below hal); have HL := Lib.hid (hL.below hal); have HR := Lib.hid (hR.below hal)
  have H5 := Lib.hid h5; have H6 := Lib.hid h6
  clear hal hg ht hC hD hL hR hs ho i3 i4 h3 h4 h5 h6
  go_enter Tryz.func22, Tryz.ntmps22
  go_upto_region 1 with fail
  revert HB HG HT HC HD HL HR
  generalize World.alloc (World.alloc w _) _ = w1
  intro HB HG HT HC HD HL HR
  have g0 := HG.out.cell 0; have g1 := HG.out.cell 1; have g2 := HG.out.cell 2; have g3 := HG.out.cell 3; have g4 := HG.out.cell 4
  have t0 := HT.out.cell 0; have t1 := HT.out.cell 1; have t2 := HT.out.cell 2; have t3 := HT.out.cell 3
  simp at g0 g1 g2 g3 g4 t0 t1 t2 t3
  go_wp2_with fail
  go_at_call 55
  refine (HSN.out _).mono ?_
  rintro e w2 ⟨rfl, hb9⟩
  have t0 := below_tr HB.out hb9; have t1 := HG.out.below hb9 HG.out.lt; have t2 := HT.out.below hb9 HT.out.lt; have t3 := HC.out.below hb9; have t4 := HD.out.below hb9; have t5 := HL.out.below hb9; have t6 := HR.out.below hb9
  clear HB HG HT HC HD HL HR
  have HB := Lib.hid t0; have HG := Lib.hid t1; have HT := Lib.hid t2; have HC := Lib.hid t3; have HD := Lib.hid t4; have HL := Lib.hid t5; have HR := Lib.hid t6
  clear t0 t1 t2 t3 t4 t5 t6
  clear hb9 
  clear g0 g1 g2 g3 g4 t0 t1 t2 t3
  have g0 := HG.out.cell 0; have g1 := HG.out.cell 1; have g2 := HG.out.cell 2; have g3 := HG.out.cell 3; have g4 := HG.out.cell 4
  have t0 := HT.out.cell 0; have t1 := HT.out.cell 1; have t2 := HT.out.cell 2; have t3 := HT.out.cell 3
  simp at g0 g1 g2 g3 g4 t0 t1 t2 t3
  go_wp2_with fail
  go_at_call 55
  refine (HSO.out _).mono ?_
  rintro e w3 ⟨rfl, hb9⟩
  have t0 := below_tr HB.out hb9; have t1 := HG.out.below hb9 HG.out.lt; have t2 := HT.out.below hb9 HT.out.lt; have t3 := HC.out.below hb9; have t4 := HD.out.below hb9; have t5 := HL.out.below hb9; have t6 := HR.out.below hb9
  clear HB HG HT HC HD HL HR
  have HB := Lib.hid t0; have HG := Lib.hid t1; have HT := Lib.hid t2; have HC := Lib.hid t3; have HD := Lib.hid t4; have HL := Lib.hid t5; have HR := Lib.hid t6
  clear t0 t1 t2 t3 t4 t5 t6
  clear hb9 
  clear g0 g1 g2 g3 g4 t0 t1 t2 t3 HSN HSO
  have g0 := HG.out.cell 0
  simp at g0
  go_wp2_with fail
  go_loopw [7, 8, 45] (fun _ _ i wr => ∃ k : Nat, k ≤ ln ∧ i = .int .i64 (k : Int) ∧ Below w3.heap.size w3 wr) (fun _ _ i _ => ln - (intOf i).toNat)
  case atStart => exact ⟨0, Nat.zero_le _, rfl, Below.refl _ _⟩
  case round =>
    obtain ⟨k, hk, rfl, hb⟩ := hrel
    clear g0
    by_cases hlt : k < ln
    · obtain ⟨b, o, x, rfl, hbl, hx, y0, y1, y2, y3, y4, y5, y6⟩ := (HC.out.below hb).atCel hlt
      obtain ⟨lb, lo, l, rfl, hlb, hlx, z0⟩ := (HL.out.below hb).at1 hlt
      have h5 := H5.out k x l hx hlx
      have hin : inB l x.lo x.hi = true := by unfold inB; simp; omega
      have hh := whas_c x.lo x.hi l
      rw [hin] at hh
      have HH := Lib.hid hh
      have ht := HT.out.below hb HT.out.lt
      have hal := (Below.refl wr.heap.size wr).alloc (Nat.le_refl _) (.cells #[.int .i64 x.lo, .int .i64 x.hi, .int .i64 x.cap, .int .i64 x.keep, .int .i64 x.pass, .int .i64 x.to, .int .i64 x.pump] 90)
      have HX := Lib.hid (Blk.new wr 90 #[.int .i64 x.lo, .int .i64 x.hi, .int .i64 x.cap, .int .i64 x.keep, .int .i64 x.pass, .int .i64 x.to, .int .i64 x.pump])
      have HT6 := Lib.hid (ht.below hal ht.lt); have HB6 := Lib.hid (below_tr hb hal)
      have hz := (hal.cell (p := ⟨lb, lo + k, none⟩) hlb).trans z0
      clear hx hlx h5 hin hh ht hal hb
      go_upto_region 6 with fail
      clear y0 y1 y2 y3 y4 y5 y6 z0
      revert HX HT6 HB6 hz
      generalize World.alloc wr _ = w6
      intro HX HT6 HB6 hz
      have t2 := HT6.out.cell 2; have x0 := HX.out.cell 0; have x1 := HX.out.cell 1
      simp at t2 x0 x1
      have hk0 : (0 : Int) ≤ (k : Int) := by omega
      have hkl : (k : Int) < (ln : Int) := by omega
      have HB3 := Lib.hid HB6.out
      refine wp_region_till [7] (fun U => U.cell? ⟨wr.heap.size, 0, none⟩ = some (.int .i64 x.lo) ∧ U.cell? ⟨wr.heap.size, 1, none⟩ = some (.int .i64 x.hi) ∧ U.cell? ⟨w.heap.size + 1, 2, none⟩ = some (.slice (some ⟨lb, lo, none⟩) ln lc) ∧ U.cell? ⟨lb, lo + k, none⟩ = some (.int .i64 l)) (by kernel_rfl) (by exact ⟨x0, x1, t2, hz⟩) (fun hHeld => ?_)
      have hb9 := (Below.refl w6.heap.size w6).drew
      have t0 := below_tr HB6.out hb9
      clear HB6
      have HB6 := Lib.hid t0
      clear t0
      clear hb9
      revert hHeld HB6
      generalize w6.drew = w0
      intro hHeld HB6
      (refine wpAnyL_take (n := 1) (i := 0) (oi := ?ox1) (v := ?vx1) ?hix1 ?k1x1 ?k2x1 ?k3x1 ?k4x1 ?k5x1 ?k6x1 ?hQx1 ?hYx1 ?hSx1 ?restx1; (case hix1 => (simp only [List.getElem?_toArray, List.getElem?_cons_succ, List.getElem?_cons_zero]; exact rfl)); (case k1x1 => kernel_rfl); (case k2x1 => kernel_rfl); (case k3x1 => kernel_rfl); (case k4x1 => kernel_rfl); (case k5x1 => kernel_rfl); (case k6x1 => kernel_rfl); (case hSx1 => assumption); (case hYx1 => (refine Or.inl ⟨rfl, ?hyx1⟩; intro w hSw; (try dsimp only at hSw); go_simp; (try with_reducible rfl))); (case hQx1 => exact (fun _ _ _ h => h)); (try simp only [Act.put, List.setIfInBounds_toArray, List.set_cons_zero, List.set_cons_succ]))
      (refine wpAnyL_take (n := 0) (i := 1) (oi := ?ox2) (v := ?vx2) ?hix2 ?k1x2 ?k2x2 ?k3x2 ?k4x2 ?k5x2 ?k6x2 ?hQx2 ?hYx2 ?hSx2 ?restx2; (case hix2 => (simp only [List.getElem?_toArray, List.getElem?_cons_succ, List.getElem?_cons_zero]; exact rfl)); (case k1x2 => kernel_rfl); (case k2x2 => kernel_rfl); (case k3x2 => kernel_rfl); (case k4x2 => kernel_rfl); (case k5x2 => kernel_rfl); (case k6x2 => kernel_rfl); (case hSx2 => assumption); (case hYx2 => (refine Or.inl ⟨rfl, ?hyx2⟩; intro w hSw; (try dsimp only at hSw); go_simp; (try with_reducible rfl))); (case hQx2 => exact (fun _ _ _ h => h)); (try simp only [Act.put, List.setIfInBounds_toArray, List.set_cons_zero, List.set_cons_succ]))
      (refine wpAnyL_take (n := 3) (i := 2) (oi := ?ox3) (v := ?vx3) ?hix3 ?k1x3 ?k2x3 ?k3x3 ?k4x3 ?k5x3 ?k6x3 ?hQx3 ?hYx3 ?hSx3 ?restx3; (case hix3 => (simp only [List.getElem?_toArray, List.getElem?_cons_succ, List.getElem?_cons_zero]; exact rfl)); (case k1x3 => kernel_rfl); (case k2x3 => kernel_rfl); (case k3x3 => kernel_rfl); (case k4x3 => kernel_rfl); (case k5x3 => kernel_rfl); (case k6x3 => kernel_rfl); (case hSx3 => assumption); (case hYx3 => (refine Or.inl ⟨rfl, ?hyx3⟩; intro w hSw; (try dsimp only at hSw); go_simp; (try with_reducible rfl))); (case hQx3 => exact (fun _ _ _ h => h)); (try simp only [Act.put, List.setIfInBounds_toArray, List.set_cons_zero, List.set_cons_succ]))
      (refine wpAnyL_take (n := 2) (i := 3) (oi := ?ox4) (v := ?vx4) ?hix4 ?k1x4 ?k2x4 ?k3x4 ?k4x4 ?k5x4 ?k6x4 ?hQx4 ?hYx4 ?hSx4 ?restx4; (case hix4 => (simp only [List.getElem?_toArray, List.getElem?_cons_succ, List.getElem?_cons_zero]; exact rfl)); (case k1x4 => kernel_rfl); (case k2x4 => kernel_rfl); (case k3x4 => kernel_rfl); (case k4x4 => kernel_rfl); (case k5x4 => kernel_rfl); (case k6x4 => kernel_rfl); (case hSx4 => assumption); (case hYx4 => (refine Or.inl ⟨rfl, ?hyx4⟩; intro w hSw; (try dsimp only at hSw); go_simp; (try with_reducible rfl))); (case hQx4 => exact (fun _ _ _ h => h)); (try simp only [Act.put, List.setIfInBounds_toArray, List.set_cons_zero, List.set_cons_succ]))
      (refine wpAnyL_take (n := 2) (i := 4) (oi := ?ox5) (v := ?vx5) ?hix5 ?k1x5 ?k2x5 ?k3x5 ?k4x5 ?k5x5 ?k6x5 ?hQx5 ?hYx5 ?hSx5 ?restx5; (case hix5 => (simp only [List.getElem?_toArray, List.getElem?_cons_succ, List.getElem?_cons_zero]; exact rfl)); (case k1x5 => kernel_rfl); (case k2x5 => kernel_rfl); (case k3x5 => kernel_rfl); (case k4x5 => kernel_rfl); (case k5x5 => kernel_rfl); (case k6x5 => kernel_rfl); (case hSx5 => assumption); (case hYx5 => (refine Or.inl ⟨rfl, ?hyx5⟩; intro w hSw; (try dsimp only at hSw); go_simp; (try with_reducible rfl))); (case hQx5 => exact (fun _ _ _ h => h)); (try simp only [Act.put, List.setIfInBounds_toArray, List.set_cons_zero, List.set_cons_succ]))
      (refine wpAnyL_take (n := 1) (i := 5) (oi := ?ox6) (v := ?vx6) ?hix6 ?k1x6 ?k2x6 ?k3x6 ?k4x6 ?k5x6 ?k6x6 ?hQx6 ?hYx6 ?hSx6 ?restx6; (case hix6 => (simp only [List.getElem?_toArray, List.getElem?_cons_succ, List.getElem?_cons_zero]; exact rfl)); (case k1x6 => kernel_rfl); (case k2x6 => kernel_rfl); (case k3x6 => kernel_rfl); (case k4x6 => kernel_rfl); (case k5x6 => kernel_rfl); (case k6x6 => kernel_rfl); (case hSx6 => assumption); (case hYx6 => (refine Or.inl ⟨rfl, ?hyx6⟩; intro w hSw; (try dsimp only at hSw); go_simp; (try with_reducible rfl))); (case hQx6 => exact (fun _ _ _ h => h)); (try simp only [Act.put, List.setIfInBounds_toArray, List.set_cons_zero, List.set_cons_succ]))
      (refine wpAnyL_take (n := 0) (i := 6) (oi := ?ox7) (v := ?vx7) ?hix7 ?k1x7 ?k2x7 ?k3x7 ?k4x7 ?k5x7 ?k6x7 ?hQx7 ?hYx7 ?hSx7 ?restx7; (case hix7 => (simp only [List.getElem?_toArray, List.getElem?_cons_succ, List.getElem?_cons_zero]; exact rfl)); (case k1x7 => kernel_rfl); (case k2x7 => kernel_rfl); (case k3x7 => kernel_rfl); (case k4x7 => kernel_rfl); (case k5x7 => kernel_rfl); (case k6x7 => kernel_rfl); (case hSx7 => assumption); (case hYx7 => (refine Or.inl ⟨rfl, ?hyx7⟩; intro w hSw; (try dsimp only at hSw); go_simp; (try with_reducible rfl))); (case hQx7 => exact (fun _ _ _ h => h)); (try simp only [Act.put, List.setIfInBounds_toArray, List.set_cons_zero, List.set_cons_succ]))
      refine wpAnyL_ready (rs := [7]) (by kernel_rfl) (by simp) ?_
      refine AllReadyL.last (o := ?o7x8) ?hi7x8 ?he7x8 (fun K hK => ?_) AllReadyL.nil
      (case hi7x8 => (simp only [List.getElem?_toArray, List.getElem?_cons_succ, List.getElem?_cons_zero]; exact rfl))
      (case he7x8 => kernel_rfl)
      go_simp
      go_at_call 55
      refine (HH.out _).mono ?_
      rintro e w1 ⟨rfl, hb9⟩
      have t0 := below_tr HB6.out hb9
      clear HB6
      have HB6 := Lib.hid t0
      clear t0
      clear hb9 
      (try go_wp2_with fail)
      (try clear hHeld)
      refine hK.out _ _ ?_
      clear hK K
      (try simp only [Act.put, List.setIfInBounds_toArray, List.set_cons_zero, List.set_cons_succ])
      (refine wpAnyL_free (i := 8) (oi := ?ox9) (v := ?vx9) ?hix9 ?k1x9 ?k2x9 ?k3x9 ?k4x9 ?k5x9 ?hQx9 ?hYx9 ?restx9; (case hix9 => (simp only [List.getElem?_toArray, List.getElem?_cons_succ, List.getElem?_cons_zero]; exact rfl)); (case k1x9 => kernel_rfl); (case k2x9 => kernel_rfl); (case k3x9 => kernel_rfl); (case k4x9 => kernel_rfl); (case k5x9 => kernel_rfl); (case hYx9 => (refine Or.inl ⟨rfl, ?hyx9⟩; intro w hSw; (try dsimp only at hSw); go_simp; (try with_reducible rfl))); (case hQx9 => exact (fun _ _ _ h => h)); (try simp only [Act.put, List.setIfInBounds_toArray, List.set_cons_zero, List.set_cons_succ]))
      (refine wpAnyL_done (by kernel_rfl) ?_ _)
      go_wp2_with fail
      go_roundw
      case rel => exact ⟨k + 1, by omega, by go_num, HB6.out⟩
      case measure => simp [intOf] <;> omega
    · obtain rfl : k = ln := by omega
      have HBL := Lib.hid hb
      clear hb hlt
      go_wp2_with fail
      go_loopw [9, 10, 62] (fun _ _ i wr => ∃ k' : Nat, k' ≤ rn ∧ i = .int .i64 (k' : Int) ∧ Below w3.heap.size w3 wr) (fun _ _ i _ => rn - (intOf i).toNat)
      case atStart => exact ⟨0, Nat.zero_le _, rfl, HBL.out⟩
      case round =>
        obtain ⟨j, hj, rfl, hb⟩ := hrel
        clear HBL
        by_cases hlt : j < rn
        · obtain ⟨b, o, x, rfl, hbl, hx, y0, y1, y2⟩ := (HD.out.below hb).atDy hlt
          obtain ⟨lb, lo, l, rfl, hlb, hlx, z0⟩ := (HR.out.below hb).at1 hlt
          have h5 := H6.out j x l hx hlx
          have hin : inB l x.lo x.hi = true := by unfold inB; simp; omega
          have hh := whas_c x.lo x.hi l
          rw [hin] at hh
          have HH := Lib.hid hh
          have ht := HT.out.below hb HT.out.lt
          have hal := (Below.refl wr.heap.size wr).alloc (Nat.le_refl _) (.cells #[.int .i64 x.lo, .int .i64 x.hi, .int .i64 x.warm] 92)
          have HX := Lib.hid (Blk.new wr 92 #[.int .i64 x.lo, .int .i64 x.hi, .int .i64 x.warm])
          have HT6 := Lib.hid (ht.below hal ht.lt); have HB6 := Lib.hid (below_tr hb hal)
          have hz := (hal.cell (p := ⟨lb, lo + j, none⟩) hlb).trans z0
          clear hx hlx h5 hin hh ht hal hb
          go_upto_region 12 with fail
          clear y0 y1 y2 z0
          revert HX HT6 HB6 hz
          generalize World.alloc wr _ = w6
          intro HX HT6 HB6 hz
          have t2 := HT6.out.cell 3; have x0 := HX.out.cell 0; have x1 := HX.out.cell 1
          simp at t2 x0 x1
          have hk0 : (0 : Int) ≤ (j : Int) := by omega
          have hkl : (j : Int) < (rn : Int) := by omega
          refine wp_region_till [7] (fun U => U.cell? ⟨wr.heap.size, 0, none⟩ = some (.int .i64 x.lo) ∧ U.cell? ⟨wr.heap.size, 1, none⟩ = some (.int .i64 x.hi) ∧ U.cell? ⟨w.heap.size + 1, 3, none⟩ = some (.slice (some ⟨lb, lo, none⟩) rn rc) ∧ U.cell? ⟨lb, lo + j, none⟩ = some (.int .i64 l)) (by kernel_rfl) (by exact ⟨x0, x1, t2, hz⟩) (fun hHeld => ?_)
          have hb9 := (Below.refl w6.heap.size w6).drew
          have t0 := below_tr HB6.out hb9
          clear HB6
          have HB6 := Lib.hid t0
          clear t0
          clear hb9
          revert hHeld HB6
          generalize w6.drew = w0
          intro hHeld HB6
          (refine wpAnyL_take (n := 1) (i := 0) (oi := ?ox10) (v := ?vx10) ?hix10 ?k1x10 ?k2x10 ?k3x10 ?k4x10 ?k5x10 ?k6x10 ?hQx10 ?hYx10 ?hSx10 ?restx10; (case hix10 => (simp only [List.getElem?_toArray, List.getElem?_cons_succ, List.getElem?_cons_zero]; exact rfl)); (case k1x10 => kernel_rfl); (case k2x10 => kernel_rfl); (case k3x10 => kernel_rfl); (case k4x10 => kernel_rfl); (case k5x10 => kernel_rfl); (case k6x10 => kernel_rfl); (case hSx10 => assumption); (case hYx10 => (refine Or.inl ⟨rfl, ?hyx10⟩; intro w hSw; (try dsimp only at hSw); go_simp; (try with_reducible rfl))); (case hQx10 => exact (fun _ _ _ h => h)); (try simp only [Act.put, List.setIfInBounds_toArray, List.set_cons_zero, List.set_cons_succ]))
          (refine wpAnyL_take (n := 0) (i := 1) (oi := ?ox11) (v := ?vx11) ?hix11 ?k1x11 ?k2x11 ?k3x11 ?k4x11 ?k5x11 ?k6x11 ?hQx11 ?hYx11 ?hSx11 ?restx11; (case hix11 => (simp only [List.getElem?_toArray, List.getElem?_cons_succ, List.getElem?_cons_zero]; exact rfl)); (case k1x11 => kernel_rfl); (case k2x11 => kernel_rfl); (case k3x11 => kernel_rfl); (case k4x11 => kernel_rfl); (case k5x11 => kernel_rfl); (case k6x11 => kernel_rfl); (case hSx11 => assumption); (case hYx11 => (refine Or.inl ⟨rfl, ?hyx11⟩; intro w hSw; (try dsimp only at hSw); go_simp; (try with_reducible rfl))); (case hQx11 => exact (fun _ _ _ h => h)); (try simp only [Act.put, List.setIfInBounds_toArray, List.set_cons_zero, List.set_cons_succ]))
          (refine wpAnyL_take (n := 3) (i := 2) (oi := ?ox12) (v := ?vx12) ?hix12 ?k1x12 ?k2x12 ?k3x12 ?k4x12 ?k5x12 ?k6x12 ?hQx12 ?hYx12 ?hSx12 ?restx12; (case hix12 => (simp only [List.getElem?_toArray, List.getElem?_cons_succ, List.getElem?_cons_zero]; exact rfl)); (case k1x12 => kernel_rfl); (case k2x12 => kernel_rfl); (case k3x12 => kernel_rfl); (case k4x12 => kernel_rfl); (case k5x12 => kernel_rfl); (case k6x12 => kernel_rfl); (case hSx12 => assumption); (case hYx12 => (refine Or.inl ⟨rfl, ?hyx12⟩; intro w hSw; (try dsimp only at hSw); go_simp; (try with_reducible rfl))); (case hQx12 => exact (fun _ _ _ h => h)); (try simp only [Act.put, List.setIfInBounds_toArray, List.set_cons_zero, List.set_cons_succ]))
          (refine wpAnyL_take (n := 2) (i := 3) (oi := ?ox13) (v := ?vx13) ?hix13 ?k1x13 ?k2x13 ?k3x13 ?k4x13 ?k5x13 ?k6x13 ?hQx13 ?hYx13 ?hSx13 ?restx13; (case hix13 => (simp only [List.getElem?_toArray, List.getElem?_cons_succ, List.getElem?_cons_zero]; exact rfl)); (case k1x13 => kernel_rfl); (case k2x13 => kernel_rfl); (case k3x13 => kernel_rfl); (case k4x13 => kernel_rfl); (case k5x13 => kernel_rfl); (case k6x13 => kernel_rfl); (case hSx13 => assumption); (case hYx13 => (refine Or.inl ⟨rfl, ?hyx13⟩; intro w hSw; (try dsimp only at hSw); go_simp; (try with_reducible rfl))); (case hQx13 => exact (fun _ _ _ h => h)); (try simp only [Act.put, List.setIfInBounds_toArray, List.set_cons_zero, List.set_cons_succ]))
          (refine wpAnyL_take (n := 2) (i := 4) (oi := ?ox14) (v := ?vx14) ?hix14 ?k1x14 ?k2x14 ?k3x14 ?k4x14 ?k5x14 ?k6x14 ?hQx14 ?hYx14 ?hSx14 ?restx14; (case hix14 => (simp only [List.getElem?_toArray, List.getElem?_cons_succ, List.getElem?_cons_zero]; exact rfl)); (case k1x14 => kernel_rfl); (case k2x14 => kernel_rfl); (case k3x14 => kernel_rfl); (case k4x14 => kernel_rfl); (case k5x14 => kernel_rfl); (case k6x14 => kernel_rfl); (case hSx14 => assumption); (case hYx14 => (refine Or.inl ⟨rfl, ?hyx14⟩; intro w hSw; (try dsimp only at hSw); go_simp; (try with_reducible rfl))); (case hQx14 => exact (fun _ _ _ h => h)); (try simp only [Act.put, List.setIfInBounds_toArray, List.set_cons_zero, List.set_cons_succ]))
          (refine wpAnyL_take (n := 1) (i := 5) (oi := ?ox15) (v := ?vx15) ?hix15 ?k1x15 ?k2x15 ?k3x15 ?k4x15 ?k5x15 ?k6x15 ?hQx15 ?hYx15 ?hSx15 ?restx15; (case hix15 => (simp only [List.getElem?_toArray, List.getElem?_cons_succ, List.getElem?_cons_zero]; exact rfl)); (case k1x15 => kernel_rfl); (case k2x15 => kernel_rfl); (case k3x15 => kernel_rfl); (case k4x15 => kernel_rfl); (case k5x15 => kernel_rfl); (case k6x15 => kernel_rfl); (case hSx15 => assumption); (case hYx15 => (refine Or.inl ⟨rfl, ?hyx15⟩; intro w hSw; (try dsimp only at hSw); go_simp; (try with_reducible rfl))); (case hQx15 => exact (fun _ _ _ h => h)); (try simp only [Act.put, List.setIfInBounds_toArray, List.set_cons_zero, List.set_cons_succ]))
          (refine wpAnyL_take (n := 0) (i := 6) (oi := ?ox16) (v := ?vx16) ?hix16 ?k1x16 ?k2x16 ?k3x16 ?k4x16 ?k5x16 ?k6x16 ?hQx16 ?hYx16 ?hSx16 ?restx16; (case hix16 => (simp only [List.getElem?_toArray, List.getElem?_cons_succ, List.getElem?_cons_zero]; exact rfl)); (case k1x16 => kernel_rfl); (case k2x16 => kernel_rfl); (case k3x16 => kernel_rfl); (case k4x16 => kernel_rfl); (case k5x16 => kernel_rfl); (case k6x16 => kernel_rfl); (case hSx16 => assumption); (case hYx16 => (refine Or.inl ⟨rfl, ?hyx16⟩; intro w hSw; (try dsimp only at hSw); go_simp; (try with_reducible rfl))); (case hQx16 => exact (fun _ _ _ h => h)); (try simp only [Act.put, List.setIfInBounds_toArray, List.set_cons_zero, List.set_cons_succ]))
          refine wpAnyL_ready (rs := [7]) (by kernel_rfl) (by simp) ?_
          refine AllReadyL.last (o := ?o7x17) ?hi7x17 ?he7x17 (fun K hK => ?_) AllReadyL.nil
          (case hi7x17 => (simp only [List.getElem?_toArray, List.getElem?_cons_succ, List.getElem?_cons_zero]; exact rfl))
          (case he7x17 => kernel_rfl)
          go_simp
          go_at_call 55
          refine (HH.out _).mono ?_
          rintro e w1 ⟨rfl, hb9⟩
          have t0 := below_tr HB6.out hb9
          clear HB6
          have HB6 := Lib.hid t0
          clear t0
          clear hb9 
          (try go_wp2_with fail)
          (try clear hHeld)
          refine hK.out _ _ ?_
          clear hK K
          (try simp only [Act.put, List.setIfInBounds_toArray, List.set_cons_zero, List.set_cons_succ])
          (refine wpAnyL_free (i := 8) (oi := ?ox18) (v := ?vx18) ?hix18 ?k1x18 ?k2x18 ?k3x18 ?k4x18 ?k5x18 ?hQx18 ?hYx18 ?restx18; (case hix18 => (simp only [List.getElem?_toArray, List.getElem?_cons_succ, List.getElem?_cons_zero]; exact rfl)); (case k1x18 => kernel_rfl); (case k2x18 => kernel_rfl); (case k3x18 => kernel_rfl); (case k4x18 => kernel_rfl); (case k5x18 => kernel_rfl); (case hYx18 => (refine Or.inl ⟨rfl, ?hyx18⟩; intro w hSw; (try dsimp only at hSw); go_simp; (try with_reducible rfl))); (case hQx18 => exact (fun _ _ _ h => h)); (try simp only [Act.put, List.setIfInBounds_toArray, List.set_cons_zero, List.set_cons_succ]))
          (refine wpAnyL_done (by kernel_rfl) ?_ _)
          go_wp2_with fail
          go_roundw
          case rel => exact ⟨j + 1, by omega, by go_num, HB6.out⟩
          case measure => simp [intOf] <;> omega
        · obtain rfl : j = rn := by omega
          have HBL := Lib.hid hb
          clear hb
          go_wp2_with fail
          go_ret
          exact ⟨rfl, below_tr HB.out HBL.out⟩
end Go.Proofs.YtjpobkmlcjbpiaaGreat
