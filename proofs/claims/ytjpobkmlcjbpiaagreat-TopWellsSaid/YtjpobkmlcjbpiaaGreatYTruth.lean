/- CONTRACT of (water.choice).truth at the lesser ends (written by wip/mkytruth.py). -/
import Derived.Test.YtjpobkmlcjbpiaaGreatYKnown
import Derived.Test.YtjpobkmlcjbpiaaGreatYNext
set_option linter.unusedVariables false
set_option linter.unusedSimpArgs false
namespace Go.Proofs.YtjpobkmlcjbpiaaGreat
open Go.RowKit Go.Proofs
attribute [local go_sem ↓] Go.wp_at_zero Go.wp_at_succ

theorem infoNu : (Tryz.prog.info? 3).map (fun i => (i.zero, i.size, i.bytes)) = some (some (.int .i64 0), 1, 8) := by kernel_rfl
/-- the truth that is made, and its two rows -/
structure TrI (w : World) (GC : Array Value) (B7 : Nat) (sn so : Int) (v1 v2 u1 u2 : Value) (xs ys : List Int) (W : World) : Prop where
  tb : Blk W B7 50 #[.int .i64 sn, .int .i64 so, u1, u2]
  ch : Blk W w.heap.size 119 #[.func (.func 78) #[] #[]]
  gr : Blk W (w.heap.size + 1) 46 GC
  rs : Blk W (w.heap.size + 1 + 1) 50 #[.int .i64 0, .int .i64 0, .slice none 0 0, .slice none 0 0]
  o1 : W.ownsRow w.heap.size 3 1 v1 xs.length (xs.flatMap enc1)
  o2 : W.ownsRow w.heap.size 3 1 v2 ys.length (ys.flatMap enc1)
  ap : ∀ g, v1.ownBlock = some g → v2.ownBlock ≠ some g
  bel : Below w.heap.size w W
  lo : w.heap.size + 1 + 1 < B7
section
variable {w : World} {GC : Array Value} {B7 : Nat} {sn so : Int} {v1 v2 u1 u2 : Value} {xs ys : List Int} {W W' : World}
theorem TrI.below (h : TrI w GC B7 sn so v1 v2 u1 u2 xs ys W) (hb : Below W.heap.size W W') : TrI w GC B7 sn so v1 v2 u1 u2 xs ys W' :=
  ⟨h.tb.below hb h.tb.lt, h.ch.below hb h.ch.lt, h.gr.below hb h.gr.lt, h.rs.below hb h.rs.lt, own_mono h.o1 hb, own_mono h.o2 hb, h.ap, h.bel.trans (hb.mono h.bel.size), h.lo⟩
theorem TrI.grow1 (h : TrI w GC B7 sn so v1 v2 u1 u2 xs ys W) {n : Nat} (hn : xs.length = n) {gg c : Nat} {y : Int} (hown : W'.ownsRow w.heap.size 3 1 (.slice (some ⟨gg, 0, none⟩) (n + 1) c) (n + 1) (xs.flatMap enc1 ++ [.int .i64 y])) (hg : W.grownBy W' v1.ownBlock) (hat : v1.ownBlock = some gg ∨ gg = W.heap.size) :
    TrI w GC B7 sn so (.slice (some ⟨gg, 0, none⟩) (n + 1) c) v2 u1 u2 (xs ++ [y]) ys W' := by
  subst hn
  have kb : ∀ {g : Nat} {t : TypeId} {cs : Array Value}, Blk W g t cs → t ≠ 3 → Blk W' g t cs := fun hb ht => hb.grown hg (fun e => own_blk_ne h.o1 hb (fun e' => ht e'.symm) e.symm)
  refine ⟨kb h.tb (by decide), kb h.ch (by decide), kb h.gr (by decide), kb h.rs (by decide), by simpa [enc1] using hown, own_kept h.o2 hg (fun g h2 h1 => h.ap g h1 h2), fun g hgg e => ?_, h.bel.grown hg h.bel.size (fun g hg => (h.o1.lt g hg).1), h.lo⟩
  obtain rfl : gg = g := by simpa [Value.ownBlock] using hgg
  rcases hat with ha | ha
  · exact h.ap gg ha e
  · have := (h.o2.lt gg e).2; omega
theorem TrI.grow2 (h : TrI w GC B7 sn so v1 v2 u1 u2 xs ys W) {n : Nat} (hn : ys.length = n) {gg c : Nat} {y : Int} (hown : W'.ownsRow w.heap.size 3 1 (.slice (some ⟨gg, 0, none⟩) (n + 1) c) (n + 1) (ys.flatMap enc1 ++ [.int .i64 y])) (hg : W.grownBy W' v2.ownBlock) (hat : v2.ownBlock = some gg ∨ gg = W.heap.size) :
    TrI w GC B7 sn so v1 (.slice (some ⟨gg, 0, none⟩) (n + 1) c) u1 u2 xs (ys ++ [y]) W' := by
  subst hn
  have kb : ∀ {g : Nat} {t : TypeId} {cs : Array Value}, Blk W g t cs → t ≠ 3 → Blk W' g t cs := fun hb ht => hb.grown hg (fun e => own_blk_ne h.o2 hb (fun e' => ht e'.symm) e.symm)
  refine ⟨kb h.tb (by decide), kb h.ch (by decide), kb h.gr (by decide), kb h.rs (by decide), own_kept h.o1 hg (fun g h1 h2 => h.ap g h1 h2), by simpa [enc1] using hown, fun g hgg e => ?_, h.bel.grown hg h.bel.size (fun g hg => (h.o2.lt g hg).1), h.lo⟩
  obtain rfl : gg = g := by simpa [Value.ownBlock] using e
  rcases hat with ha | ha
  · exact h.ap gg hgg ha
  · have := (h.o1.lt gg hgg).2; omega
theorem TrI.set1 (h : TrI w GC B7 sn so v1 v2 u1 u2 xs ys W) (u : Value) : TrI w GC B7 sn so v1 v2 u u2 xs ys (W.setCell ⟨B7, 2, none⟩ u) := by
  have hf : Fr (fun g => g = B7) W (W.setCell ⟨B7, 2, none⟩ u) := Fr.setAt (E := fun g => g = B7) (Fr.refl _ _) (p := ⟨B7, 2, none⟩) (.inl rfl) _
  have hlo := h.lo
  exact ⟨by simpa using h.tb.set_ 2 u, hf.blk h.ch (by omega), hf.blk h.gr (by omega), hf.blk h.rs (by omega), hf.row h.o1 (fun g hg e => by subst e; exact own_blk_ne h.o1 h.tb (by decide) hg), hf.row h.o2 (fun g hg e => by subst e; exact own_blk_ne h.o2 h.tb (by decide) hg), h.ap, h.bel.setCell (p := ⟨B7, 2, none⟩) (by dsimp only; omega) _, h.lo⟩
theorem TrI.set2 (h : TrI w GC B7 sn so v1 v2 u1 u2 xs ys W) (u : Value) : TrI w GC B7 sn so v1 v2 u1 u xs ys (W.setCell ⟨B7, 3, none⟩ u) := by
  have hf : Fr (fun g => g = B7) W (W.setCell ⟨B7, 3, none⟩ u) := Fr.setAt (E := fun g => g = B7) (Fr.refl _ _) (p := ⟨B7, 3, none⟩) (.inl rfl) _
  have hlo := h.lo
  exact ⟨by simpa using h.tb.set_ 3 u, hf.blk h.ch (by omega), hf.blk h.gr (by omega), hf.blk h.rs (by omega), hf.row h.o1 (fun g hg e => by subst e; exact own_blk_ne h.o1 h.tb (by decide) hg), hf.row h.o2 (fun g hg e => by subst e; exact own_blk_ne h.o2 h.tb (by decide) hg), h.ap, h.bel.setCell (p := ⟨B7, 3, none⟩) (by dsimp only; omega) _, h.lo⟩
end
set_option linter.unusedSimpArgs false in
set_option maxRecDepth 100000 in
set_option maxHeartbeats 4000000 in
theorem wtruth_c {CA DA : Option Addr} {cn cc dn dc : Nat} {sn0 sn1 so0 so1 melt : Int} {C : List Cel} {D : List Dy} {w : World} (hC : Rd encCel 7 w CA cn C) (hD : Rd encDy 3 w DA dn D) (hcn : cn ≤ 100) (hdn : dn ≤ 100) :
    Calls Tryz.prog 43 #[.agg #[.func (.func 78) #[] #[]], .agg #[.slice CA cn cc, .int .i64 sn0, .int .i64 sn1, .int .i64 so0, .int .i64 so1, .int .i64 melt], .slice DA dn dc] w fun e w' =>
      ∃ LA lc RA rc, e = .returned (.agg #[.int .i64 sn0, .int .i64 so0, .slice LA cn lc, .slice RA dn rc]) ∧ Rd enc1 1 w' LA cn (C.map (·.lo)) ∧ Rd enc1 1 w' RA dn (D.map (·.lo)) ∧ Below w.heap.size w w' := by
  have hlc := hC.len; have hld := hD.len
  have hal := (((Below.refl w.heap.size w).alloc (Nat.le_refl _) (.cells #[.func (.func 78) #[] #[]] 119)).alloc (by simp) (.cells #[.slice CA cn cc, .int .i64 sn0, .int .i64 sn1, .int .i64 so0, .int .i64 so1, .int .i64 melt] 46)).alloc (by simp; omega) (.cells #[.int .i64 0, .int .i64 0, .slice none 0 0, .slice none 0 0] 50)
  have b0 := ((Blk.new w 119 #[.func (.func 78) #[] #[]]).alloc (.cells #[.slice CA cn cc, .int .i64 sn0, .int .i64 sn1, .int .i64 so0, .int .i64 so1, .int .i64 melt] 46)).alloc (.cells #[.int .i64 0, .int .i64 0, .slice none 0 0, .slice none 0 0] 50)
  have b1 := (Blk.new (w.alloc (.cells #[.func (.func 78) #[] #[]] 119)) 46 #[.slice CA cn cc, .int .i64 sn0, .int .i64 sn1, .int .i64 so0, .int .i64 so1, .int .i64 melt]).alloc (.cells #[.int .i64 0, .int .i64 0, .slice none 0 0, .slice none 0 0] 50)
  have b2 := Blk.new ((w.alloc (.cells #[.func (.func 78) #[] #[]] 119)).alloc (.cells #[.slice CA cn cc, .int .i64 sn0, .int .i64 sn1, .int .i64 so0, .int .i64 so1, .int .i64 melt] 46)) 50 #[.int .i64 0, .int .i64 0, .slice none 0 0, .slice none 0 0]
  simp only [World.size_alloc] at b1 b2
  have HB := Lib.hid hal; have H0 := Lib.hid b0; have H1 := Lib.hid b1; have H2 := Lib.hid b2; have HC := Lib.hid hC; have HD := Lib.hid hD; have HLC := Lib.hid hlc; have HLD := Lib.hid hld
  clear hal b0 b1 b2 hC hD hlc hld
  obtain ⟨j0, hj0, hy0, hy1, hy2⟩ := info_parts infoNu
  have HJ0 := Lib.hid hj0; have HY0 := Lib.hid hy0; have HY1 := Lib.hid hy1; have HY2 := Lib.hid hy2
  clear hj0 hy0 hy1 hy2
  go_enter Tryz.func43, Tryz.ntmps43
  go_upto_region 1 with fail
  revert HB H0 H1 H2
  generalize World.alloc (World.alloc (World.alloc w _) _) _ = w1
  intro HB H0 H1 H2
  go_cut [7] (fun pv wx => ∃ B7, pv = .pointer (some ⟨B7, 0, none⟩) ∧ TrI w #[.slice CA cn cc, .int .i64 sn0, .int .i64 sn1, .int .i64 so0, .int .i64 so1, .int .i64 melt] B7 sn0 so0 (.slice none 0 0) (.slice none 0 0) (.slice none 0 0) (.slice none 0 0) [] [] wx)
  case first =>
    have g1 := H1.out.cell 1; have g2 := H1.out.cell 2; have g3 := H1.out.cell 3; have g4 := H1.out.cell 4; have c0 := H0.out.cell 0
    simp at g1 g2 g3 g4 c0
    refine wp_region_till [12] (fun U => U.cell? ⟨w.heap.size, 0, none⟩ = some (.func (.func 78) #[] #[]) ∧ U.cell? ⟨w.heap.size + 1, 1, none⟩ = some (.int .i64 sn0) ∧ U.cell? ⟨w.heap.size + 1, 2, none⟩ = some (.int .i64 sn1) ∧ U.cell? ⟨w.heap.size + 1, 3, none⟩ = some (.int .i64 so0) ∧ U.cell? ⟨w.heap.size + 1, 4, none⟩ = some (.int .i64 so1)) (by kernel_rfl) (by exact ⟨c0, g1, g2, g3, g4⟩) (fun hHeld => ?_)
    have hb9 := (Below.refl w1.heap.size w1).drew
    have t0 := below_tr HB.out hb9; have t1 := H0.out.below hb9 H0.out.lt; have t2 := H1.out.below hb9 H1.out.lt; have t3 := H2.out.below hb9 H2.out.lt
    clear HB H0 H1 H2
    have HB := Lib.hid t0; have H0 := Lib.hid t1; have H1 := Lib.hid t2; have H2 := Lib.hid t3
    clear t0 t1 t2 t3
    clear hb9
    revert hHeld HB H0 H1 H2
    generalize w1.drew = w0
    intro hHeld HB H0 H1 H2
    (refine wpAnyL_take (n := 0) (i := 0) (oi := ?ox1) (v := ?vx1) ?hix1 ?k1x1 ?k2x1 ?k3x1 ?k4x1 ?k5x1 ?k6x1 ?hQx1 ?hYx1 ?hSx1 ?restx1; (case hix1 => (simp only [List.getElem?_toArray, List.getElem?_cons_succ, List.getElem?_cons_zero]; exact rfl)); (case k1x1 => kernel_rfl); (case k2x1 => kernel_rfl); (case k3x1 => kernel_rfl); (case k4x1 => kernel_rfl); (case k5x1 => kernel_rfl); (case k6x1 => kernel_rfl); (case hSx1 => assumption); (case hYx1 => (refine Or.inl ⟨rfl, ?hyx1⟩; intro w hSw; (try dsimp only at hSw); go_simp; (try with_reducible rfl))); (case hQx1 => exact (fun _ _ _ h => h)); (try simp only [Act.put, List.setIfInBounds_toArray, List.set_cons_zero, List.set_cons_succ]))
    (refine wpAnyL_take (n := 0) (i := 1) (oi := ?ox2) (v := ?vx2) ?hix2 ?k1x2 ?k2x2 ?k3x2 ?k4x2 ?k5x2 ?k6x2 ?hQx2 ?hYx2 ?hSx2 ?restx2; (case hix2 => (simp only [List.getElem?_toArray, List.getElem?_cons_succ, List.getElem?_cons_zero]; exact rfl)); (case k1x2 => kernel_rfl); (case k2x2 => kernel_rfl); (case k3x2 => kernel_rfl); (case k4x2 => kernel_rfl); (case k5x2 => kernel_rfl); (case k6x2 => kernel_rfl); (case hSx2 => assumption); (case hYx2 => (refine Or.inl ⟨rfl, ?hyx2⟩; intro w hSw; (try dsimp only at hSw); go_simp; (try with_reducible rfl))); (case hQx2 => exact (fun _ _ _ h => h)); (try simp only [Act.put, List.setIfInBounds_toArray, List.set_cons_zero, List.set_cons_succ]))
    (refine wpAnyL_take (n := 0) (i := 2) (oi := ?ox3) (v := ?vx3) ?hix3 ?k1x3 ?k2x3 ?k3x3 ?k4x3 ?k5x3 ?k6x3 ?hQx3 ?hYx3 ?hSx3 ?restx3; (case hix3 => (simp only [List.getElem?_toArray, List.getElem?_cons_succ, List.getElem?_cons_zero]; exact rfl)); (case k1x3 => kernel_rfl); (case k2x3 => kernel_rfl); (case k3x3 => kernel_rfl); (case k4x3 => kernel_rfl); (case k5x3 => kernel_rfl); (case k6x3 => kernel_rfl); (case hSx3 => assumption); (case hYx3 => (refine Or.inl ⟨rfl, ?hyx3⟩; intro w hSw; (try dsimp only at hSw); go_simp; (try with_reducible rfl))); (case hQx3 => exact (fun _ _ _ h => h)); (try simp only [Act.put, List.setIfInBounds_toArray, List.set_cons_zero, List.set_cons_succ]))
    (refine wpAnyL_take (n := 0) (i := 3) (oi := ?ox4) (v := ?vx4) ?hix4 ?k1x4 ?k2x4 ?k3x4 ?k4x4 ?k5x4 ?k6x4 ?hQx4 ?hYx4 ?hSx4 ?restx4; (case hix4 => (simp only [List.getElem?_toArray, List.getElem?_cons_succ, List.getElem?_cons_zero]; exact rfl)); (case k1x4 => kernel_rfl); (case k2x4 => kernel_rfl); (case k3x4 => kernel_rfl); (case k4x4 => kernel_rfl); (case k5x4 => kernel_rfl); (case k6x4 => kernel_rfl); (case hSx4 => assumption); (case hYx4 => (refine Or.inl ⟨rfl, ?hyx4⟩; intro w hSw; (try dsimp only at hSw); go_simp; (try with_reducible rfl))); (case hQx4 => exact (fun _ _ _ h => h)); (try simp only [Act.put, List.setIfInBounds_toArray, List.set_cons_zero, List.set_cons_succ]))
    (refine wpAnyL_take (n := 0) (i := 5) (oi := ?ox5) (v := ?vx5) ?hix5 ?k1x5 ?k2x5 ?k3x5 ?k4x5 ?k5x5 ?k6x5 ?hQx5 ?hYx5 ?hSx5 ?restx5; (case hix5 => (simp only [List.getElem?_toArray, List.getElem?_cons_succ, List.getElem?_cons_zero]; exact rfl)); (case k1x5 => kernel_rfl); (case k2x5 => kernel_rfl); (case k3x5 => kernel_rfl); (case k4x5 => kernel_rfl); (case k5x5 => kernel_rfl); (case k6x5 => kernel_rfl); (case hSx5 => assumption); (case hYx5 => (refine Or.inl ⟨rfl, ?hyx5⟩; intro w hSw; (try dsimp only at hSw); go_simp; (try with_reducible rfl))); (case hQx5 => exact (fun _ _ _ h => h)); (try simp only [Act.put, List.setIfInBounds_toArray, List.set_cons_zero, List.set_cons_succ]))
    (refine wpAnyL_take (n := 0) (i := 6) (oi := ?ox6) (v := ?vx6) ?hix6 ?k1x6 ?k2x6 ?k3x6 ?k4x6 ?k5x6 ?k6x6 ?hQx6 ?hYx6 ?hSx6 ?restx6; (case hix6 => (simp only [List.getElem?_toArray, List.getElem?_cons_succ, List.getElem?_cons_zero]; exact rfl)); (case k1x6 => kernel_rfl); (case k2x6 => kernel_rfl); (case k3x6 => kernel_rfl); (case k4x6 => kernel_rfl); (case k5x6 => kernel_rfl); (case k6x6 => kernel_rfl); (case hSx6 => assumption); (case hYx6 => (refine Or.inl ⟨rfl, ?hyx6⟩; intro w hSw; (try dsimp only at hSw); go_simp; (try with_reducible rfl))); (case hQx6 => exact (fun _ _ _ h => h)); (try simp only [Act.put, List.setIfInBounds_toArray, List.set_cons_zero, List.set_cons_succ]))
    (refine wpAnyL_take (n := 0) (i := 7) (oi := ?ox7) (v := ?vx7) ?hix7 ?k1x7 ?k2x7 ?k3x7 ?k4x7 ?k5x7 ?k6x7 ?hQx7 ?hYx7 ?hSx7 ?restx7; (case hix7 => (simp only [List.getElem?_toArray, List.getElem?_cons_succ, List.getElem?_cons_zero]; exact rfl)); (case k1x7 => kernel_rfl); (case k2x7 => kernel_rfl); (case k3x7 => kernel_rfl); (case k4x7 => kernel_rfl); (case k5x7 => kernel_rfl); (case k6x7 => kernel_rfl); (case hSx7 => assumption); (case hYx7 => (refine Or.inl ⟨rfl, ?hyx7⟩; intro w hSw; (try dsimp only at hSw); go_simp; (try with_reducible rfl))); (case hQx7 => exact (fun _ _ _ h => h)); (try simp only [Act.put, List.setIfInBounds_toArray, List.set_cons_zero, List.set_cons_succ]))
    (refine wpAnyL_take (n := 0) (i := 8) (oi := ?ox8) (v := ?vx8) ?hix8 ?k1x8 ?k2x8 ?k3x8 ?k4x8 ?k5x8 ?k6x8 ?hQx8 ?hYx8 ?hSx8 ?restx8; (case hix8 => (simp only [List.getElem?_toArray, List.getElem?_cons_succ, List.getElem?_cons_zero]; exact rfl)); (case k1x8 => kernel_rfl); (case k2x8 => kernel_rfl); (case k3x8 => kernel_rfl); (case k4x8 => kernel_rfl); (case k5x8 => kernel_rfl); (case k6x8 => kernel_rfl); (case hSx8 => assumption); (case hYx8 => (refine Or.inl ⟨rfl, ?hyx8⟩; intro w hSw; (try dsimp only at hSw); go_simp; (try with_reducible rfl))); (case hQx8 => exact (fun _ _ _ h => h)); (try simp only [Act.put, List.setIfInBounds_toArray, List.set_cons_zero, List.set_cons_succ]))
    refine wpAnyL_ready (rs := [4, 11]) (by kernel_rfl) (by simp) ?_
    refine AllReadyL.cons (o := ?o4x9) ?hi4x9 (fun K hK => ?_) (AllReadyL.cons (o := ?o11x9) ?hi11x9 (fun K hK => ?_) AllReadyL.nil)
    (case hi4x9 => (simp only [List.getElem?_toArray, List.getElem?_cons_succ, List.getElem?_cons_zero]; exact rfl))
    (case hi11x9 => (simp only [List.getElem?_toArray, List.getElem?_cons_succ, List.getElem?_cons_zero]; exact rfl))
    · skip
      go_simp
      go_at_call 78
      refine (wlow_c _ _ _).mono ?_
      rintro e w1 ⟨rfl, hb9⟩
      have t0 := below_tr HB.out hb9; have t1 := H0.out.below hb9 H0.out.lt; have t2 := H1.out.below hb9 H1.out.lt; have t3 := H2.out.below hb9 H2.out.lt
      clear HB H0 H1 H2
      have HB := Lib.hid t0; have H0 := Lib.hid t1; have H1 := Lib.hid t2; have H2 := Lib.hid t3
      clear t0 t1 t2 t3
      clear hb9 
      (try go_wp2_with fail)
      (try clear hHeld)
      refine hK.out _ _ (by (try dsimp only); exact ⟨by simpa using H0.out.cell 0, by simpa using H1.out.cell 1, by simpa using H1.out.cell 2, by simpa using H1.out.cell 3, by simpa using H1.out.cell 4⟩) (fun hHeld => ?_)
      clear hK K
      (try simp only [Act.put, List.setIfInBounds_toArray, List.set_cons_zero, List.set_cons_succ])
      refine wpAnyL_ready (rs := [9, 11]) (by kernel_rfl) (by simp) ?_
      refine AllReadyL.cons (o := ?o9x10) ?hi9x10 (fun K hK => ?_) (AllReadyL.cons (o := ?o11x10) ?hi11x10 (fun K hK => ?_) AllReadyL.nil)
      (case hi9x10 => (simp only [List.getElem?_toArray, List.getElem?_cons_succ, List.getElem?_cons_zero]; exact rfl))
      (case hi11x10 => (simp only [List.getElem?_toArray, List.getElem?_cons_succ, List.getElem?_cons_zero]; exact rfl))
      · skip
        go_simp
        go_at_call 78
        refine (wlow_c _ _ _).mono ?_
        rintro e w2 ⟨rfl, hb9⟩
        have t0 := below_tr HB.out hb9; have t1 := H0.out.below hb9 H0.out.lt; have t2 := H1.out.below hb9 H1.out.lt; have t3 := H2.out.below hb9 H2.out.lt
        clear HB H0 H1 H2
        have HB := Lib.hid t0; have H0 := Lib.hid t1; have H1 := Lib.hid t2; have H2 := Lib.hid t3
        clear t0 t1 t2 t3
        clear hb9 
        (try go_wp2_with fail)
        (try clear hHeld)
        refine hK.out _ _ (by (try dsimp only); exact ⟨by simpa using H0.out.cell 0, by simpa using H1.out.cell 1, by simpa using H1.out.cell 2, by simpa using H1.out.cell 3, by simpa using H1.out.cell 4⟩) (fun hHeld => ?_)
        clear hK K
        (try simp only [Act.put, List.setIfInBounds_toArray, List.set_cons_zero, List.set_cons_succ])
        (refine wpAnyL_take (n := 0) (i := 10) (oi := ?ox11) (v := ?vx11) ?hix11 ?k1x11 ?k2x11 ?k3x11 ?k4x11 ?k5x11 ?k6x11 ?hQx11 ?hYx11 ?hSx11 ?restx11; (case hix11 => (simp only [List.getElem?_toArray, List.getElem?_cons_succ, List.getElem?_cons_zero]; exact rfl)); (case k1x11 => kernel_rfl); (case k2x11 => kernel_rfl); (case k3x11 => kernel_rfl); (case k4x11 => kernel_rfl); (case k5x11 => kernel_rfl); (case k6x11 => kernel_rfl); (case hSx11 => assumption); (case hYx11 => (refine Or.inl ⟨rfl, ?hyx11⟩; intro w hSw; (try dsimp only at hSw); go_simp; (try with_reducible rfl))); (case hQx11 => exact (fun _ _ _ h => h)); (try simp only [Act.put, List.setIfInBounds_toArray, List.set_cons_zero, List.set_cons_succ]))
        refine wpAnyL_ready (rs := [11]) (by kernel_rfl) (by simp) ?_
        refine AllReadyL.cons (o := ?o11x12) ?hi11x12 (fun K hK => ?_) AllReadyL.nil
        (case hi11x12 => (simp only [List.getElem?_toArray, List.getElem?_cons_succ, List.getElem?_cons_zero]; exact rfl))
        go_simp
        have hb9 := (Below.refl w2.heap.size w2).alloc (Nat.le_refl _) (.cells #[.int .i64 0, .int .i64 0, .slice none 0 0, .slice none 0 0] 50)
        have hn := Blk.new w2 50 #[.int .i64 0, .int .i64 0, .slice none 0 0, .slice none 0 0]
        have HGA := Lib.hid (show w.heap.size + 1 + 1 < w2.heap.size from H2.out.lt)
        have t0 := below_tr HB.out hb9; have t1 := H0.out.below hb9 H0.out.lt; have t2 := H1.out.below hb9 H1.out.lt; have t3 := H2.out.below hb9 H2.out.lt
        clear HB H0 H1 H2
        have HB := Lib.hid t0; have H0 := Lib.hid t1; have H1 := Lib.hid t2; have H2 := Lib.hid t3
        clear t0 t1 t2 t3
        have HA := Lib.hid hn
        clear hb9 hn
        (try clear hHeld)
        refine hK.out _ _ (by (try dsimp only); exact ⟨by simpa using H0.out.cell 0, by simpa using H1.out.cell 1, by simpa using H1.out.cell 2, by simpa using H1.out.cell 3, by simpa using H1.out.cell 4⟩) (fun hHeld => ?_)
        clear hK K
        (try simp only [Act.put, List.setIfInBounds_toArray, List.set_cons_zero, List.set_cons_succ])
        revert hHeld HGA HB H0 H1 H2 HA
        generalize hgA : w2.heap.size = gA
        generalize (World.alloc w2 (.cells #[.int .i64 0, .int .i64 0, .slice none 0 0, .slice none 0 0] 50)) = w0
        intro HGA HB H0 H1 H2 HA hHeld
        clear hgA
        refine wpAnyL_ready (rs := [12]) (by kernel_rfl) (by simp) ?_
        refine AllReadyL.last (o := ?o12x13) ?hi12x13 ?he12x13 (fun K hK => ?_) AllReadyL.nil
        (case hi12x13 => (simp only [List.getElem?_toArray, List.getElem?_cons_succ, List.getElem?_cons_zero]; exact rfl))
        (case he12x13 => kernel_rfl)
        have s0 := HA.out.cell 0; have s1 := HA.out.cell 1; have s2 := HA.out.cell 2; have s3 := HA.out.cell 3
        have f0 := HA.out.frozen 0; have f1 := HA.out.frozen 1; have f2 := HA.out.frozen 2; have f3 := HA.out.frozen 3
        (try simp at s0 s1 s2 s3)
        go_simp
        (try clear hHeld)
        refine hK.out _ _ ?_
        clear hK K
        (try simp only [Act.put, List.setIfInBounds_toArray, List.set_cons_zero, List.set_cons_succ])
        (refine wpAnyL_done (by kernel_rfl) ?_ _)
        clear s0 s1 s2 s3 f0 f1 f2 f3
        go_wp2_with fail
        go_meet
        have k0 := ((HA.out.set_ 0 (.int .i64 sn0)).set_ 1 (.int .i64 so0)).set_ 2 (.slice none 0 0) |>.set_ 3 (.slice none 0 0)
        have hga := HGA.out
        have hf : Fr (fun g => g = gA) w0 ((((w0.setCell ⟨gA, 0, none⟩ (.int .i64 sn0)).setCell ⟨gA, 1, none⟩ (.int .i64 so0)).setCell ⟨gA, 2, none⟩ (.slice none 0 0)).setCell ⟨gA, 3, none⟩ (.slice none 0 0)) := Fr.setAt (Fr.setAt (Fr.setAt (Fr.setAt (E := fun g => g = gA) (Fr.refl _ _) (p := ⟨gA, 0, none⟩) (.inl rfl) _) (p := ⟨gA, 1, none⟩) (.inl rfl) _) (p := ⟨gA, 2, none⟩) (.inl rfl) _) (p := ⟨gA, 3, none⟩) (.inl rfl) _
        exact ⟨gA, rfl, by simpa using k0, hf.blk H0.out (by omega), hf.blk H1.out (by omega), hf.blk H2.out (by omega), World.ownsRow_nil _ _ _ _, World.ownsRow_nil _ _ _ _, fun g h => by simp [Value.ownBlock] at h, HB.out.trans (hf.below HB.out.size (fun g e => by subst e; omega)), hga⟩
      · skip
        go_simp
        have hb9 := (Below.refl w1.heap.size w1).alloc (Nat.le_refl _) (.cells #[.int .i64 0, .int .i64 0, .slice none 0 0, .slice none 0 0] 50)
        have hn := Blk.new w1 50 #[.int .i64 0, .int .i64 0, .slice none 0 0, .slice none 0 0]
        have HGA := Lib.hid (show w.heap.size + 1 + 1 < w1.heap.size from H2.out.lt)
        have t0 := below_tr HB.out hb9; have t1 := H0.out.below hb9 H0.out.lt; have t2 := H1.out.below hb9 H1.out.lt; have t3 := H2.out.below hb9 H2.out.lt
        clear HB H0 H1 H2
        have HB := Lib.hid t0; have H0 := Lib.hid t1; have H1 := Lib.hid t2; have H2 := Lib.hid t3
        clear t0 t1 t2 t3
        have HA := Lib.hid hn
        clear hb9 hn
        (try clear hHeld)
        refine hK.out _ _ (by (try dsimp only); exact ⟨by simpa using H0.out.cell 0, by simpa using H1.out.cell 1, by simpa using H1.out.cell 2, by simpa using H1.out.cell 3, by simpa using H1.out.cell 4⟩) (fun hHeld => ?_)
        clear hK K
        (try simp only [Act.put, List.setIfInBounds_toArray, List.set_cons_zero, List.set_cons_succ])
        revert hHeld HGA HB H0 H1 H2 HA
        generalize hgA : w1.heap.size = gA
        generalize (World.alloc w1 (.cells #[.int .i64 0, .int .i64 0, .slice none 0 0, .slice none 0 0] 50)) = w0
        intro HGA HB H0 H1 H2 HA hHeld
        clear hgA
        refine wpAnyL_ready (rs := [9]) (by kernel_rfl) (by simp) ?_
        refine AllReadyL.cons (o := ?o9x14) ?hi9x14 (fun K hK => ?_) AllReadyL.nil
        (case hi9x14 => (simp only [List.getElem?_toArray, List.getElem?_cons_succ, List.getElem?_cons_zero]; exact rfl))
        go_simp
        go_at_call 78
        refine (wlow_c _ _ _).mono ?_
        rintro e w2 ⟨rfl, hb9⟩
        have t0 := below_tr HB.out hb9; have t1 := H0.out.below hb9 H0.out.lt; have t2 := H1.out.below hb9 H1.out.lt; have t3 := H2.out.below hb9 H2.out.lt; have t4 := HA.out.below hb9 HA.out.lt
        clear HB H0 H1 H2 HA
        have HB := Lib.hid t0; have H0 := Lib.hid t1; have H1 := Lib.hid t2; have H2 := Lib.hid t3; have HA := Lib.hid t4
        clear t0 t1 t2 t3 t4
        clear hb9 
        (try go_wp2_with fail)
        (try clear hHeld)
        refine hK.out _ _ (by (try dsimp only); exact ⟨by simpa using H0.out.cell 0, by simpa using H1.out.cell 1, by simpa using H1.out.cell 2, by simpa using H1.out.cell 3, by simpa using H1.out.cell 4⟩) (fun hHeld => ?_)
        clear hK K
        (try simp only [Act.put, List.setIfInBounds_toArray, List.set_cons_zero, List.set_cons_succ])
        (refine wpAnyL_take (n := 0) (i := 10) (oi := ?ox15) (v := ?vx15) ?hix15 ?k1x15 ?k2x15 ?k3x15 ?k4x15 ?k5x15 ?k6x15 ?hQx15 ?hYx15 ?hSx15 ?restx15; (case hix15 => (simp only [List.getElem?_toArray, List.getElem?_cons_succ, List.getElem?_cons_zero]; exact rfl)); (case k1x15 => kernel_rfl); (case k2x15 => kernel_rfl); (case k3x15 => kernel_rfl); (case k4x15 => kernel_rfl); (case k5x15 => kernel_rfl); (case k6x15 => kernel_rfl); (case hSx15 => assumption); (case hYx15 => (refine Or.inl ⟨rfl, ?hyx15⟩; intro w hSw; (try dsimp only at hSw); go_simp; (try with_reducible rfl))); (case hQx15 => exact (fun _ _ _ h => h)); (try simp only [Act.put, List.setIfInBounds_toArray, List.set_cons_zero, List.set_cons_succ]))
        refine wpAnyL_ready (rs := [12]) (by kernel_rfl) (by simp) ?_
        refine AllReadyL.last (o := ?o12x16) ?hi12x16 ?he12x16 (fun K hK => ?_) AllReadyL.nil
        (case hi12x16 => (simp only [List.getElem?_toArray, List.getElem?_cons_succ, List.getElem?_cons_zero]; exact rfl))
        (case he12x16 => kernel_rfl)
        have s0 := HA.out.cell 0; have s1 := HA.out.cell 1; have s2 := HA.out.cell 2; have s3 := HA.out.cell 3
        have f0 := HA.out.frozen 0; have f1 := HA.out.frozen 1; have f2 := HA.out.frozen 2; have f3 := HA.out.frozen 3
        (try simp at s0 s1 s2 s3)
        go_simp
        (try clear hHeld)
        refine hK.out _ _ ?_
        clear hK K
        (try simp only [Act.put, List.setIfInBounds_toArray, List.set_cons_zero, List.set_cons_succ])
        (refine wpAnyL_done (by kernel_rfl) ?_ _)
        clear s0 s1 s2 s3 f0 f1 f2 f3
        go_wp2_with fail
        go_meet
        have k0 := ((HA.out.set_ 0 (.int .i64 sn0)).set_ 1 (.int .i64 so0)).set_ 2 (.slice none 0 0) |>.set_ 3 (.slice none 0 0)
        have hga := HGA.out
        have hf : Fr (fun g => g = gA) w2 ((((w2.setCell ⟨gA, 0, none⟩ (.int .i64 sn0)).setCell ⟨gA, 1, none⟩ (.int .i64 so0)).setCell ⟨gA, 2, none⟩ (.slice none 0 0)).setCell ⟨gA, 3, none⟩ (.slice none 0 0)) := Fr.setAt (Fr.setAt (Fr.setAt (Fr.setAt (E := fun g => g = gA) (Fr.refl _ _) (p := ⟨gA, 0, none⟩) (.inl rfl) _) (p := ⟨gA, 1, none⟩) (.inl rfl) _) (p := ⟨gA, 2, none⟩) (.inl rfl) _) (p := ⟨gA, 3, none⟩) (.inl rfl) _
        exact ⟨gA, rfl, by simpa using k0, hf.blk H0.out (by omega), hf.blk H1.out (by omega), hf.blk H2.out (by omega), World.ownsRow_nil _ _ _ _, World.ownsRow_nil _ _ _ _, fun g h => by simp [Value.ownBlock] at h, HB.out.trans (hf.below HB.out.size (fun g e => by subst e; omega)), hga⟩
    · skip
      go_simp
      have hb9 := (Below.refl w0.heap.size w0).alloc (Nat.le_refl _) (.cells #[.int .i64 0, .int .i64 0, .slice none 0 0, .slice none 0 0] 50)
      have hn := Blk.new w0 50 #[.int .i64 0, .int .i64 0, .slice none 0 0, .slice none 0 0]
      have HGA := Lib.hid (show w.heap.size + 1 + 1 < w0.heap.size from H2.out.lt)
      have t0 := below_tr HB.out hb9; have t1 := H0.out.below hb9 H0.out.lt; have t2 := H1.out.below hb9 H1.out.lt; have t3 := H2.out.below hb9 H2.out.lt
      clear HB H0 H1 H2
      have HB := Lib.hid t0; have H0 := Lib.hid t1; have H1 := Lib.hid t2; have H2 := Lib.hid t3
      clear t0 t1 t2 t3
      have HA := Lib.hid hn
      clear hb9 hn
      (try clear hHeld)
      refine hK.out _ _ (by (try dsimp only); exact ⟨by simpa using H0.out.cell 0, by simpa using H1.out.cell 1, by simpa using H1.out.cell 2, by simpa using H1.out.cell 3, by simpa using H1.out.cell 4⟩) (fun hHeld => ?_)
      clear hK K
      (try simp only [Act.put, List.setIfInBounds_toArray, List.set_cons_zero, List.set_cons_succ])
      revert hHeld HGA HB H0 H1 H2 HA
      generalize hgA : w0.heap.size = gA
      generalize (World.alloc w0 (.cells #[.int .i64 0, .int .i64 0, .slice none 0 0, .slice none 0 0] 50)) = w0
      intro HGA HB H0 H1 H2 HA hHeld
      clear hgA
      refine wpAnyL_ready (rs := [4]) (by kernel_rfl) (by simp) ?_
      refine AllReadyL.cons (o := ?o4x17) ?hi4x17 (fun K hK => ?_) AllReadyL.nil
      (case hi4x17 => (simp only [List.getElem?_toArray, List.getElem?_cons_succ, List.getElem?_cons_zero]; exact rfl))
      go_simp
      go_at_call 78
      refine (wlow_c _ _ _).mono ?_
      rintro e w1 ⟨rfl, hb9⟩
      have t0 := below_tr HB.out hb9; have t1 := H0.out.below hb9 H0.out.lt; have t2 := H1.out.below hb9 H1.out.lt; have t3 := H2.out.below hb9 H2.out.lt; have t4 := HA.out.below hb9 HA.out.lt
      clear HB H0 H1 H2 HA
      have HB := Lib.hid t0; have H0 := Lib.hid t1; have H1 := Lib.hid t2; have H2 := Lib.hid t3; have HA := Lib.hid t4
      clear t0 t1 t2 t3 t4
      clear hb9 
      (try go_wp2_with fail)
      (try clear hHeld)
      refine hK.out _ _ (by (try dsimp only); exact ⟨by simpa using H0.out.cell 0, by simpa using H1.out.cell 1, by simpa using H1.out.cell 2, by simpa using H1.out.cell 3, by simpa using H1.out.cell 4⟩) (fun hHeld => ?_)
      clear hK K
      (try simp only [Act.put, List.setIfInBounds_toArray, List.set_cons_zero, List.set_cons_succ])
      refine wpAnyL_ready (rs := [9]) (by kernel_rfl) (by simp) ?_
      refine AllReadyL.cons (o := ?o9x18) ?hi9x18 (fun K hK => ?_) AllReadyL.nil
      (case hi9x18 => (simp only [List.getElem?_toArray, List.getElem?_cons_succ, List.getElem?_cons_zero]; exact rfl))
      go_simp
      go_at_call 78
      refine (wlow_c _ _ _).mono ?_
      rintro e w2 ⟨rfl, hb9⟩
      have t0 := below_tr HB.out hb9; have t1 := H0.out.below hb9 H0.out.lt; have t2 := H1.out.below hb9 H1.out.lt; have t3 := H2.out.below hb9 H2.out.lt; have t4 := HA.out.below hb9 HA.out.lt
      clear HB H0 H1 H2 HA
      have HB := Lib.hid t0; have H0 := Lib.hid t1; have H1 := Lib.hid t2; have H2 := Lib.hid t3; have HA := Lib.hid t4
      clear t0 t1 t2 t3 t4
      clear hb9 
      (try go_wp2_with fail)
      (try clear hHeld)
      refine hK.out _ _ (by (try dsimp only); exact ⟨by simpa using H0.out.cell 0, by simpa using H1.out.cell 1, by simpa using H1.out.cell 2, by simpa using H1.out.cell 3, by simpa using H1.out.cell 4⟩) (fun hHeld => ?_)
      clear hK K
      (try simp only [Act.put, List.setIfInBounds_toArray, List.set_cons_zero, List.set_cons_succ])
      (refine wpAnyL_take (n := 0) (i := 10) (oi := ?ox19) (v := ?vx19) ?hix19 ?k1x19 ?k2x19 ?k3x19 ?k4x19 ?k5x19 ?k6x19 ?hQx19 ?hYx19 ?hSx19 ?restx19; (case hix19 => (simp only [List.getElem?_toArray, List.getElem?_cons_succ, List.getElem?_cons_zero]; exact rfl)); (case k1x19 => kernel_rfl); (case k2x19 => kernel_rfl); (case k3x19 => kernel_rfl); (case k4x19 => kernel_rfl); (case k5x19 => kernel_rfl); (case k6x19 => kernel_rfl); (case hSx19 => assumption); (case hYx19 => (refine Or.inl ⟨rfl, ?hyx19⟩; intro w hSw; (try dsimp only at hSw); go_simp; (try with_reducible rfl))); (case hQx19 => exact (fun _ _ _ h => h)); (try simp only [Act.put, List.setIfInBounds_toArray, List.set_cons_zero, List.set_cons_succ]))
      refine wpAnyL_ready (rs := [12]) (by kernel_rfl) (by simp) ?_
      refine AllReadyL.last (o := ?o12x20) ?hi12x20 ?he12x20 (fun K hK => ?_) AllReadyL.nil
      (case hi12x20 => (simp only [List.getElem?_toArray, List.getElem?_cons_succ, List.getElem?_cons_zero]; exact rfl))
      (case he12x20 => kernel_rfl)
      have s0 := HA.out.cell 0; have s1 := HA.out.cell 1; have s2 := HA.out.cell 2; have s3 := HA.out.cell 3
      have f0 := HA.out.frozen 0; have f1 := HA.out.frozen 1; have f2 := HA.out.frozen 2; have f3 := HA.out.frozen 3
      (try simp at s0 s1 s2 s3)
      go_simp
      (try clear hHeld)
      refine hK.out _ _ ?_
      clear hK K
      (try simp only [Act.put, List.setIfInBounds_toArray, List.set_cons_zero, List.set_cons_succ])
      (refine wpAnyL_done (by kernel_rfl) ?_ _)
      clear s0 s1 s2 s3 f0 f1 f2 f3
      go_wp2_with fail
      go_meet
      have k0 := ((HA.out.set_ 0 (.int .i64 sn0)).set_ 1 (.int .i64 so0)).set_ 2 (.slice none 0 0) |>.set_ 3 (.slice none 0 0)
      have hga := HGA.out
      have hf : Fr (fun g => g = gA) w2 ((((w2.setCell ⟨gA, 0, none⟩ (.int .i64 sn0)).setCell ⟨gA, 1, none⟩ (.int .i64 so0)).setCell ⟨gA, 2, none⟩ (.slice none 0 0)).setCell ⟨gA, 3, none⟩ (.slice none 0 0)) := Fr.setAt (Fr.setAt (Fr.setAt (Fr.setAt (E := fun g => g = gA) (Fr.refl _ _) (p := ⟨gA, 0, none⟩) (.inl rfl) _) (p := ⟨gA, 1, none⟩) (.inl rfl) _) (p := ⟨gA, 2, none⟩) (.inl rfl) _) (p := ⟨gA, 3, none⟩) (.inl rfl) _
      exact ⟨gA, rfl, by simpa using k0, hf.blk H0.out (by omega), hf.blk H1.out (by omega), hf.blk H2.out (by omega), World.ownsRow_nil _ _ _ _, World.ownsRow_nil _ _ _ _, fun g h => by simp [Value.ownBlock] at h, HB.out.trans (hf.below HB.out.size (fun g e => by subst e; omega)), hga⟩
  case rest =>
    obtain ⟨B7, rfl, htr⟩ := hcut
    clear HB H0 H1 H2
    have g0 := htr.gr.cell 0
    simp at g0
    have HT := Lib.hid htr
    clear htr
    go_wp2_with fail
    go_loopw [9, 26] (fun _ i wr => ∃ (k : Nat) (v : Value), k ≤ cn ∧ i = .int .i64 (k : Int) ∧ TrI w #[.slice CA cn cc, .int .i64 sn0, .int .i64 sn1, .int .i64 so0, .int .i64 so1, .int .i64 melt] B7 sn0 so0 v (.slice none 0 0) v (.slice none 0 0) ((C.map (·.lo)).take k) [] wr) (fun _ i _ => cn - (intOf i).toNat)
    case atStart => exact ⟨0, _, Nat.zero_le _, rfl, HT.out⟩
    case round =>
      obtain ⟨k, v, hk, rfl, htr⟩ := hrel
      clear HT g0
      by_cases hlt : k < cn
      · obtain ⟨b, o, x, rfl, hbl, hx, y0, y1, y2, y3, y4, y5, y6⟩ := (HC.out.below htr.bel).atCel hlt
        have hxl : (C.map (·.lo)).take (k + 1) = (C.map (·.lo)).take k ++ [x.lo] := by rw [List.take_add_one, List.getElem?_map, hx]; rfl
        have hln : ((C.map (·.lo)).take k).length = k := by rw [List.length_take, List.length_map, HLC.out]; omega
        have HXL := Lib.hid hxl; have HLN := Lib.hid hln
        have hal := (Below.refl wr.heap.size wr).alloc (Nat.le_refl _) (.cells #[.int .i64 x.lo, .int .i64 x.hi, .int .i64 x.cap, .int .i64 x.keep, .int .i64 x.pass, .int .i64 x.to, .int .i64 x.pump] 90)
        have HX := Lib.hid (Blk.new wr 90 #[.int .i64 x.lo, .int .i64 x.hi, .int .i64 x.cap, .int .i64 x.keep, .int .i64 x.pass, .int .i64 x.to, .int .i64 x.pump])
        have HT := Lib.hid (htr.below hal)
        clear hx hxl hln hal htr
        go_upto_region 5 with fail
        revert HX HT
        generalize World.alloc wr _ = w6
        intro HX HT
        have q0 := HX.out.cell 0; have q1 := HX.out.cell 1; have q2 := HT.out.tb.cell 2; have q3 := HT.out.ch.cell 0
        simp at q0 q1 q2 q3
        refine wp_region_till [8, 10] (fun U => U.cell? ⟨wr.heap.size, 0, none⟩ = some (.int .i64 x.lo) ∧ U.cell? ⟨wr.heap.size, 1, none⟩ = some (.int .i64 x.hi) ∧ U.cell? ⟨B7, 2, none⟩ = some v ∧ U.cell? ⟨w.heap.size, 0, none⟩ = some (.func (.func 78) #[] #[])) (by kernel_rfl) (by exact ⟨q0, q1, q2, q3⟩) (fun hHeld => ?_)
        have hb9 := (Below.refl w6.heap.size w6).drew
        have t0 := HX.out.below hb9 HX.out.lt; have t1 := HT.out.below hb9
        clear HX HT
        have HX := Lib.hid t0; have HT := Lib.hid t1
        clear t0 t1
        clear hb9
        revert hHeld HX HT
        generalize w6.drew = w0
        intro hHeld HX HT
        (refine wpAnyL_take (n := 1) (i := 0) (oi := ?ox21) (v := ?vx21) ?hix21 ?k1x21 ?k2x21 ?k3x21 ?k4x21 ?k5x21 ?k6x21 ?hQx21 ?hYx21 ?hSx21 ?restx21; (case hix21 => (simp only [List.getElem?_toArray, List.getElem?_cons_succ, List.getElem?_cons_zero]; exact rfl)); (case k1x21 => kernel_rfl); (case k2x21 => kernel_rfl); (case k3x21 => kernel_rfl); (case k4x21 => kernel_rfl); (case k5x21 => kernel_rfl); (case k6x21 => kernel_rfl); (case hSx21 => assumption); (case hYx21 => (refine Or.inl ⟨rfl, ?hyx21⟩; intro w hSw; (try dsimp only at hSw); go_simp; (try with_reducible rfl))); (case hQx21 => exact (fun _ _ _ h => h)); (try simp only [Act.put, List.setIfInBounds_toArray, List.set_cons_zero, List.set_cons_succ]))
        (refine wpAnyL_take (n := 0) (i := 1) (oi := ?ox22) (v := ?vx22) ?hix22 ?k1x22 ?k2x22 ?k3x22 ?k4x22 ?k5x22 ?k6x22 ?hQx22 ?hYx22 ?hSx22 ?restx22; (case hix22 => (simp only [List.getElem?_toArray, List.getElem?_cons_succ, List.getElem?_cons_zero]; exact rfl)); (case k1x22 => kernel_rfl); (case k2x22 => kernel_rfl); (case k3x22 => kernel_rfl); (case k4x22 => kernel_rfl); (case k5x22 => kernel_rfl); (case k6x22 => kernel_rfl); (case hSx22 => assumption); (case hYx22 => (refine Or.inl ⟨rfl, ?hyx22⟩; intro w hSw; (try dsimp only at hSw); go_simp; (try with_reducible rfl))); (case hQx22 => exact (fun _ _ _ h => h)); (try simp only [Act.put, List.setIfInBounds_toArray, List.set_cons_zero, List.set_cons_succ]))
        (refine wpAnyL_take (n := 2) (i := 2) (oi := ?ox23) (v := ?vx23) ?hix23 ?k1x23 ?k2x23 ?k3x23 ?k4x23 ?k5x23 ?k6x23 ?hQx23 ?hYx23 ?hSx23 ?restx23; (case hix23 => (simp only [List.getElem?_toArray, List.getElem?_cons_succ, List.getElem?_cons_zero]; exact rfl)); (case k1x23 => kernel_rfl); (case k2x23 => kernel_rfl); (case k3x23 => kernel_rfl); (case k4x23 => kernel_rfl); (case k5x23 => kernel_rfl); (case k6x23 => kernel_rfl); (case hSx23 => assumption); (case hYx23 => (refine Or.inl ⟨rfl, ?hyx23⟩; intro w hSw; (try dsimp only at hSw); go_simp; (try with_reducible rfl))); (case hQx23 => exact (fun _ _ _ h => h)); (try simp only [Act.put, List.setIfInBounds_toArray, List.set_cons_zero, List.set_cons_succ]))
        (refine wpAnyL_take (n := 1) (i := 3) (oi := ?ox24) (v := ?vx24) ?hix24 ?k1x24 ?k2x24 ?k3x24 ?k4x24 ?k5x24 ?k6x24 ?hQx24 ?hYx24 ?hSx24 ?restx24; (case hix24 => (simp only [List.getElem?_toArray, List.getElem?_cons_succ, List.getElem?_cons_zero]; exact rfl)); (case k1x24 => kernel_rfl); (case k2x24 => kernel_rfl); (case k3x24 => kernel_rfl); (case k4x24 => kernel_rfl); (case k5x24 => kernel_rfl); (case k6x24 => kernel_rfl); (case hSx24 => assumption); (case hYx24 => (refine Or.inl ⟨rfl, ?hyx24⟩; intro w hSw; (try dsimp only at hSw); go_simp; (try with_reducible rfl))); (case hQx24 => exact (fun _ _ _ h => h)); (try simp only [Act.put, List.setIfInBounds_toArray, List.set_cons_zero, List.set_cons_succ]))
        (refine wpAnyL_take (n := 2) (i := 4) (oi := ?ox25) (v := ?vx25) ?hix25 ?k1x25 ?k2x25 ?k3x25 ?k4x25 ?k5x25 ?k6x25 ?hQx25 ?hYx25 ?hSx25 ?restx25; (case hix25 => (simp only [List.getElem?_toArray, List.getElem?_cons_succ, List.getElem?_cons_zero]; exact rfl)); (case k1x25 => kernel_rfl); (case k2x25 => kernel_rfl); (case k3x25 => kernel_rfl); (case k4x25 => kernel_rfl); (case k5x25 => kernel_rfl); (case k6x25 => kernel_rfl); (case hSx25 => assumption); (case hYx25 => (refine Or.inl ⟨rfl, ?hyx25⟩; intro w hSw; (try dsimp only at hSw); go_simp; (try with_reducible rfl))); (case hQx25 => exact (fun _ _ _ h => h)); (try simp only [Act.put, List.setIfInBounds_toArray, List.set_cons_zero, List.set_cons_succ]))
        (refine wpAnyL_take (n := 1) (i := 5) (oi := ?ox26) (v := ?vx26) ?hix26 ?k1x26 ?k2x26 ?k3x26 ?k4x26 ?k5x26 ?k6x26 ?hQx26 ?hYx26 ?hSx26 ?restx26; (case hix26 => (simp only [List.getElem?_toArray, List.getElem?_cons_succ, List.getElem?_cons_zero]; exact rfl)); (case k1x26 => kernel_rfl); (case k2x26 => kernel_rfl); (case k3x26 => kernel_rfl); (case k4x26 => kernel_rfl); (case k5x26 => kernel_rfl); (case k6x26 => kernel_rfl); (case hSx26 => assumption); (case hYx26 => (refine Or.inl ⟨rfl, ?hyx26⟩; intro w hSw; (try dsimp only at hSw); go_simp; (try with_reducible rfl))); (case hQx26 => exact (fun _ _ _ h => h)); (try simp only [Act.put, List.setIfInBounds_toArray, List.set_cons_zero, List.set_cons_succ]))
        refine wpAnyL_ready (rs := [6]) (by kernel_rfl) (by simp) ?_
        refine AllReadyL.cons (o := ?o6x27) ?hi6x27 (fun K hK => ?_) AllReadyL.nil
        (case hi6x27 => (simp only [List.getElem?_toArray, List.getElem?_cons_succ, List.getElem?_cons_zero]; exact rfl))
        go_simp
        go_at_call 78
        refine (wlow_c _ _ _).mono ?_
        rintro e w1 ⟨rfl, hb9⟩
        have t0 := HX.out.below hb9 HX.out.lt; have t1 := HT.out.below hb9
        clear HX HT
        have HX := Lib.hid t0; have HT := Lib.hid t1
        clear t0 t1
        clear hb9 
        (try go_wp2_with fail)
        (try clear hHeld)
        refine hK.out _ _ (by (try dsimp only); exact ⟨by simpa using HX.out.cell 0, by simpa using HX.out.cell 1, by simpa using HT.out.tb.cell 2, by simpa using HT.out.ch.cell 0⟩) (fun hHeld => ?_)
        clear hK K
        (try simp only [Act.put, List.setIfInBounds_toArray, List.set_cons_zero, List.set_cons_succ])
        refine wpAnyL_ready (rs := [7]) (by kernel_rfl) (by simp) ?_
        refine AllReadyL.cons (o := ?o7x28) ?hi7x28 (fun K hK => ?_) AllReadyL.nil
        (case hi7x28 => (simp only [List.getElem?_toArray, List.getElem?_cons_succ, List.getElem?_cons_zero]; exact rfl))
        go_simp
        have hb9 := (Below.refl w1.heap.size w1).alloc (Nat.le_refl _) (.cells #[.int .i64 x.lo] 3)
        have hn := Blk.new w1 3 #[.int .i64 x.lo]
        have t0 := HX.out.below hb9 HX.out.lt; have t1 := HT.out.below hb9
        clear HX HT
        have HX := Lib.hid t0; have HT := Lib.hid t1
        clear t0 t1
        have HA := Lib.hid hn
        clear hb9 hn
        (try clear hHeld)
        refine hK.out _ _ (by (try dsimp only); exact ⟨by simpa using HX.out.cell 0, by simpa using HX.out.cell 1, by simpa using HT.out.tb.cell 2, by simpa using HT.out.ch.cell 0⟩) (fun hHeld => ?_)
        clear hK K
        (try simp only [Act.put, List.setIfInBounds_toArray, List.set_cons_zero, List.set_cons_succ])
        revert hHeld HX HT HA
        generalize hgA : w1.heap.size = gA
        generalize (World.alloc w1 (.cells #[.int .i64 x.lo] 3)) = w0
        intro HX HT HA hHeld
        clear hgA
        refine wpAnyL_ready (rs := [8]) (by kernel_rfl) (by simp) ?_
        refine AllReadyL.last (o := ?o8x29) ?hi8x29 ?he8x29 (fun K hK => ?_) AllReadyL.nil
        (case hi8x29 => (simp only [List.getElem?_toArray, List.getElem?_cons_succ, List.getElem?_cons_zero]; exact rfl))
        (case he8x29 => kernel_rfl)
        have ho9 := HT.out.o1
        rw [HLN.out] at ho9
        refine step_append_lies _ rfl _ _ 33 rfl w.heap.size 3 j0 (.int .i64 0) 1 8 Tryz.underlying33 HJ0.out HY0.out HY1.out HY2.out rfl (by decide) v k (((C.map (·.lo)).take k).flatMap enc1) rfl ho9 ⟨gA, 0, none⟩ 1 1 [.int .i64 x.lo] rfl rfl (World.news_of_block (cs := #[.int .i64 x.lo]) HA.out) (by simp [Value.oneCell']) (by omega) (by unfold maxLen; omega) (by omega) HT.out.bel.size _ rfl ?_
        intro gl cl w8 hown5 hgrow hat hlt5
        have ht9 := HT.out.grow1 HLN.out hown5 hgrow hat
        rw [← HXL.out] at ht9
        clear HT HA HX
        have HT := Lib.hid ht9
        clear ht9 hgrow hown5 hat ho9
        (try clear hHeld)
        refine hK.out _ _ ?_
        clear hK K
        (try simp only [Act.put, List.setIfInBounds_toArray, List.set_cons_zero, List.set_cons_succ])
        (refine wpAnyL_free (i := 9) (oi := ?ox30) (v := ?vx30) ?hix30 ?k1x30 ?k2x30 ?k3x30 ?k4x30 ?k5x30 ?hQx30 ?hYx30 ?restx30; (case hix30 => (simp only [List.getElem?_toArray, List.getElem?_cons_succ, List.getElem?_cons_zero]; exact rfl)); (case k1x30 => kernel_rfl); (case k2x30 => kernel_rfl); (case k3x30 => kernel_rfl); (case k4x30 => kernel_rfl); (case k5x30 => kernel_rfl); (case hYx30 => (refine Or.inl ⟨rfl, ?hyx30⟩; intro w hSw; (try dsimp only at hSw); go_simp; (try with_reducible rfl))); (case hQx30 => exact (fun _ _ _ h => h)); (try simp only [Act.put, List.setIfInBounds_toArray, List.set_cons_zero, List.set_cons_succ]))
        refine wpAnyL_ready (rs := [10]) (by kernel_rfl) (by simp) ?_
        refine AllReadyL.last (o := ?o10x31) ?hi10x31 ?he10x31 (fun K hK => ?_) AllReadyL.nil
        (case hi10x31 => (simp only [List.getElem?_toArray, List.getElem?_cons_succ, List.getElem?_cons_zero]; exact rfl))
        (case he10x31 => kernel_rfl)
        have s0 := HT.out.tb.cell 2; have f0 := HT.out.tb.frozen 2
        (try simp at s0)
        go_simp
        (try clear hHeld)
        refine hK.out _ _ ?_
        clear hK K
        (try simp only [Act.put, List.setIfInBounds_toArray, List.set_cons_zero, List.set_cons_succ])
        (refine wpAnyL_done (by kernel_rfl) ?_ _)
        have ht9 := HT.out.set1 (.slice (some ⟨gl, 0, none⟩) (k + 1) cl)
        clear s0 f0
        go_wp2_with fail
        go_roundw
        case rel => exact ⟨k + 1, _, by omega, by go_num, ht9⟩
        case measure => simp [intOf] <;> omega
      · obtain rfl : k = cn := by omega
        have HT := Lib.hid htr
        clear htr hlt
        go_wp2_with fail
        go_loopw [11, 43] (fun _ i wr => ∃ (k' : Nat) (vz : Value), k' ≤ dn ∧ i = .int .i64 (k' : Int) ∧ TrI w #[.slice CA k cc, .int .i64 sn0, .int .i64 sn1, .int .i64 so0, .int .i64 so1, .int .i64 melt] B7 sn0 so0 v vz v vz ((C.map (·.lo)).take k) ((D.map (·.lo)).take k') wr) (fun _ i _ => dn - (intOf i).toNat)
        case atStart => exact ⟨0, _, Nat.zero_le _, rfl, HT.out⟩
        case round =>
          obtain ⟨j, vz, hj, rfl, htr⟩ := hrel
          clear HT
          by_cases hlt : j < dn
          · obtain ⟨b, o, x, rfl, hbl, hx, y0, y1, y2⟩ := (HD.out.below htr.bel).atDy hlt
            have hxl : (D.map (·.lo)).take (j + 1) = (D.map (·.lo)).take j ++ [x.lo] := by rw [List.take_add_one, List.getElem?_map, hx]; rfl
            have hln : ((D.map (·.lo)).take j).length = j := by rw [List.length_take, List.length_map, HLD.out]; omega
            have HXL := Lib.hid hxl; have HLN := Lib.hid hln
            have hal := (Below.refl wr.heap.size wr).alloc (Nat.le_refl _) (.cells #[.int .i64 x.lo, .int .i64 x.hi, .int .i64 x.warm] 92)
            have HX := Lib.hid (Blk.new wr 92 #[.int .i64 x.lo, .int .i64 x.hi, .int .i64 x.warm])
            have HT := Lib.hid (htr.below hal)
            clear hx hxl hln hal htr
            go_upto_region 10 with fail
            revert HX HT
            generalize World.alloc wr _ = w6
            intro HX HT
            have q0 := HX.out.cell 0; have q1 := HX.out.cell 1; have q2 := HT.out.tb.cell 3; have q3 := HT.out.ch.cell 0
            simp at q0 q1 q2 q3
            refine wp_region_till [8, 10] (fun U => U.cell? ⟨wr.heap.size, 0, none⟩ = some (.int .i64 x.lo) ∧ U.cell? ⟨wr.heap.size, 1, none⟩ = some (.int .i64 x.hi) ∧ U.cell? ⟨B7, 3, none⟩ = some vz ∧ U.cell? ⟨w.heap.size, 0, none⟩ = some (.func (.func 78) #[] #[])) (by kernel_rfl) (by exact ⟨q0, q1, q2, q3⟩) (fun hHeld => ?_)
            have hb9 := (Below.refl w6.heap.size w6).drew
            have t0 := HX.out.below hb9 HX.out.lt; have t1 := HT.out.below hb9
            clear HX HT
            have HX := Lib.hid t0; have HT := Lib.hid t1
            clear t0 t1
            clear hb9
            revert hHeld HX HT
            generalize w6.drew = w0
            intro hHeld HX HT
            (refine wpAnyL_take (n := 1) (i := 0) (oi := ?ox32) (v := ?vx32) ?hix32 ?k1x32 ?k2x32 ?k3x32 ?k4x32 ?k5x32 ?k6x32 ?hQx32 ?hYx32 ?hSx32 ?restx32; (case hix32 => (simp only [List.getElem?_toArray, List.getElem?_cons_succ, List.getElem?_cons_zero]; exact rfl)); (case k1x32 => kernel_rfl); (case k2x32 => kernel_rfl); (case k3x32 => kernel_rfl); (case k4x32 => kernel_rfl); (case k5x32 => kernel_rfl); (case k6x32 => kernel_rfl); (case hSx32 => assumption); (case hYx32 => (refine Or.inl ⟨rfl, ?hyx32⟩; intro w hSw; (try dsimp only at hSw); go_simp; (try with_reducible rfl))); (case hQx32 => exact (fun _ _ _ h => h)); (try simp only [Act.put, List.setIfInBounds_toArray, List.set_cons_zero, List.set_cons_succ]))
            (refine wpAnyL_take (n := 0) (i := 1) (oi := ?ox33) (v := ?vx33) ?hix33 ?k1x33 ?k2x33 ?k3x33 ?k4x33 ?k5x33 ?k6x33 ?hQx33 ?hYx33 ?hSx33 ?restx33; (case hix33 => (simp only [List.getElem?_toArray, List.getElem?_cons_succ, List.getElem?_cons_zero]; exact rfl)); (case k1x33 => kernel_rfl); (case k2x33 => kernel_rfl); (case k3x33 => kernel_rfl); (case k4x33 => kernel_rfl); (case k5x33 => kernel_rfl); (case k6x33 => kernel_rfl); (case hSx33 => assumption); (case hYx33 => (refine Or.inl ⟨rfl, ?hyx33⟩; intro w hSw; (try dsimp only at hSw); go_simp; (try with_reducible rfl))); (case hQx33 => exact (fun _ _ _ h => h)); (try simp only [Act.put, List.setIfInBounds_toArray, List.set_cons_zero, List.set_cons_succ]))
            (refine wpAnyL_take (n := 2) (i := 2) (oi := ?ox34) (v := ?vx34) ?hix34 ?k1x34 ?k2x34 ?k3x34 ?k4x34 ?k5x34 ?k6x34 ?hQx34 ?hYx34 ?hSx34 ?restx34; (case hix34 => (simp only [List.getElem?_toArray, List.getElem?_cons_succ, List.getElem?_cons_zero]; exact rfl)); (case k1x34 => kernel_rfl); (case k2x34 => kernel_rfl); (case k3x34 => kernel_rfl); (case k4x34 => kernel_rfl); (case k5x34 => kernel_rfl); (case k6x34 => kernel_rfl); (case hSx34 => assumption); (case hYx34 => (refine Or.inl ⟨rfl, ?hyx34⟩; intro w hSw; (try dsimp only at hSw); go_simp; (try with_reducible rfl))); (case hQx34 => exact (fun _ _ _ h => h)); (try simp only [Act.put, List.setIfInBounds_toArray, List.set_cons_zero, List.set_cons_succ]))
            (refine wpAnyL_take (n := 1) (i := 3) (oi := ?ox35) (v := ?vx35) ?hix35 ?k1x35 ?k2x35 ?k3x35 ?k4x35 ?k5x35 ?k6x35 ?hQx35 ?hYx35 ?hSx35 ?restx35; (case hix35 => (simp only [List.getElem?_toArray, List.getElem?_cons_succ, List.getElem?_cons_zero]; exact rfl)); (case k1x35 => kernel_rfl); (case k2x35 => kernel_rfl); (case k3x35 => kernel_rfl); (case k4x35 => kernel_rfl); (case k5x35 => kernel_rfl); (case k6x35 => kernel_rfl); (case hSx35 => assumption); (case hYx35 => (refine Or.inl ⟨rfl, ?hyx35⟩; intro w hSw; (try dsimp only at hSw); go_simp; (try with_reducible rfl))); (case hQx35 => exact (fun _ _ _ h => h)); (try simp only [Act.put, List.setIfInBounds_toArray, List.set_cons_zero, List.set_cons_succ]))
            (refine wpAnyL_take (n := 2) (i := 4) (oi := ?ox36) (v := ?vx36) ?hix36 ?k1x36 ?k2x36 ?k3x36 ?k4x36 ?k5x36 ?k6x36 ?hQx36 ?hYx36 ?hSx36 ?restx36; (case hix36 => (simp only [List.getElem?_toArray, List.getElem?_cons_succ, List.getElem?_cons_zero]; exact rfl)); (case k1x36 => kernel_rfl); (case k2x36 => kernel_rfl); (case k3x36 => kernel_rfl); (case k4x36 => kernel_rfl); (case k5x36 => kernel_rfl); (case k6x36 => kernel_rfl); (case hSx36 => assumption); (case hYx36 => (refine Or.inl ⟨rfl, ?hyx36⟩; intro w hSw; (try dsimp only at hSw); go_simp; (try with_reducible rfl))); (case hQx36 => exact (fun _ _ _ h => h)); (try simp only [Act.put, List.setIfInBounds_toArray, List.set_cons_zero, List.set_cons_succ]))
            (refine wpAnyL_take (n := 1) (i := 5) (oi := ?ox37) (v := ?vx37) ?hix37 ?k1x37 ?k2x37 ?k3x37 ?k4x37 ?k5x37 ?k6x37 ?hQx37 ?hYx37 ?hSx37 ?restx37; (case hix37 => (simp only [List.getElem?_toArray, List.getElem?_cons_succ, List.getElem?_cons_zero]; exact rfl)); (case k1x37 => kernel_rfl); (case k2x37 => kernel_rfl); (case k3x37 => kernel_rfl); (case k4x37 => kernel_rfl); (case k5x37 => kernel_rfl); (case k6x37 => kernel_rfl); (case hSx37 => assumption); (case hYx37 => (refine Or.inl ⟨rfl, ?hyx37⟩; intro w hSw; (try dsimp only at hSw); go_simp; (try with_reducible rfl))); (case hQx37 => exact (fun _ _ _ h => h)); (try simp only [Act.put, List.setIfInBounds_toArray, List.set_cons_zero, List.set_cons_succ]))
            refine wpAnyL_ready (rs := [6]) (by kernel_rfl) (by simp) ?_
            refine AllReadyL.cons (o := ?o6x38) ?hi6x38 (fun K hK => ?_) AllReadyL.nil
            (case hi6x38 => (simp only [List.getElem?_toArray, List.getElem?_cons_succ, List.getElem?_cons_zero]; exact rfl))
            go_simp
            go_at_call 78
            refine (wlow_c _ _ _).mono ?_
            rintro e w1 ⟨rfl, hb9⟩
            have t0 := HX.out.below hb9 HX.out.lt; have t1 := HT.out.below hb9
            clear HX HT
            have HX := Lib.hid t0; have HT := Lib.hid t1
            clear t0 t1
            clear hb9 
            (try go_wp2_with fail)
            (try clear hHeld)
            refine hK.out _ _ (by (try dsimp only); exact ⟨by simpa using HX.out.cell 0, by simpa using HX.out.cell 1, by simpa using HT.out.tb.cell 3, by simpa using HT.out.ch.cell 0⟩) (fun hHeld => ?_)
            clear hK K
            (try simp only [Act.put, List.setIfInBounds_toArray, List.set_cons_zero, List.set_cons_succ])
            refine wpAnyL_ready (rs := [7]) (by kernel_rfl) (by simp) ?_
            refine AllReadyL.cons (o := ?o7x39) ?hi7x39 (fun K hK => ?_) AllReadyL.nil
            (case hi7x39 => (simp only [List.getElem?_toArray, List.getElem?_cons_succ, List.getElem?_cons_zero]; exact rfl))
            go_simp
            have hb9 := (Below.refl w1.heap.size w1).alloc (Nat.le_refl _) (.cells #[.int .i64 x.lo] 3)
            have hn := Blk.new w1 3 #[.int .i64 x.lo]
            have t0 := HX.out.below hb9 HX.out.lt; have t1 := HT.out.below hb9
            clear HX HT
            have HX := Lib.hid t0; have HT := Lib.hid t1
            clear t0 t1
            have HA := Lib.hid hn
            clear hb9 hn
            (try clear hHeld)
            refine hK.out _ _ (by (try dsimp only); exact ⟨by simpa using HX.out.cell 0, by simpa using HX.out.cell 1, by simpa using HT.out.tb.cell 3, by simpa using HT.out.ch.cell 0⟩) (fun hHeld => ?_)
            clear hK K
            (try simp only [Act.put, List.setIfInBounds_toArray, List.set_cons_zero, List.set_cons_succ])
            revert hHeld HX HT HA
            generalize hgA : w1.heap.size = gA
            generalize (World.alloc w1 (.cells #[.int .i64 x.lo] 3)) = w0
            intro HX HT HA hHeld
            clear hgA
            refine wpAnyL_ready (rs := [8]) (by kernel_rfl) (by simp) ?_
            refine AllReadyL.last (o := ?o8x40) ?hi8x40 ?he8x40 (fun K hK => ?_) AllReadyL.nil
            (case hi8x40 => (simp only [List.getElem?_toArray, List.getElem?_cons_succ, List.getElem?_cons_zero]; exact rfl))
            (case he8x40 => kernel_rfl)
            have ho9 := HT.out.o2
            rw [HLN.out] at ho9
            refine step_append_lies _ rfl _ _ 33 rfl w.heap.size 3 j0 (.int .i64 0) 1 8 Tryz.underlying33 HJ0.out HY0.out HY1.out HY2.out rfl (by decide) vz j (((D.map (·.lo)).take j).flatMap enc1) rfl ho9 ⟨gA, 0, none⟩ 1 1 [.int .i64 x.lo] rfl rfl (World.news_of_block (cs := #[.int .i64 x.lo]) HA.out) (by simp [Value.oneCell']) (by omega) (by unfold maxLen; omega) (by omega) HT.out.bel.size _ rfl ?_
            intro gl cl w8 hown5 hgrow hat hlt5
            have ht9 := HT.out.grow2 HLN.out hown5 hgrow hat
            rw [← HXL.out] at ht9
            clear HT HA HX
            have HT := Lib.hid ht9
            clear ht9 hgrow hown5 hat ho9
            (try clear hHeld)
            refine hK.out _ _ ?_
            clear hK K
            (try simp only [Act.put, List.setIfInBounds_toArray, List.set_cons_zero, List.set_cons_succ])
            (refine wpAnyL_free (i := 9) (oi := ?ox41) (v := ?vx41) ?hix41 ?k1x41 ?k2x41 ?k3x41 ?k4x41 ?k5x41 ?hQx41 ?hYx41 ?restx41; (case hix41 => (simp only [List.getElem?_toArray, List.getElem?_cons_succ, List.getElem?_cons_zero]; exact rfl)); (case k1x41 => kernel_rfl); (case k2x41 => kernel_rfl); (case k3x41 => kernel_rfl); (case k4x41 => kernel_rfl); (case k5x41 => kernel_rfl); (case hYx41 => (refine Or.inl ⟨rfl, ?hyx41⟩; intro w hSw; (try dsimp only at hSw); go_simp; (try with_reducible rfl))); (case hQx41 => exact (fun _ _ _ h => h)); (try simp only [Act.put, List.setIfInBounds_toArray, List.set_cons_zero, List.set_cons_succ]))
            refine wpAnyL_ready (rs := [10]) (by kernel_rfl) (by simp) ?_
            refine AllReadyL.last (o := ?o10x42) ?hi10x42 ?he10x42 (fun K hK => ?_) AllReadyL.nil
            (case hi10x42 => (simp only [List.getElem?_toArray, List.getElem?_cons_succ, List.getElem?_cons_zero]; exact rfl))
            (case he10x42 => kernel_rfl)
            have s0 := HT.out.tb.cell 3; have f0 := HT.out.tb.frozen 3
            (try simp at s0)
            go_simp
            (try clear hHeld)
            refine hK.out _ _ ?_
            clear hK K
            (try simp only [Act.put, List.setIfInBounds_toArray, List.set_cons_zero, List.set_cons_succ])
            (refine wpAnyL_done (by kernel_rfl) ?_ _)
            have ht9 := HT.out.set2 (.slice (some ⟨gl, 0, none⟩) (j + 1) cl)
            clear s0 f0
            go_wp2_with fail
            go_roundw
            case rel => exact ⟨j + 1, _, by omega, by go_num, ht9⟩
            case measure => simp [intOf] <;> omega
          · obtain rfl : j = dn := by omega
            have t0 := htr.tb.cell 0; have t1 := htr.tb.cell 1; have t2 := htr.tb.cell 2; have t3 := htr.tb.cell 3
            have r0 := htr.rs.cell 0; have r1 := htr.rs.cell 1; have r2 := htr.rs.cell 2; have r3 := htr.rs.cell 3
            have f0 := htr.rs.frozen 0; have f1 := htr.rs.frozen 1; have f2 := htr.rs.frozen 2; have f3 := htr.rs.frozen 3
            have e1 : (C.map (·.lo)).take k = C.map (·.lo) := List.take_of_length_le (by rw [List.length_map, HLC.out]; exact Nat.le_refl _)
            have e2 : (D.map (·.lo)).take j = D.map (·.lo) := List.take_of_length_le (by rw [List.length_map, HLD.out]; exact Nat.le_refl _)
            rw [e1, e2] at htr
            have ho1 := htr.o1; have ho2 := htr.o2
            have el1 : (C.map (·.lo)).length = k := by rw [List.length_map, HLC.out]
            have el2 : (D.map (·.lo)).length = j := by rw [List.length_map, HLD.out]
            rw [el1] at ho1; rw [el2] at ho2
            obtain ⟨LA, lc, rfl, _⟩ := own_form ho1
            obtain ⟨RA, rc, rfl, _⟩ := own_form ho2
            simp at t0 t1 t2 t3 r0 r1 r2 r3
            have HT := Lib.hid htr; have HO1 := Lib.hid ho1; have HO2 := Lib.hid ho2; have HE1 := Lib.hid el1; have HE2 := Lib.hid el2
            clear htr ho1 ho2 el1 el2 e1 e2
            go_wp2_with fail
            have kb := (((HT.out.rs.set_ 0 (.int .i64 sn0)).set_ 1 (.int .i64 so0)).set_ 2 (.slice LA k lc)).set_ 3 (.slice RA j rc)
            have hf : Fr (fun g => g = w.heap.size + 1 + 1) wr ((((wr.setCell ⟨w.heap.size + 1 + 1, 0, none⟩ (.int .i64 sn0)).setCell ⟨w.heap.size + 1 + 1, 1, none⟩ (.int .i64 so0)).setCell ⟨w.heap.size + 1 + 1, 2, none⟩ (.slice LA k lc)).setCell ⟨w.heap.size + 1 + 1, 3, none⟩ (.slice RA j rc)) := Fr.setAt (Fr.setAt (Fr.setAt (Fr.setAt (E := fun g => g = w.heap.size + 1 + 1) (Fr.refl _ _) (p := ⟨w.heap.size + 1 + 1, 0, none⟩) (.inl rfl) _) (p := ⟨w.heap.size + 1 + 1, 1, none⟩) (.inl rfl) _) (p := ⟨w.heap.size + 1 + 1, 2, none⟩) (.inl rfl) _) (p := ⟨w.heap.size + 1 + 1, 3, none⟩) (.inl rfl) _
            have p1 := hf.row HO1.out (fun g hg e => by subst e; exact own_blk_ne HO1.out HT.out.rs (by decide) hg)
            have p2 := hf.row HO2.out (fun g hg e => by subst e; exact own_blk_ne HO2.out HT.out.rs (by decide) hg)
            have q0 := kb.cell 0; have q1 := kb.cell 1; have q2 := kb.cell 2; have q3 := kb.cell 3
            simp at q0 q1 q2 q3
            refine bodyPost_ret (v := .agg #[.int .i64 sn0, .int .i64 so0, .slice LA k lc, .slice RA j rc]) ?_ rfl ⟨LA, lc, RA, rc, rfl, Rd.of_own enc1_len p1 HE1.out, Rd.of_own enc1_len p2 HE2.out, HT.out.bel.trans (hf.below HT.out.bel.size (fun g e => by subst e; omega))⟩
            simp [results, Tryz.f43, go_sem, q0, q1, q2, q3]
end Go.Proofs.YtjpobkmlcjbpiaaGreat
