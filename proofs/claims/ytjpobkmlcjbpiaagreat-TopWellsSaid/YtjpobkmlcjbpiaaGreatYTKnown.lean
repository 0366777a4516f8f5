/- CONTRACT of sackunglaw02.Known. -/
import Derived.Test.YtjpobkmlcjbpiaaGreatYTConv
set_option linter.unusedVariables false
set_option linter.unusedSimpArgs false
namespace Go.Proofs.YtjpobkmlcjbpiaaGreat
open Go.RowKit Go.Proofs
attribute [local go_sem ↓] Go.wp_at_zero Go.wp_at_succ

theorem own_setAt {w : World} {base : Nat} {e : TypeId} {size n c g : Nat} {xs : List Value} (h : w.ownsRow base e size (.slice (some ⟨g, 0, none⟩) n c) n xs) {j : Nat} (hj : j < n * size) (u : Value) :
    (w.setCell ⟨g, j, none⟩ u).ownsRow base e size (.slice (some ⟨g, 0, none⟩) n c) n (xs.set j u) := by
  refine ⟨by rw [List.length_set]; exact h.1, ?_⟩
  rcases h.2 with ⟨h0, _⟩ | ⟨g', cap, cur, hv, hb, hg, h1, h2, h3, h4⟩
  · cases h0
  · cases hv
    refine .inr ⟨g, c, cur.setIfInBounds j u, rfl, hb, Blk.set_ (show Blk w g e cur from hg) j u, h1, h2, by simpa using h3, ?_⟩
    rw [Array.toList_setIfInBounds, List.take_set, h4]
theorem flat_set2 : ∀ (l : List Cel) (k : Nat) (x : Cel) (v : Int), l[k]? = some x → ((l.flatMap encCel).set (k * 7) (.int .i64 v)).set (k * 7 + 1) (.int .i64 v) = (l.set k { x with lo := v, hi := v }).flatMap encCel
  | [], k, x, v, h => by simp at h
  | a :: l, 0, x, v, h => by
    obtain rfl : a = x := by simpa using h
    simp [encCel]
  | a :: l, k + 1, x, v, h => by
    have ih := flat_set2 l k x v (by simpa using h)
    have h1 : (encCel a).length = 7 := rfl
    simp only [List.flatMap_cons, List.set_cons_succ]
    rw [← ih, show (k + 1) * 7 = k * 7 + 7 by omega, List.set_append_right _ _ (by rw [h1]; omega), List.set_append_right _ _ (by rw [h1]; omega), h1]
    congr 2
/-- cells whose first k have one level -/
def knC (C : List Cel) (L : List Int) (k : Nat) : List Cel := C.mapIdx fun i c => if i < k then { c with lo := lvA L i, hi := lvA L i } else c
theorem knC_get (C : List Cel) (L : List Int) (k i : Nat) : (knC C L k)[i]? = C[i]?.map fun c => if i < k then { c with lo := lvA L i, hi := lvA L i } else c := by
  unfold knC; rw [List.getElem?_mapIdx]
theorem knC_len (C : List Cel) (L : List Int) (k : Nat) : (knC C L k).length = C.length := by unfold knC; simp
theorem knC_zero (C : List Cel) (L : List Int) : knC C L 0 = C := by
  apply List.ext_getElem?; intro i; rw [knC_get]; cases C[i]? <;> simp
theorem knC_succ {C : List Cel} {L : List Int} {k : Nat} {c : Cel} (h : C[k]? = some c) : knC C L (k + 1) = (knC C L k).set k { c with lo := lvA L k, hi := lvA L k } := by
  apply List.ext_getElem?
  intro i
  rw [knC_get, List.getElem?_set, knC_get, knC_len]
  have hk := (List.getElem?_eq_some_iff.1 h).1
  by_cases hi : k = i
  · subst hi; rw [if_pos rfl, if_pos hk, h]; simp
  · rw [if_neg hi]
    cases C[i]? with
    | none => rfl
    | some d => simp only [Option.map_some]; by_cases h1 : i < k
                · rw [if_pos h1, if_pos (by omega)]
                · rw [if_neg h1, if_neg (by omega)]
/-- days whose first k have one rain -/
def knD (D : List Dy) (Rn : List Int) : List Dy := D.mapIdx fun i d => ⟨lvA Rn i, lvA Rn i, d.warm⟩
theorem knD_get (D : List Dy) (Rn : List Int) (i : Nat) : (knD D Rn)[i]? = D[i]?.map fun d => ⟨lvA Rn i, lvA Rn i, d.warm⟩ := by unfold knD; rw [List.getElem?_mapIdx]
theorem knD_len (D : List Dy) (Rn : List Int) : (knD D Rn).length = D.length := by unfold knD; simp
theorem infoCelR : (Tryz.prog.info? 76).map (fun i => (i.zero, i.size, i.bytes)) = some (some (.agg #[.int .i64 0, .int .i64 0, .int .i64 0, .int .i64 0, .int .i64 0, .int .i64 0, .int .i64 0]), 7, 56) := by kernel_rfl
theorem infoDayR : (Tryz.prog.info? 72).map (fun i => (i.zero, i.size, i.bytes)) = some (some (.agg #[.int .i64 0, .int .i64 0, .int .i64 0]), 3, 24) := by kernel_rfl
/-- the ground and the days that are made -/
structure KnI (w : World) (TC : Array Value) (B8 : Nat) (sn so0 so1 melt : Int) (v : Value) (n : Nat) (X : List Cel) (v2 : Value) (k2 : Nat) (Y : List Dy) (W : World) : Prop where
  tb : Blk W B8 26 #[v, .int .i64 sn, .int .i64 sn, .int .i64 so0, .int .i64 so1, .int .i64 melt]
  th : Blk W (w.heap.size + 1) 35 TC
  rs : Blk W (w.heap.size + 1 + 1) 26 #[.slice none 0 0, .int .i64 0, .int .i64 0, .int .i64 0, .int .i64 0, .int .i64 0]
  own : W.ownsRow w.heap.size 76 7 v n (X.flatMap encCel)
  ds : W.ownsRow w.heap.size 72 3 v2 k2 (Y.flatMap encDy)
  bel : Below w.heap.size w W
  lo : w.heap.size + 1 + 1 < B8
section
variable {w : World} {TC : Array Value} {B8 : Nat} {sn so0 so1 melt : Int} {v : Value} {n : Nat} {X : List Cel} {v2 : Value} {k2 : Nat} {Y : List Dy} {W W' : World}
theorem KnI.below (h : KnI w TC B8 sn so0 so1 melt v n X v2 k2 Y W) (hb : Below W.heap.size W W') : KnI w TC B8 sn so0 so1 melt v n X v2 k2 Y W' :=
  ⟨h.tb.below hb h.tb.lt, h.th.below hb h.th.lt, h.rs.below hb h.rs.lt, own_mono h.own hb, own_mono h.ds hb, h.bel.trans (hb.mono h.bel.size), h.lo⟩
theorem KnI.set2 {g c : Nat} (h : KnI w TC B8 sn so0 so1 melt (.slice (some ⟨g, 0, none⟩) n c) n X v2 k2 Y W) {k : Nat} {x : Cel} (hx : X[k]? = some x) (l : Int) :
    KnI w TC B8 sn so0 so1 melt (.slice (some ⟨g, 0, none⟩) n c) n (X.set k { x with lo := l, hi := l }) v2 k2 Y ((W.setCell ⟨g, k * 7, none⟩ (.int .i64 l)).setCell ⟨g, k * 7 + 1, none⟩ (.int .i64 l)) := by
  have hl : X.length = n := by
    have h1 := h.own.1
    have h2 : ∀ l : List Cel, (l.flatMap encCel).length = l.length * 7 := fun l => by
      induction l with
      | nil => rfl
      | cons a l ih => rw [List.flatMap_cons, List.length_append, ih, encCel_len, List.length_cons]; omega
    rw [h2] at h1; omega
  have hk : k < n := by have := (List.getElem?_eq_some_iff.1 hx).1; omega
  have hg := (h.own.lt g rfl).1
  have o1 := own_setAt (own_setAt h.own (j := k * 7) (by omega) (.int .i64 l)) (j := k * 7 + 1) (by omega) (.int .i64 l)
  rw [flat_set2 X k x l hx] at o1
  have hf : Fr (fun b => b = g) W ((W.setCell ⟨g, k * 7, none⟩ (.int .i64 l)).setCell ⟨g, k * 7 + 1, none⟩ (.int .i64 l)) := Fr.setAt (Fr.setAt (E := fun b => b = g) (Fr.refl _ _) (p := ⟨g, k * 7, none⟩) (.inl rfl) _) (p := ⟨g, k * 7 + 1, none⟩) (.inl rfl) _
  have ne : ∀ {b : Nat} {t : TypeId} {cs : Array Value}, Blk W b t cs → t ≠ 76 → b ≠ g := fun hb ht e => by subst e; exact own_blk_ne h.own hb (fun e' => ht e'.symm) rfl
  exact ⟨hf.blk h.tb (ne h.tb (by decide)), hf.blk h.th (ne h.th (by decide)), hf.blk h.rs (ne h.rs (by decide)), o1, hf.row h.ds (fun b hb e => by subst e; exact own_tyne h.ds h.own (by decide) _ hb rfl), h.bel.trans (hf.below h.bel.size (fun b e => by subst e; exact hg)), h.lo⟩
theorem KnI.grow (h : KnI w TC B8 sn so0 so1 melt v n X v2 k2 Y W) {v' : Value} {k' : Nat} {Y' : List Dy} (hown : W'.ownsRow w.heap.size 72 3 v' k' (Y'.flatMap encDy)) (hg : W.grownBy W' v2.ownBlock) : KnI w TC B8 sn so0 so1 melt v n X v' k' Y' W' := by
  have kb : ∀ {g : Nat} {t : TypeId} {cs : Array Value}, Blk W g t cs → t ≠ 72 → Blk W' g t cs := fun hb ht => hb.grown hg (fun e => own_blk_ne h.ds hb (fun e' => ht e'.symm) e.symm)
  exact ⟨kb h.tb (by decide), kb h.th (by decide), kb h.rs (by decide), own_kept h.own hg (fun g hg' e => own_tyne h.own h.ds (by decide) g hg' e), hown, h.bel.grown hg h.bel.size (fun g hg => (h.ds.lt g hg).1), h.lo⟩
theorem KnI.cellAt {g c : Nat} (h : KnI w TC B8 sn so0 so1 melt (.slice (some ⟨g, 0, none⟩) n c) n X v2 k2 Y W) {j : Nat} (hj : j < n * 7) : ∃ u, W.cell? ⟨g, j, none⟩ = some u ∧ W.frozen? ⟨g, j, none⟩ = false := by
  rcases h.own.2 with ⟨h0, _⟩ | ⟨g', cap, cur, hv, hb, hg, h1, h2, h3, h4⟩
  · cases h0
  · cases hv
    have hb' : Blk W g 76 cur := hg
    have hlen : n * 7 ≤ cur.size := by have := h.own.1; have h5 := congrArg List.length h4; simp at h5; omega
    exact ⟨cur[j], by rw [hb'.cell]; exact Array.getElem?_eq_getElem (by omega), hb'.frozen j⟩
end
set_option linter.unusedSimpArgs false in
set_option maxRecDepth 100000 in
set_option maxHeartbeats 8000000 in
theorem rKnown_c {CA DA LA RA : Option Addr} {n cc dn dc lc rc : Nat} {sn0 sn1 so0 so1 melt tsn tso : Int} {C : List Cel} {D : List Dy} {L Rn : List Int} {w : World}
    (hC : Rd encCel 7 w CA n C) (hD : Rd encDy 3 w DA dn D) (hL : Rd enc1 1 w LA n L) (hR : Rd enc1 1 w RA dn Rn) (hn : 1 ≤ n ∧ n ≤ 100) (hdn : dn ≤ 100) :
    Calls Tryz.prog 8 #[.agg #[.slice CA n cc, .int .i64 sn0, .int .i64 sn1, .int .i64 so0, .int .i64 so1, .int .i64 melt], .slice DA dn dc, .agg #[.int .i64 tsn, .int .i64 tso, .slice LA n lc, .slice RA dn rc]] w fun e w' => ∃ A' c' D' d', e = .returned (.tuple #[.agg #[.slice A' n c', .int .i64 tsn, .int .i64 tsn, .int .i64 so0, .int .i64 so1, .int .i64 melt], .slice D' dn d']) ∧
      Rd encCel 7 w' A' n (knC C L n) ∧ Rd encDy 3 w' D' dn (knD D Rn) ∧ Below w.heap.size w w' := by
  have hcl := hC.len; have hdl := hD.len
  have hal := (((Below.refl w.heap.size w).alloc (Nat.le_refl _) (.cells #[.slice CA n cc, .int .i64 sn0, .int .i64 sn1, .int .i64 so0, .int .i64 so1, .int .i64 melt] 26)).alloc (by simp) (.cells #[.int .i64 tsn, .int .i64 tso, .slice LA n lc, .slice RA dn rc] 35)).alloc (by simp; omega) (.cells #[.slice none 0 0, .int .i64 0, .int .i64 0, .int .i64 0, .int .i64 0, .int .i64 0] 26)
  have b0 := ((Blk.new w 26 #[.slice CA n cc, .int .i64 sn0, .int .i64 sn1, .int .i64 so0, .int .i64 so1, .int .i64 melt]).alloc (.cells #[.int .i64 tsn, .int .i64 tso, .slice LA n lc, .slice RA dn rc] 35)).alloc (.cells #[.slice none 0 0, .int .i64 0, .int .i64 0, .int .i64 0, .int .i64 0, .int .i64 0] 26)
  have b1 := (Blk.new (w.alloc (.cells #[.slice CA n cc, .int .i64 sn0, .int .i64 sn1, .int .i64 so0, .int .i64 so1, .int .i64 melt] 26)) 35 #[.int .i64 tsn, .int .i64 tso, .slice LA n lc, .slice RA dn rc]).alloc (.cells #[.slice none 0 0, .int .i64 0, .int .i64 0, .int .i64 0, .int .i64 0, .int .i64 0] 26)
  have b2 := Blk.new ((w.alloc (.cells #[.slice CA n cc, .int .i64 sn0, .int .i64 sn1, .int .i64 so0, .int .i64 so1, .int .i64 melt] 26)).alloc (.cells #[.int .i64 tsn, .int .i64 tso, .slice LA n lc, .slice RA dn rc] 35)) 26 #[.slice none 0 0, .int .i64 0, .int .i64 0, .int .i64 0, .int .i64 0, .int .i64 0]
  simp only [World.size_alloc] at b1 b2
  have HB := Lib.hid hal; have HG := Lib.hid b0; have HT := Lib.hid b1; have HRS := Lib.hid b2; have HC := Lib.hid hC; have HD := Lib.hid hD; have HL := Lib.hid hL; have HR := Lib.hid hR; have HCL := Lib.hid hcl; have HDL := Lib.hid hdl
  clear hal b0 b1 b2 hC hD hL hR hcl hdl
  obtain ⟨i0, hi0, hz0, hz1, hz2⟩ := info_parts infoCelR
  have HI0 := Lib.hid hi0; have HZ0 := Lib.hid hz0; have HZ1 := Lib.hid hz1; have HZ2 := Lib.hid hz2
  clear hi0 hz0 hz1 hz2
  obtain ⟨j0, hj0, hy0, hy1, hy2⟩ := info_parts infoDayR
  have HJ0 := Lib.hid hj0; have HY0 := Lib.hid hy0; have HY1 := Lib.hid hy1; have HY2 := Lib.hid hy2
  clear hj0 hy0 hy1 hy2
  go_enter Tryz.func8, Tryz.ntmps8
  go_upto_region 1 with fail
  revert HB HG HT HRS
  generalize World.alloc (World.alloc (World.alloc w _) _) _ = w1
  intro HB HG HT HRS
  go_cut [8] (fun pv wx => ∃ B8 g c, pv = .pointer (some ⟨B8, 0, none⟩) ∧ KnI w #[.int .i64 tsn, .int .i64 tso, .slice LA n lc, .slice RA dn rc] B8 tsn so0 so1 melt (.slice (some ⟨g, 0, none⟩) n c) n C (.slice none 0 0) 0 [] wx)
  case first =>
    have t0 := HT.out.cell 0; have g3 := HG.out.cell 3; have g4 := HG.out.cell 4; have g5 := HG.out.cell 5; have g0 := HG.out.cell 0
    simp at t0 g3 g4 g5 g0
    refine wp_region_till [15] (fun U => U.cell? ⟨w.heap.size + 1, 0, none⟩ = some (.int .i64 tsn) ∧ U.cell? ⟨w.heap.size, 3, none⟩ = some (.int .i64 so0) ∧ U.cell? ⟨w.heap.size, 4, none⟩ = some (.int .i64 so1) ∧ U.cell? ⟨w.heap.size, 5, none⟩ = some (.int .i64 melt) ∧ U.cell? ⟨w.heap.size, 0, none⟩ = some (.slice CA n cc)) (by kernel_rfl) (by exact ⟨t0, g3, g4, g5, g0⟩) (fun hHeld => ?_)
    have hb9 := (Below.refl w1.heap.size w1).drew
    have t0 := below_tr HB.out hb9; have t1 := HG.out.below hb9 HG.out.lt; have t2 := HT.out.below hb9 HT.out.lt; have t3 := HRS.out.below hb9 HRS.out.lt
    clear HB HG HT HRS
    have HB := Lib.hid t0; have HG := Lib.hid t1; have HT := Lib.hid t2; have HRS := Lib.hid t3
    clear t0 t1 t2 t3
    clear hb9
    revert hHeld HB HG HT HRS
    generalize w1.drew = w0
    intro hHeld HB HG HT HRS
    (refine wpAnyL_take (n := 0) (i := 0) (oi := ?ox1) (v := ?vx1) ?hix1 ?k1x1 ?k2x1 ?k3x1 ?k4x1 ?k5x1 ?k6x1 ?hQx1 ?hYx1 ?hSx1 ?restx1; (case hix1 => (simp only [List.getElem?_toArray, List.getElem?_cons_succ, List.getElem?_cons_zero]; exact rfl)); (case k1x1 => kernel_rfl); (case k2x1 => kernel_rfl); (case k3x1 => kernel_rfl); (case k4x1 => kernel_rfl); (case k5x1 => kernel_rfl); (case k6x1 => kernel_rfl); (case hSx1 => assumption); (case hYx1 => (refine Or.inl ⟨rfl, ?hyx1⟩; intro w hSw; (try dsimp only at hSw); go_simp; (try with_reducible rfl))); (case hQx1 => exact (fun _ _ _ h => h)); (try simp only [Act.put, List.setIfInBounds_toArray, List.set_cons_zero, List.set_cons_succ]))
    (refine wpAnyL_take (n := 0) (i := 1) (oi := ?ox2) (v := ?vx2) ?hix2 ?k1x2 ?k2x2 ?k3x2 ?k4x2 ?k5x2 ?k6x2 ?hQx2 ?hYx2 ?hSx2 ?restx2; (case hix2 => (simp only [List.getElem?_toArray, List.getElem?_cons_succ, List.getElem?_cons_zero]; exact rfl)); (case k1x2 => kernel_rfl); (case k2x2 => kernel_rfl); (case k3x2 => kernel_rfl); (case k4x2 => kernel_rfl); (case k5x2 => kernel_rfl); (case k6x2 => kernel_rfl); (case hSx2 => assumption); (case hYx2 => (refine Or.inl ⟨rfl, ?hyx2⟩; intro w hSw; (try dsimp only at hSw); go_simp; (try with_reducible rfl))); (case hQx2 => exact (fun _ _ _ h => h)); (try simp only [Act.put, List.setIfInBounds_toArray, List.set_cons_zero, List.set_cons_succ]))
    (refine wpAnyL_take (n := 0) (i := 2) (oi := ?ox3) (v := ?vx3) ?hix3 ?k1x3 ?k2x3 ?k3x3 ?k4x3 ?k5x3 ?k6x3 ?hQx3 ?hYx3 ?hSx3 ?restx3; (case hix3 => (simp only [List.getElem?_toArray, List.getElem?_cons_succ, List.getElem?_cons_zero]; exact rfl)); (case k1x3 => kernel_rfl); (case k2x3 => kernel_rfl); (case k3x3 => kernel_rfl); (case k4x3 => kernel_rfl); (case k5x3 => kernel_rfl); (case k6x3 => kernel_rfl); (case hSx3 => assumption); (case hYx3 => (refine Or.inl ⟨rfl, ?hyx3⟩; intro w hSw; (try dsimp only at hSw); go_simp; (try with_reducible rfl))); (case hQx3 => exact (fun _ _ _ h => h)); (try simp only [Act.put, List.setIfInBounds_toArray, List.set_cons_zero, List.set_cons_succ]))
    (refine wpAnyL_take (n := 0) (i := 3) (oi := ?ox4) (v := ?vx4) ?hix4 ?k1x4 ?k2x4 ?k3x4 ?k4x4 ?k5x4 ?k6x4 ?hQx4 ?hYx4 ?hSx4 ?restx4; (case hix4 => (simp only [List.getElem?_toArray, List.getElem?_cons_succ, List.getElem?_cons_zero]; exact rfl)); (case k1x4 => kernel_rfl); (case k2x4 => kernel_rfl); (case k3x4 => kernel_rfl); (case k4x4 => kernel_rfl); (case k5x4 => kernel_rfl); (case k6x4 => kernel_rfl); (case hSx4 => assumption); (case hYx4 => (refine Or.inl ⟨rfl, ?hyx4⟩; intro w hSw; (try dsimp only at hSw); go_simp; (try with_reducible rfl))); (case hQx4 => exact (fun _ _ _ h => h)); (try simp only [Act.put, List.setIfInBounds_toArray, List.set_cons_zero, List.set_cons_succ]))
    (refine wpAnyL_take (n := 0) (i := 4) (oi := ?ox5) (v := ?vx5) ?hix5 ?k1x5 ?k2x5 ?k3x5 ?k4x5 ?k5x5 ?k6x5 ?hQx5 ?hYx5 ?hSx5 ?restx5; (case hix5 => (simp only [List.getElem?_toArray, List.getElem?_cons_succ, List.getElem?_cons_zero]; exact rfl)); (case k1x5 => kernel_rfl); (case k2x5 => kernel_rfl); (case k3x5 => kernel_rfl); (case k4x5 => kernel_rfl); (case k5x5 => kernel_rfl); (case k6x5 => kernel_rfl); (case hSx5 => assumption); (case hYx5 => (refine Or.inl ⟨rfl, ?hyx5⟩; intro w hSw; (try dsimp only at hSw); go_simp; (try with_reducible rfl))); (case hQx5 => exact (fun _ _ _ h => h)); (try simp only [Act.put, List.setIfInBounds_toArray, List.set_cons_zero, List.set_cons_succ]))
    (refine wpAnyL_take (n := 0) (i := 5) (oi := ?ox6) (v := ?vx6) ?hix6 ?k1x6 ?k2x6 ?k3x6 ?k4x6 ?k5x6 ?k6x6 ?hQx6 ?hYx6 ?hSx6 ?restx6; (case hix6 => (simp only [List.getElem?_toArray, List.getElem?_cons_succ, List.getElem?_cons_zero]; exact rfl)); (case k1x6 => kernel_rfl); (case k2x6 => kernel_rfl); (case k3x6 => kernel_rfl); (case k4x6 => kernel_rfl); (case k5x6 => kernel_rfl); (case k6x6 => kernel_rfl); (case hSx6 => assumption); (case hYx6 => (refine Or.inl ⟨rfl, ?hyx6⟩; intro w hSw; (try dsimp only at hSw); go_simp; (try with_reducible rfl))); (case hQx6 => exact (fun _ _ _ h => h)); (try simp only [Act.put, List.setIfInBounds_toArray, List.set_cons_zero, List.set_cons_succ]))
    (refine wpAnyL_take (n := 0) (i := 6) (oi := ?ox7) (v := ?vx7) ?hix7 ?k1x7 ?k2x7 ?k3x7 ?k4x7 ?k5x7 ?k6x7 ?hQx7 ?hYx7 ?hSx7 ?restx7; (case hix7 => (simp only [List.getElem?_toArray, List.getElem?_cons_succ, List.getElem?_cons_zero]; exact rfl)); (case k1x7 => kernel_rfl); (case k2x7 => kernel_rfl); (case k3x7 => kernel_rfl); (case k4x7 => kernel_rfl); (case k5x7 => kernel_rfl); (case k6x7 => kernel_rfl); (case hSx7 => assumption); (case hYx7 => (refine Or.inl ⟨rfl, ?hyx7⟩; intro w hSw; (try dsimp only at hSw); go_simp; (try with_reducible rfl))); (case hQx7 => exact (fun _ _ _ h => h)); (try simp only [Act.put, List.setIfInBounds_toArray, List.set_cons_zero, List.set_cons_succ]))
    (refine wpAnyL_take (n := 0) (i := 7) (oi := ?ox8) (v := ?vx8) ?hix8 ?k1x8 ?k2x8 ?k3x8 ?k4x8 ?k5x8 ?k6x8 ?hQx8 ?hYx8 ?hSx8 ?restx8; (case hix8 => (simp only [List.getElem?_toArray, List.getElem?_cons_succ, List.getElem?_cons_zero]; exact rfl)); (case k1x8 => kernel_rfl); (case k2x8 => kernel_rfl); (case k3x8 => kernel_rfl); (case k4x8 => kernel_rfl); (case k5x8 => kernel_rfl); (case k6x8 => kernel_rfl); (case hSx8 => assumption); (case hYx8 => (refine Or.inl ⟨rfl, ?hyx8⟩; intro w hSw; (try dsimp only at hSw); go_simp; (try with_reducible rfl))); (case hQx8 => exact (fun _ _ _ h => h)); (try simp only [Act.put, List.setIfInBounds_toArray, List.set_cons_zero, List.set_cons_succ]))
    (refine wpAnyL_take (n := 0) (i := 8) (oi := ?ox9) (v := ?vx9) ?hix9 ?k1x9 ?k2x9 ?k3x9 ?k4x9 ?k5x9 ?k6x9 ?hQx9 ?hYx9 ?hSx9 ?restx9; (case hix9 => (simp only [List.getElem?_toArray, List.getElem?_cons_succ, List.getElem?_cons_zero]; exact rfl)); (case k1x9 => kernel_rfl); (case k2x9 => kernel_rfl); (case k3x9 => kernel_rfl); (case k4x9 => kernel_rfl); (case k5x9 => kernel_rfl); (case k6x9 => kernel_rfl); (case hSx9 => assumption); (case hYx9 => (refine Or.inl ⟨rfl, ?hyx9⟩; intro w hSw; (try dsimp only at hSw); go_simp; (try with_reducible rfl))); (case hQx9 => exact (fun _ _ _ h => h)); (try simp only [Act.put, List.setIfInBounds_toArray, List.set_cons_zero, List.set_cons_succ]))
    (refine wpAnyL_take (n := 0) (i := 10) (oi := ?ox10) (v := ?vx10) ?hix10 ?k1x10 ?k2x10 ?k3x10 ?k4x10 ?k5x10 ?k6x10 ?hQx10 ?hYx10 ?hSx10 ?restx10; (case hix10 => (simp only [List.getElem?_toArray, List.getElem?_cons_succ, List.getElem?_cons_zero]; exact rfl)); (case k1x10 => kernel_rfl); (case k2x10 => kernel_rfl); (case k3x10 => kernel_rfl); (case k4x10 => kernel_rfl); (case k5x10 => kernel_rfl); (case k6x10 => kernel_rfl); (case hSx10 => assumption); (case hYx10 => (refine Or.inl ⟨rfl, ?hyx10⟩; intro w hSw; (try dsimp only at hSw); go_simp; (try with_reducible rfl))); (case hQx10 => exact (fun _ _ _ h => h)); (try simp only [Act.put, List.setIfInBounds_toArray, List.set_cons_zero, List.set_cons_succ]))
    (refine wpAnyL_take (n := 0) (i := 11) (oi := ?ox11) (v := ?vx11) ?hix11 ?k1x11 ?k2x11 ?k3x11 ?k4x11 ?k5x11 ?k6x11 ?hQx11 ?hYx11 ?hSx11 ?restx11; (case hix11 => (simp only [List.getElem?_toArray, List.getElem?_cons_succ, List.getElem?_cons_zero]; exact rfl)); (case k1x11 => kernel_rfl); (case k2x11 => kernel_rfl); (case k3x11 => kernel_rfl); (case k4x11 => kernel_rfl); (case k5x11 => kernel_rfl); (case k6x11 => kernel_rfl); (case hSx11 => assumption); (case hYx11 => (refine Or.inl ⟨rfl, ?hyx11⟩; intro w hSw; (try dsimp only at hSw); go_simp; (try with_reducible rfl))); (case hQx11 => exact (fun _ _ _ h => h)); (try simp only [Act.put, List.setIfInBounds_toArray, List.set_cons_zero, List.set_cons_succ]))
    refine wpAnyL_ready (rs := [9, 14]) (by kernel_rfl) (by simp) ?_
    refine AllReadyL.cons (o := ?o9x12) ?hi9x12 (fun K hK => ?_) (AllReadyL.cons (o := ?o14x12) ?hi14x12 (fun K hK => ?_) AllReadyL.nil)
    (case hi9x12 => (simp only [List.getElem?_toArray, List.getElem?_cons_succ, List.getElem?_cons_zero]; exact rfl))
    (case hi14x12 => (simp only [List.getElem?_toArray, List.getElem?_cons_succ, List.getElem?_cons_zero]; exact rfl))
    · skip
      go_simp
      have hb9 := (Below.refl w0.heap.size w0).alloc (Nat.le_refl _) (.cells #[] 76)
      have ho9 := own_low (own_empty w0 76 7) HB.out.size
      have t0 := below_tr HB.out hb9; have t1 := HG.out.below hb9 HG.out.lt; have t2 := HT.out.below hb9 HT.out.lt; have t3 := HRS.out.below hb9 HRS.out.lt
      clear HB HG HT HRS
      have HB := Lib.hid t0; have HG := Lib.hid t1; have HT := Lib.hid t2; have HRS := Lib.hid t3
      clear t0 t1 t2 t3
      have HE := Lib.hid ho9
      clear hb9 ho9
      (try clear hHeld)
      refine hK.out _ _ (by (try dsimp only); exact ⟨by simpa using HT.out.cell 0, by simpa using HG.out.cell 3, by simpa using HG.out.cell 4, by simpa using HG.out.cell 5, by simpa using HG.out.cell 0⟩) (fun hHeld => ?_)
      clear hK K
      (try simp only [Act.put, List.setIfInBounds_toArray, List.set_cons_zero, List.set_cons_succ])
      revert hHeld HB HG HT HRS HE
      generalize hgE : w0.heap.size = gE
      generalize (World.alloc w0 (.cells #[] 76)) = w0
      intro HB HG HT HRS HE hHeld
      clear hgE
      refine wpAnyL_ready (rs := [12, 14]) (by kernel_rfl) (by simp) ?_
      refine AllReadyL.cons (o := ?o12x13) ?hi12x13 (fun K hK => ?_) (AllReadyL.cons (o := ?o14x13) ?hi14x13 (fun K hK => ?_) AllReadyL.nil)
      (case hi12x13 => (simp only [List.getElem?_toArray, List.getElem?_cons_succ, List.getElem?_cons_zero]; exact rfl))
      (case hi14x13 => (simp only [List.getElem?_toArray, List.getElem?_cons_succ, List.getElem?_cons_zero]; exact rfl))
      · skip
        refine step_append_rd rfl _ _ 22 rfl w.heap.size 76 i0 _ 7 56 Tryz.underlying22 HI0.out HZ0.out HZ1.out HZ2.out (by simp [go_sem]) (by decide) _ 0 [] rfl HE.out encCel_len oneCelT CA n cc C rfl (HC.out.below HB.out) (by unfold maxLen; omega) (by omega) HB.out.size ?_
        intro v' w3 hown3 hgrow
        rw [Nat.zero_add, List.nil_append] at hown3
        obtain ⟨g, c, rfl, hcn⟩ := own_pos hown3 (by omega)
        have kb : ∀ {b : Nat} {t : TypeId} {cs : Array Value}, Blk w0 b t cs → t ≠ 76 → Blk w3 b t cs := fun hb ht => hb.grown hgrow (fun e => own_blk_ne HE.out hb (fun e' => ht e'.symm) e.symm)
        have hg9 := kb HG.out (by decide); have ht9 := kb HT.out (by decide); have hr9 := kb HRS.out (by decide)
        (first
          | (have ha9 := kb HA.out (by decide); clear HA; have HA := Lib.hid ha9; clear ha9)
          | skip)
        have hb9 := HB.out.grown hgrow HB.out.size (fun b hb => (HE.out.lt b hb).1)
        clear HG HT HRS HB HE
        have HG := Lib.hid hg9; have HT := Lib.hid ht9; have HRS := Lib.hid hr9; have HB := Lib.hid hb9; have HO := Lib.hid hown3
        clear hg9 ht9 hr9 hb9 hown3 hgrow kb
        (try clear hHeld)
        refine hK.out _ _ (by (try dsimp only); exact ⟨by simpa using HT.out.cell 0, by simpa using HG.out.cell 3, by simpa using HG.out.cell 4, by simpa using HG.out.cell 5, by simpa using HG.out.cell 0⟩) (fun hHeld => ?_)
        clear hK K
        (try simp only [Act.put, List.setIfInBounds_toArray, List.set_cons_zero, List.set_cons_succ])
        (refine wpAnyL_take (n := 0) (i := 13) (oi := ?ox14) (v := ?vx14) ?hix14 ?k1x14 ?k2x14 ?k3x14 ?k4x14 ?k5x14 ?k6x14 ?hQx14 ?hYx14 ?hSx14 ?restx14; (case hix14 => (simp only [List.getElem?_toArray, List.getElem?_cons_succ, List.getElem?_cons_zero]; exact rfl)); (case k1x14 => kernel_rfl); (case k2x14 => kernel_rfl); (case k3x14 => kernel_rfl); (case k4x14 => kernel_rfl); (case k5x14 => kernel_rfl); (case k6x14 => kernel_rfl); (case hSx14 => assumption); (case hYx14 => (refine Or.inl ⟨rfl, ?hyx14⟩; intro w hSw; (try dsimp only at hSw); go_simp; (try with_reducible rfl))); (case hQx14 => exact (fun _ _ _ h => h)); (try simp only [Act.put, List.setIfInBounds_toArray, List.set_cons_zero, List.set_cons_succ]))
        refine wpAnyL_ready (rs := [14]) (by kernel_rfl) (by simp) ?_
        refine AllReadyL.cons (o := ?o14x15) ?hi14x15 (fun K hK => ?_) AllReadyL.nil
        (case hi14x15 => (simp only [List.getElem?_toArray, List.getElem?_cons_succ, List.getElem?_cons_zero]; exact rfl))
        go_simp
        have hb9 := (Below.refl w3.heap.size w3).alloc (Nat.le_refl _) (.cells #[.slice none 0 0, .int .i64 0, .int .i64 0, .int .i64 0, .int .i64 0, .int .i64 0] 26)
        have hn := Blk.new w3 26 #[.slice none 0 0, .int .i64 0, .int .i64 0, .int .i64 0, .int .i64 0, .int .i64 0]
        have HGA := Lib.hid (show w.heap.size + 1 + 1 < w3.heap.size from HRS.out.lt)
        have t0 := below_tr HB.out hb9; have t1 := HG.out.below hb9 HG.out.lt; have t2 := HT.out.below hb9 HT.out.lt; have t3 := HRS.out.below hb9 HRS.out.lt; have t4 := own_mono HO.out hb9
        clear HB HG HT HRS HO
        have HB := Lib.hid t0; have HG := Lib.hid t1; have HT := Lib.hid t2; have HRS := Lib.hid t3; have HO := Lib.hid t4
        clear t0 t1 t2 t3 t4
        have HA := Lib.hid hn
        clear hb9 hn
        (try clear hHeld)
        refine hK.out _ _ (by (try dsimp only); exact ⟨by simpa using HT.out.cell 0, by simpa using HG.out.cell 3, by simpa using HG.out.cell 4, by simpa using HG.out.cell 5, by simpa using HG.out.cell 0⟩) (fun hHeld => ?_)
        clear hK K
        (try simp only [Act.put, List.setIfInBounds_toArray, List.set_cons_zero, List.set_cons_succ])
        revert hHeld HGA HB HG HT HRS HO HA
        generalize hgA : w3.heap.size = gA
        generalize (World.alloc w3 (.cells #[.slice none 0 0, .int .i64 0, .int .i64 0, .int .i64 0, .int .i64 0, .int .i64 0] 26)) = w0
        intro HGA HB HG HT HRS HO HA hHeld
        clear hgA
        refine wpAnyL_ready (rs := [15]) (by kernel_rfl) (by simp) ?_
        refine AllReadyL.last (o := ?o15x16) ?hi15x16 ?he15x16 (fun K hK => ?_) AllReadyL.nil
        (case hi15x16 => (simp only [List.getElem?_toArray, List.getElem?_cons_succ, List.getElem?_cons_zero]; exact rfl))
        (case he15x16 => kernel_rfl)
        have s0 := HA.out.cell 0; have s1 := HA.out.cell 1; have s2 := HA.out.cell 2; have s3 := HA.out.cell 3; have s4 := HA.out.cell 4; have s5 := HA.out.cell 5
        have f0 := HA.out.frozen 0; have f1 := HA.out.frozen 1; have f2 := HA.out.frozen 2; have f3 := HA.out.frozen 3; have f4 := HA.out.frozen 4; have f5 := HA.out.frozen 5
        (try simp at s0 s1 s2 s3 s4 s5)
        go_simp
        (try clear hHeld)
        refine hK.out _ _ ?_
        clear hK K
        (try simp only [Act.put, List.setIfInBounds_toArray, List.set_cons_zero, List.set_cons_succ])
        (refine wpAnyL_done (by kernel_rfl) ?_ _)
        clear s0 s1 s2 s3 s4 s5 f0 f1 f2 f3 f4 f5
        go_wp2_with fail
        go_meet
        have kb := (((((HA.out.set_ 0 (.slice (some ⟨g, 0, none⟩) n c)).set_ 1 (.int .i64 tsn)).set_ 2 (.int .i64 tsn)).set_ 3 (.int .i64 so0)).set_ 4 (.int .i64 so1)).set_ 5 (.int .i64 melt)
        have hga := HGA.out
        have hf : Fr (fun g => g = gA) w0 ((((((w0.setCell ⟨gA, 0, none⟩ (.slice (some ⟨g, 0, none⟩) n c)).setCell ⟨gA, 1, none⟩ (.int .i64 tsn)).setCell ⟨gA, 2, none⟩ (.int .i64 tsn)).setCell ⟨gA, 3, none⟩ (.int .i64 so0)).setCell ⟨gA, 4, none⟩ (.int .i64 so1)).setCell ⟨gA, 5, none⟩ (.int .i64 melt)) := Fr.setAt (Fr.setAt (Fr.setAt (Fr.setAt (Fr.setAt (Fr.setAt (E := fun g => g = gA) (Fr.refl _ _) (p := ⟨gA, 0, none⟩) (.inl rfl) _) (p := ⟨gA, 1, none⟩) (.inl rfl) _) (p := ⟨gA, 2, none⟩) (.inl rfl) _) (p := ⟨gA, 3, none⟩) (.inl rfl) _) (p := ⟨gA, 4, none⟩) (.inl rfl) _) (p := ⟨gA, 5, none⟩) (.inl rfl) _
        exact ⟨gA, g, c, rfl, by simpa using kb, hf.blk HT.out (by omega), hf.blk HRS.out (by omega), hf.row HO.out (fun b hb e => by subst e; exact own_blk_ne HO.out HA.out (by decide) hb), World.ownsRow_nil _ _ _ _, HB.out.trans (hf.below HB.out.size (fun g e => by subst e; omega)), hga⟩
      · skip
        go_simp
        have hb9 := (Below.refl w0.heap.size w0).alloc (Nat.le_refl _) (.cells #[.slice none 0 0, .int .i64 0, .int .i64 0, .int .i64 0, .int .i64 0, .int .i64 0] 26)
        have hn := Blk.new w0 26 #[.slice none 0 0, .int .i64 0, .int .i64 0, .int .i64 0, .int .i64 0, .int .i64 0]
        have HGA := Lib.hid (show w.heap.size + 1 + 1 < w0.heap.size from HRS.out.lt)
        have t0 := below_tr HB.out hb9; have t1 := HG.out.below hb9 HG.out.lt; have t2 := HT.out.below hb9 HT.out.lt; have t3 := HRS.out.below hb9 HRS.out.lt; have t4 := own_mono HE.out hb9
        clear HB HG HT HRS HE
        have HB := Lib.hid t0; have HG := Lib.hid t1; have HT := Lib.hid t2; have HRS := Lib.hid t3; have HE := Lib.hid t4
        clear t0 t1 t2 t3 t4
        have HA := Lib.hid hn
        clear hb9 hn
        (try clear hHeld)
        refine hK.out _ _ (by (try dsimp only); exact ⟨by simpa using HT.out.cell 0, by simpa using HG.out.cell 3, by simpa using HG.out.cell 4, by simpa using HG.out.cell 5, by simpa using HG.out.cell 0⟩) (fun hHeld => ?_)
        clear hK K
        (try simp only [Act.put, List.setIfInBounds_toArray, List.set_cons_zero, List.set_cons_succ])
        revert hHeld HGA HB HG HT HRS HE HA
        generalize hgA : w0.heap.size = gA
        generalize (World.alloc w0 (.cells #[.slice none 0 0, .int .i64 0, .int .i64 0, .int .i64 0, .int .i64 0, .int .i64 0] 26)) = w0
        intro HGA HB HG HT HRS HE HA hHeld
        clear hgA
        refine wpAnyL_ready (rs := [12]) (by kernel_rfl) (by simp) ?_
        refine AllReadyL.cons (o := ?o12x17) ?hi12x17 (fun K hK => ?_) AllReadyL.nil
        (case hi12x17 => (simp only [List.getElem?_toArray, List.getElem?_cons_succ, List.getElem?_cons_zero]; exact rfl))
        refine step_append_rd rfl _ _ 22 rfl w.heap.size 76 i0 _ 7 56 Tryz.underlying22 HI0.out HZ0.out HZ1.out HZ2.out (by simp [go_sem]) (by decide) _ 0 [] rfl HE.out encCel_len oneCelT CA n cc C rfl (HC.out.below HB.out) (by unfold maxLen; omega) (by omega) HB.out.size ?_
        intro v' w3 hown3 hgrow
        rw [Nat.zero_add, List.nil_append] at hown3
        obtain ⟨g, c, rfl, hcn⟩ := own_pos hown3 (by omega)
        have kb : ∀ {b : Nat} {t : TypeId} {cs : Array Value}, Blk w0 b t cs → t ≠ 76 → Blk w3 b t cs := fun hb ht => hb.grown hgrow (fun e => own_blk_ne HE.out hb (fun e' => ht e'.symm) e.symm)
        have hg9 := kb HG.out (by decide); have ht9 := kb HT.out (by decide); have hr9 := kb HRS.out (by decide)
        (first
          | (have ha9 := kb HA.out (by decide); clear HA; have HA := Lib.hid ha9; clear ha9)
          | skip)
        have hb9 := HB.out.grown hgrow HB.out.size (fun b hb => (HE.out.lt b hb).1)
        clear HG HT HRS HB HE
        have HG := Lib.hid hg9; have HT := Lib.hid ht9; have HRS := Lib.hid hr9; have HB := Lib.hid hb9; have HO := Lib.hid hown3
        clear hg9 ht9 hr9 hb9 hown3 hgrow kb
        (try clear hHeld)
        refine hK.out _ _ (by (try dsimp only); exact ⟨by simpa using HT.out.cell 0, by simpa using HG.out.cell 3, by simpa using HG.out.cell 4, by simpa using HG.out.cell 5, by simpa using HG.out.cell 0⟩) (fun hHeld => ?_)
        clear hK K
        (try simp only [Act.put, List.setIfInBounds_toArray, List.set_cons_zero, List.set_cons_succ])
        (refine wpAnyL_take (n := 0) (i := 13) (oi := ?ox18) (v := ?vx18) ?hix18 ?k1x18 ?k2x18 ?k3x18 ?k4x18 ?k5x18 ?k6x18 ?hQx18 ?hYx18 ?hSx18 ?restx18; (case hix18 => (simp only [List.getElem?_toArray, List.getElem?_cons_succ, List.getElem?_cons_zero]; exact rfl)); (case k1x18 => kernel_rfl); (case k2x18 => kernel_rfl); (case k3x18 => kernel_rfl); (case k4x18 => kernel_rfl); (case k5x18 => kernel_rfl); (case k6x18 => kernel_rfl); (case hSx18 => assumption); (case hYx18 => (refine Or.inl ⟨rfl, ?hyx18⟩; intro w hSw; (try dsimp only at hSw); go_simp; (try with_reducible rfl))); (case hQx18 => exact (fun _ _ _ h => h)); (try simp only [Act.put, List.setIfInBounds_toArray, List.set_cons_zero, List.set_cons_succ]))
        refine wpAnyL_ready (rs := [15]) (by kernel_rfl) (by simp) ?_
        refine AllReadyL.last (o := ?o15x19) ?hi15x19 ?he15x19 (fun K hK => ?_) AllReadyL.nil
        (case hi15x19 => (simp only [List.getElem?_toArray, List.getElem?_cons_succ, List.getElem?_cons_zero]; exact rfl))
        (case he15x19 => kernel_rfl)
        have s0 := HA.out.cell 0; have s1 := HA.out.cell 1; have s2 := HA.out.cell 2; have s3 := HA.out.cell 3; have s4 := HA.out.cell 4; have s5 := HA.out.cell 5
        have f0 := HA.out.frozen 0; have f1 := HA.out.frozen 1; have f2 := HA.out.frozen 2; have f3 := HA.out.frozen 3; have f4 := HA.out.frozen 4; have f5 := HA.out.frozen 5
        (try simp at s0 s1 s2 s3 s4 s5)
        go_simp
        (try clear hHeld)
        refine hK.out _ _ ?_
        clear hK K
        (try simp only [Act.put, List.setIfInBounds_toArray, List.set_cons_zero, List.set_cons_succ])
        (refine wpAnyL_done (by kernel_rfl) ?_ _)
        clear s0 s1 s2 s3 s4 s5 f0 f1 f2 f3 f4 f5
        go_wp2_with fail
        go_meet
        have kb := (((((HA.out.set_ 0 (.slice (some ⟨g, 0, none⟩) n c)).set_ 1 (.int .i64 tsn)).set_ 2 (.int .i64 tsn)).set_ 3 (.int .i64 so0)).set_ 4 (.int .i64 so1)).set_ 5 (.int .i64 melt)
        have hga := HGA.out
        have hf : Fr (fun g => g = gA) w3 ((((((w3.setCell ⟨gA, 0, none⟩ (.slice (some ⟨g, 0, none⟩) n c)).setCell ⟨gA, 1, none⟩ (.int .i64 tsn)).setCell ⟨gA, 2, none⟩ (.int .i64 tsn)).setCell ⟨gA, 3, none⟩ (.int .i64 so0)).setCell ⟨gA, 4, none⟩ (.int .i64 so1)).setCell ⟨gA, 5, none⟩ (.int .i64 melt)) := Fr.setAt (Fr.setAt (Fr.setAt (Fr.setAt (Fr.setAt (Fr.setAt (E := fun g => g = gA) (Fr.refl _ _) (p := ⟨gA, 0, none⟩) (.inl rfl) _) (p := ⟨gA, 1, none⟩) (.inl rfl) _) (p := ⟨gA, 2, none⟩) (.inl rfl) _) (p := ⟨gA, 3, none⟩) (.inl rfl) _) (p := ⟨gA, 4, none⟩) (.inl rfl) _) (p := ⟨gA, 5, none⟩) (.inl rfl) _
        exact ⟨gA, g, c, rfl, by simpa using kb, hf.blk HT.out (by omega), hf.blk HRS.out (by omega), hf.row HO.out (fun b hb e => by subst e; exact own_blk_ne HO.out HA.out (by decide) hb), World.ownsRow_nil _ _ _ _, HB.out.trans (hf.below HB.out.size (fun g e => by subst e; omega)), hga⟩
    · skip
      go_simp
      have hb9 := (Below.refl w0.heap.size w0).alloc (Nat.le_refl _) (.cells #[.slice none 0 0, .int .i64 0, .int .i64 0, .int .i64 0, .int .i64 0, .int .i64 0] 26)
      have hn := Blk.new w0 26 #[.slice none 0 0, .int .i64 0, .int .i64 0, .int .i64 0, .int .i64 0, .int .i64 0]
      have HGA := Lib.hid (show w.heap.size + 1 + 1 < w0.heap.size from HRS.out.lt)
      have t0 := below_tr HB.out hb9; have t1 := HG.out.below hb9 HG.out.lt; have t2 := HT.out.below hb9 HT.out.lt; have t3 := HRS.out.below hb9 HRS.out.lt
      clear HB HG HT HRS
      have HB := Lib.hid t0; have HG := Lib.hid t1; have HT := Lib.hid t2; have HRS := Lib.hid t3
      clear t0 t1 t2 t3
      have HA := Lib.hid hn
      clear hb9 hn
      (try clear hHeld)
      refine hK.out _ _ (by (try dsimp only); exact ⟨by simpa using HT.out.cell 0, by simpa using HG.out.cell 3, by simpa using HG.out.cell 4, by simpa using HG.out.cell 5, by simpa using HG.out.cell 0⟩) (fun hHeld => ?_)
      clear hK K
      (try simp only [Act.put, List.setIfInBounds_toArray, List.set_cons_zero, List.set_cons_succ])
      revert hHeld HGA HB HG HT HRS HA
      generalize hgA : w0.heap.size = gA
      generalize (World.alloc w0 (.cells #[.slice none 0 0, .int .i64 0, .int .i64 0, .int .i64 0, .int .i64 0, .int .i64 0] 26)) = w0
      intro HGA HB HG HT HRS HA hHeld
      clear hgA
      refine wpAnyL_ready (rs := [9]) (by kernel_rfl) (by simp) ?_
      refine AllReadyL.cons (o := ?o9x20) ?hi9x20 (fun K hK => ?_) AllReadyL.nil
      (case hi9x20 => (simp only [List.getElem?_toArray, List.getElem?_cons_succ, List.getElem?_cons_zero]; exact rfl))
      go_simp
      have hb9 := (Below.refl w0.heap.size w0).alloc (Nat.le_refl _) (.cells #[] 76)
      have ho9 := own_low (own_empty w0 76 7) HB.out.size
      have t0 := below_tr HB.out hb9; have t1 := HG.out.below hb9 HG.out.lt; have t2 := HT.out.below hb9 HT.out.lt; have t3 := HRS.out.below hb9 HRS.out.lt; have t4 := HA.out.below hb9 HA.out.lt
      clear HB HG HT HRS HA
      have HB := Lib.hid t0; have HG := Lib.hid t1; have HT := Lib.hid t2; have HRS := Lib.hid t3; have HA := Lib.hid t4
      clear t0 t1 t2 t3 t4
      have HE := Lib.hid ho9
      clear hb9 ho9
      (try clear hHeld)
      refine hK.out _ _ (by (try dsimp only); exact ⟨by simpa using HT.out.cell 0, by simpa using HG.out.cell 3, by simpa using HG.out.cell 4, by simpa using HG.out.cell 5, by simpa using HG.out.cell 0⟩) (fun hHeld => ?_)
      clear hK K
      (try simp only [Act.put, List.setIfInBounds_toArray, List.set_cons_zero, List.set_cons_succ])
      revert hHeld HB HG HT HRS HA HE
      generalize hgE : w0.heap.size = gE
      generalize (World.alloc w0 (.cells #[] 76)) = w0
      intro HB HG HT HRS HA HE hHeld
      clear hgE
      refine wpAnyL_ready (rs := [12]) (by kernel_rfl) (by simp) ?_
      refine AllReadyL.cons (o := ?o12x21) ?hi12x21 (fun K hK => ?_) AllReadyL.nil
      (case hi12x21 => (simp only [List.getElem?_toArray, List.getElem?_cons_succ, List.getElem?_cons_zero]; exact rfl))
      refine step_append_rd rfl _ _ 22 rfl w.heap.size 76 i0 _ 7 56 Tryz.underlying22 HI0.out HZ0.out HZ1.out HZ2.out (by simp [go_sem]) (by decide) _ 0 [] rfl HE.out encCel_len oneCelT CA n cc C rfl (HC.out.below HB.out) (by unfold maxLen; omega) (by omega) HB.out.size ?_
      intro v' w3 hown3 hgrow
      rw [Nat.zero_add, List.nil_append] at hown3
      obtain ⟨g, c, rfl, hcn⟩ := own_pos hown3 (by omega)
      have kb : ∀ {b : Nat} {t : TypeId} {cs : Array Value}, Blk w0 b t cs → t ≠ 76 → Blk w3 b t cs := fun hb ht => hb.grown hgrow (fun e => own_blk_ne HE.out hb (fun e' => ht e'.symm) e.symm)
      have hg9 := kb HG.out (by decide); have ht9 := kb HT.out (by decide); have hr9 := kb HRS.out (by decide)
      (first
        | (have ha9 := kb HA.out (by decide); clear HA; have HA := Lib.hid ha9; clear ha9)
        | skip)
      have hb9 := HB.out.grown hgrow HB.out.size (fun b hb => (HE.out.lt b hb).1)
      clear HG HT HRS HB HE
      have HG := Lib.hid hg9; have HT := Lib.hid ht9; have HRS := Lib.hid hr9; have HB := Lib.hid hb9; have HO := Lib.hid hown3
      clear hg9 ht9 hr9 hb9 hown3 hgrow kb
      (try clear hHeld)
      refine hK.out _ _ (by (try dsimp only); exact ⟨by simpa using HT.out.cell 0, by simpa using HG.out.cell 3, by simpa using HG.out.cell 4, by simpa using HG.out.cell 5, by simpa using HG.out.cell 0⟩) (fun hHeld => ?_)
      clear hK K
      (try simp only [Act.put, List.setIfInBounds_toArray, List.set_cons_zero, List.set_cons_succ])
      (refine wpAnyL_take (n := 0) (i := 13) (oi := ?ox22) (v := ?vx22) ?hix22 ?k1x22 ?k2x22 ?k3x22 ?k4x22 ?k5x22 ?k6x22 ?hQx22 ?hYx22 ?hSx22 ?restx22; (case hix22 => (simp only [List.getElem?_toArray, List.getElem?_cons_succ, List.getElem?_cons_zero]; exact rfl)); (case k1x22 => kernel_rfl); (case k2x22 => kernel_rfl); (case k3x22 => kernel_rfl); (case k4x22 => kernel_rfl); (case k5x22 => kernel_rfl); (case k6x22 => kernel_rfl); (case hSx22 => assumption); (case hYx22 => (refine Or.inl ⟨rfl, ?hyx22⟩; intro w hSw; (try dsimp only at hSw); go_simp; (try with_reducible rfl))); (case hQx22 => exact (fun _ _ _ h => h)); (try simp only [Act.put, List.setIfInBounds_toArray, List.set_cons_zero, List.set_cons_succ]))
      refine wpAnyL_ready (rs := [15]) (by kernel_rfl) (by simp) ?_
      refine AllReadyL.last (o := ?o15x23) ?hi15x23 ?he15x23 (fun K hK => ?_) AllReadyL.nil
      (case hi15x23 => (simp only [List.getElem?_toArray, List.getElem?_cons_succ, List.getElem?_cons_zero]; exact rfl))
      (case he15x23 => kernel_rfl)
      have s0 := HA.out.cell 0; have s1 := HA.out.cell 1; have s2 := HA.out.cell 2; have s3 := HA.out.cell 3; have s4 := HA.out.cell 4; have s5 := HA.out.cell 5
      have f0 := HA.out.frozen 0; have f1 := HA.out.frozen 1; have f2 := HA.out.frozen 2; have f3 := HA.out.frozen 3; have f4 := HA.out.frozen 4; have f5 := HA.out.frozen 5
      (try simp at s0 s1 s2 s3 s4 s5)
      go_simp
      (try clear hHeld)
      refine hK.out _ _ ?_
      clear hK K
      (try simp only [Act.put, List.setIfInBounds_toArray, List.set_cons_zero, List.set_cons_succ])
      (refine wpAnyL_done (by kernel_rfl) ?_ _)
      clear s0 s1 s2 s3 s4 s5 f0 f1 f2 f3 f4 f5
      go_wp2_with fail
      go_meet
      have kb := (((((HA.out.set_ 0 (.slice (some ⟨g, 0, none⟩) n c)).set_ 1 (.int .i64 tsn)).set_ 2 (.int .i64 tsn)).set_ 3 (.int .i64 so0)).set_ 4 (.int .i64 so1)).set_ 5 (.int .i64 melt)
      have hga := HGA.out
      have hf : Fr (fun g => g = gA) w3 ((((((w3.setCell ⟨gA, 0, none⟩ (.slice (some ⟨g, 0, none⟩) n c)).setCell ⟨gA, 1, none⟩ (.int .i64 tsn)).setCell ⟨gA, 2, none⟩ (.int .i64 tsn)).setCell ⟨gA, 3, none⟩ (.int .i64 so0)).setCell ⟨gA, 4, none⟩ (.int .i64 so1)).setCell ⟨gA, 5, none⟩ (.int .i64 melt)) := Fr.setAt (Fr.setAt (Fr.setAt (Fr.setAt (Fr.setAt (Fr.setAt (E := fun g => g = gA) (Fr.refl _ _) (p := ⟨gA, 0, none⟩) (.inl rfl) _) (p := ⟨gA, 1, none⟩) (.inl rfl) _) (p := ⟨gA, 2, none⟩) (.inl rfl) _) (p := ⟨gA, 3, none⟩) (.inl rfl) _) (p := ⟨gA, 4, none⟩) (.inl rfl) _) (p := ⟨gA, 5, none⟩) (.inl rfl) _
      exact ⟨gA, g, c, rfl, by simpa using kb, hf.blk HT.out (by omega), hf.blk HRS.out (by omega), hf.row HO.out (fun b hb e => by subst e; exact own_blk_ne HO.out HA.out (by decide) hb), World.ownsRow_nil _ _ _ _, HB.out.trans (hf.below HB.out.size (fun g e => by subst e; omega)), hga⟩
  case rest =>
    obtain ⟨B8, g, c, rfl, hki⟩ := hcut
    clear HB HG HT HRS
    have g0 := hki.tb.cell 0
    simp at g0
    have HK := Lib.hid hki
    clear hki
    go_wp2_with fail
    clear g0
    go_loopw [9] (fun i wr => ∃ k : Nat, k ≤ n ∧ i = .int .i64 (k : Int) ∧ KnI w #[.int .i64 tsn, .int .i64 tso, .slice LA n lc, .slice RA dn rc] B8 tsn so0 so1 melt (.slice (some ⟨g, 0, none⟩) n c) n (knC C L k) (.slice none 0 0) 0 [] wr) (fun i _ => n - (intOf i).toNat)
    case atStart => exact ⟨0, Nat.zero_le _, rfl, by rw [knC_zero]; exact HK.out⟩
    case round =>
      obtain ⟨k, hk, rfl, hki⟩ := hrel
      clear HK
      have g0 := hki.tb.cell 0
      simp at g0
      by_cases hlt : k < n
      · obtain ⟨b, o, l, rfl, hbl, hl, y0⟩ := (HL.out.below hki.bel).at1 hlt
        have hkC : k < C.length := by rw [HCL.out]; exact hlt
        obtain ⟨x, hx⟩ : ∃ x, C[k]? = some x := ⟨_, List.getElem?_eq_getElem hkC⟩
        have hxx : (knC C L k)[k]? = some x := by rw [knC_get, hx]; simp
        have hlv : lvA L k = l := by unfold lvA; rw [List.getD_eq_getElem?_getD, hl]; rfl
        clear hkC
        have th2 := hki.th.cell 2
        simp at th2
        have hk0 : (0 : Int) ≤ (k : Int) := by omega
        have hkn : (k : Int) < (n : Int) := by omega
        have HX := Lib.hid hx; have HXX := Lib.hid hxx; have HK := Lib.hid hki; have HLV := Lib.hid hlv
        clear hx hxx hki hl hlv
        go_upto_region 5 with fail
        have HBR := Lib.hid (Below.refl wr.heap.size wr)
        refine wp_region_till [16] (fun U => U.cell? ⟨B8, 0, none⟩ = some (.slice (some ⟨g, 0, none⟩) n c) ∧ U.cell? ⟨w.heap.size + 1, 2, none⟩ = some (.slice (some ⟨b, o, none⟩) n lc) ∧ U.cell? ⟨b, o + k, none⟩ = some (.int .i64 l)) (by kernel_rfl) (by exact ⟨g0, th2, y0⟩) (fun hHeld => ?_)
        have hb9 := (Below.refl wr.heap.size wr).drew
        have t0 := below_tr HBR.out hb9; have t1 := HK.out.below hb9
        clear HBR HK
        have HBR := Lib.hid t0; have HK := Lib.hid t1
        clear t0 t1
        clear hb9
        revert hHeld HBR HK
        generalize wr.drew = w0
        intro hHeld HBR HK
        (refine wpAnyL_take (n := 0) (i := 0) (oi := ?ox24) (v := ?vx24) ?hix24 ?k1x24 ?k2x24 ?k3x24 ?k4x24 ?k5x24 ?k6x24 ?hQx24 ?hYx24 ?hSx24 ?restx24; (case hix24 => (simp only [List.getElem?_toArray, List.getElem?_cons_succ, List.getElem?_cons_zero]; exact rfl)); (case k1x24 => kernel_rfl); (case k2x24 => kernel_rfl); (case k3x24 => kernel_rfl); (case k4x24 => kernel_rfl); (case k5x24 => kernel_rfl); (case k6x24 => kernel_rfl); (case hSx24 => assumption); (case hYx24 => (refine Or.inl ⟨rfl, ?hyx24⟩; intro w hSw; (try dsimp only at hSw); go_simp; (try with_reducible rfl))); (case hQx24 => exact (fun _ _ _ h => h)); (try simp only [Act.put, List.setIfInBounds_toArray, List.set_cons_zero, List.set_cons_succ]))
        (refine wpAnyL_take (n := 0) (i := 1) (oi := ?ox25) (v := ?vx25) ?hix25 ?k1x25 ?k2x25 ?k3x25 ?k4x25 ?k5x25 ?k6x25 ?hQx25 ?hYx25 ?hSx25 ?restx25; (case hix25 => (simp only [List.getElem?_toArray, List.getElem?_cons_succ, List.getElem?_cons_zero]; exact rfl)); (case k1x25 => kernel_rfl); (case k2x25 => kernel_rfl); (case k3x25 => kernel_rfl); (case k4x25 => kernel_rfl); (case k5x25 => kernel_rfl); (case k6x25 => kernel_rfl); (case hSx25 => assumption); (case hYx25 => (refine Or.inl ⟨rfl, ?hyx25⟩; intro w hSw; (try dsimp only at hSw); go_simp; (try with_reducible rfl))); (case hQx25 => exact (fun _ _ _ h => h)); (try simp only [Act.put, List.setIfInBounds_toArray, List.set_cons_zero, List.set_cons_succ]))
        (refine wpAnyL_take (n := 0) (i := 2) (oi := ?ox26) (v := ?vx26) ?hix26 ?k1x26 ?k2x26 ?k3x26 ?k4x26 ?k5x26 ?k6x26 ?hQx26 ?hYx26 ?hSx26 ?restx26; (case hix26 => (simp only [List.getElem?_toArray, List.getElem?_cons_succ, List.getElem?_cons_zero]; exact rfl)); (case k1x26 => kernel_rfl); (case k2x26 => kernel_rfl); (case k3x26 => kernel_rfl); (case k4x26 => kernel_rfl); (case k5x26 => kernel_rfl); (case k6x26 => kernel_rfl); (case hSx26 => assumption); (case hYx26 => (refine Or.inl ⟨rfl, ?hyx26⟩; intro w hSw; (try dsimp only at hSw); go_simp; (try with_reducible rfl))); (case hQx26 => exact (fun _ _ _ h => h)); (try simp only [Act.put, List.setIfInBounds_toArray, List.set_cons_zero, List.set_cons_succ]))
        (refine wpAnyL_take (n := 0) (i := 3) (oi := ?ox27) (v := ?vx27) ?hix27 ?k1x27 ?k2x27 ?k3x27 ?k4x27 ?k5x27 ?k6x27 ?hQx27 ?hYx27 ?hSx27 ?restx27; (case hix27 => (simp only [List.getElem?_toArray, List.getElem?_cons_succ, List.getElem?_cons_zero]; exact rfl)); (case k1x27 => kernel_rfl); (case k2x27 => kernel_rfl); (case k3x27 => kernel_rfl); (case k4x27 => kernel_rfl); (case k5x27 => kernel_rfl); (case k6x27 => kernel_rfl); (case hSx27 => assumption); (case hYx27 => (refine Or.inl ⟨rfl, ?hyx27⟩; intro w hSw; (try dsimp only at hSw); go_simp; (try with_reducible rfl))); (case hQx27 => exact (fun _ _ _ h => h)); (try simp only [Act.put, List.setIfInBounds_toArray, List.set_cons_zero, List.set_cons_succ]))
        (refine wpAnyL_take (n := 0) (i := 4) (oi := ?ox28) (v := ?vx28) ?hix28 ?k1x28 ?k2x28 ?k3x28 ?k4x28 ?k5x28 ?k6x28 ?hQx28 ?hYx28 ?hSx28 ?restx28; (case hix28 => (simp only [List.getElem?_toArray, List.getElem?_cons_succ, List.getElem?_cons_zero]; exact rfl)); (case k1x28 => kernel_rfl); (case k2x28 => kernel_rfl); (case k3x28 => kernel_rfl); (case k4x28 => kernel_rfl); (case k5x28 => kernel_rfl); (case k6x28 => kernel_rfl); (case hSx28 => assumption); (case hYx28 => (refine Or.inl ⟨rfl, ?hyx28⟩; intro w hSw; (try dsimp only at hSw); go_simp; (try with_reducible rfl))); (case hQx28 => exact (fun _ _ _ h => h)); (try simp only [Act.put, List.setIfInBounds_toArray, List.set_cons_zero, List.set_cons_succ]))
        (refine wpAnyL_take (n := 0) (i := 5) (oi := ?ox29) (v := ?vx29) ?hix29 ?k1x29 ?k2x29 ?k3x29 ?k4x29 ?k5x29 ?k6x29 ?hQx29 ?hYx29 ?hSx29 ?restx29; (case hix29 => (simp only [List.getElem?_toArray, List.getElem?_cons_succ, List.getElem?_cons_zero]; exact rfl)); (case k1x29 => kernel_rfl); (case k2x29 => kernel_rfl); (case k3x29 => kernel_rfl); (case k4x29 => kernel_rfl); (case k5x29 => kernel_rfl); (case k6x29 => kernel_rfl); (case hSx29 => assumption); (case hYx29 => (refine Or.inl ⟨rfl, ?hyx29⟩; intro w hSw; (try dsimp only at hSw); go_simp; (try with_reducible rfl))); (case hQx29 => exact (fun _ _ _ h => h)); (try simp only [Act.put, List.setIfInBounds_toArray, List.set_cons_zero, List.set_cons_succ]))
        (refine wpAnyL_take (n := 0) (i := 6) (oi := ?ox30) (v := ?vx30) ?hix30 ?k1x30 ?k2x30 ?k3x30 ?k4x30 ?k5x30 ?k6x30 ?hQx30 ?hYx30 ?hSx30 ?restx30; (case hix30 => (simp only [List.getElem?_toArray, List.getElem?_cons_succ, List.getElem?_cons_zero]; exact rfl)); (case k1x30 => kernel_rfl); (case k2x30 => kernel_rfl); (case k3x30 => kernel_rfl); (case k4x30 => kernel_rfl); (case k5x30 => kernel_rfl); (case k6x30 => kernel_rfl); (case hSx30 => assumption); (case hYx30 => (refine Or.inl ⟨rfl, ?hyx30⟩; intro w hSw; (try dsimp only at hSw); go_simp; (try with_reducible rfl))); (case hQx30 => exact (fun _ _ _ h => h)); (try simp only [Act.put, List.setIfInBounds_toArray, List.set_cons_zero, List.set_cons_succ]))
        (refine wpAnyL_take (n := 0) (i := 7) (oi := ?ox31) (v := ?vx31) ?hix31 ?k1x31 ?k2x31 ?k3x31 ?k4x31 ?k5x31 ?k6x31 ?hQx31 ?hYx31 ?hSx31 ?restx31; (case hix31 => (simp only [List.getElem?_toArray, List.getElem?_cons_succ, List.getElem?_cons_zero]; exact rfl)); (case k1x31 => kernel_rfl); (case k2x31 => kernel_rfl); (case k3x31 => kernel_rfl); (case k4x31 => kernel_rfl); (case k5x31 => kernel_rfl); (case k6x31 => kernel_rfl); (case hSx31 => assumption); (case hYx31 => (refine Or.inl ⟨rfl, ?hyx31⟩; intro w hSw; (try dsimp only at hSw); go_simp; (try with_reducible rfl))); (case hQx31 => exact (fun _ _ _ h => h)); (try simp only [Act.put, List.setIfInBounds_toArray, List.set_cons_zero, List.set_cons_succ]))
        (refine wpAnyL_take (n := 0) (i := 8) (oi := ?ox32) (v := ?vx32) ?hix32 ?k1x32 ?k2x32 ?k3x32 ?k4x32 ?k5x32 ?k6x32 ?hQx32 ?hYx32 ?hSx32 ?restx32; (case hix32 => (simp only [List.getElem?_toArray, List.getElem?_cons_succ, List.getElem?_cons_zero]; exact rfl)); (case k1x32 => kernel_rfl); (case k2x32 => kernel_rfl); (case k3x32 => kernel_rfl); (case k4x32 => kernel_rfl); (case k5x32 => kernel_rfl); (case k6x32 => kernel_rfl); (case hSx32 => assumption); (case hYx32 => (refine Or.inl ⟨rfl, ?hyx32⟩; intro w hSw; (try dsimp only at hSw); go_simp; (try with_reducible rfl))); (case hQx32 => exact (fun _ _ _ h => h)); (try simp only [Act.put, List.setIfInBounds_toArray, List.set_cons_zero, List.set_cons_succ]))
        (refine wpAnyL_take (n := 0) (i := 9) (oi := ?ox33) (v := ?vx33) ?hix33 ?k1x33 ?k2x33 ?k3x33 ?k4x33 ?k5x33 ?k6x33 ?hQx33 ?hYx33 ?hSx33 ?restx33; (case hix33 => (simp only [List.getElem?_toArray, List.getElem?_cons_succ, List.getElem?_cons_zero]; exact rfl)); (case k1x33 => kernel_rfl); (case k2x33 => kernel_rfl); (case k3x33 => kernel_rfl); (case k4x33 => kernel_rfl); (case k5x33 => kernel_rfl); (case k6x33 => kernel_rfl); (case hSx33 => assumption); (case hYx33 => (refine Or.inl ⟨rfl, ?hyx33⟩; intro w hSw; (try dsimp only at hSw); go_simp; (try with_reducible rfl))); (case hQx33 => exact (fun _ _ _ h => h)); (try simp only [Act.put, List.setIfInBounds_toArray, List.set_cons_zero, List.set_cons_succ]))
        (refine wpAnyL_take (n := 0) (i := 10) (oi := ?ox34) (v := ?vx34) ?hix34 ?k1x34 ?k2x34 ?k3x34 ?k4x34 ?k5x34 ?k6x34 ?hQx34 ?hYx34 ?hSx34 ?restx34; (case hix34 => (simp only [List.getElem?_toArray, List.getElem?_cons_succ, List.getElem?_cons_zero]; exact rfl)); (case k1x34 => kernel_rfl); (case k2x34 => kernel_rfl); (case k3x34 => kernel_rfl); (case k4x34 => kernel_rfl); (case k5x34 => kernel_rfl); (case k6x34 => kernel_rfl); (case hSx34 => assumption); (case hYx34 => (refine Or.inl ⟨rfl, ?hyx34⟩; intro w hSw; (try dsimp only at hSw); go_simp; (try with_reducible rfl))); (case hQx34 => exact (fun _ _ _ h => h)); (try simp only [Act.put, List.setIfInBounds_toArray, List.set_cons_zero, List.set_cons_succ]))
        (refine wpAnyL_take (n := 0) (i := 11) (oi := ?ox35) (v := ?vx35) ?hix35 ?k1x35 ?k2x35 ?k3x35 ?k4x35 ?k5x35 ?k6x35 ?hQx35 ?hYx35 ?hSx35 ?restx35; (case hix35 => (simp only [List.getElem?_toArray, List.getElem?_cons_succ, List.getElem?_cons_zero]; exact rfl)); (case k1x35 => kernel_rfl); (case k2x35 => kernel_rfl); (case k3x35 => kernel_rfl); (case k4x35 => kernel_rfl); (case k5x35 => kernel_rfl); (case k6x35 => kernel_rfl); (case hSx35 => assumption); (case hYx35 => (refine Or.inl ⟨rfl, ?hyx35⟩; intro w hSw; (try dsimp only at hSw); go_simp; (try with_reducible rfl))); (case hQx35 => exact (fun _ _ _ h => h)); (try simp only [Act.put, List.setIfInBounds_toArray, List.set_cons_zero, List.set_cons_succ]))
        (refine wpAnyL_take (n := 0) (i := 12) (oi := ?ox36) (v := ?vx36) ?hix36 ?k1x36 ?k2x36 ?k3x36 ?k4x36 ?k5x36 ?k6x36 ?hQx36 ?hYx36 ?hSx36 ?restx36; (case hix36 => (simp only [List.getElem?_toArray, List.getElem?_cons_succ, List.getElem?_cons_zero]; exact rfl)); (case k1x36 => kernel_rfl); (case k2x36 => kernel_rfl); (case k3x36 => kernel_rfl); (case k4x36 => kernel_rfl); (case k5x36 => kernel_rfl); (case k6x36 => kernel_rfl); (case hSx36 => assumption); (case hYx36 => (refine Or.inl ⟨rfl, ?hyx36⟩; intro w hSw; (try dsimp only at hSw); go_simp; (try with_reducible rfl))); (case hQx36 => exact (fun _ _ _ h => h)); (try simp only [Act.put, List.setIfInBounds_toArray, List.set_cons_zero, List.set_cons_succ]))
        (refine wpAnyL_take (n := 0) (i := 13) (oi := ?ox37) (v := ?vx37) ?hix37 ?k1x37 ?k2x37 ?k3x37 ?k4x37 ?k5x37 ?k6x37 ?hQx37 ?hYx37 ?hSx37 ?restx37; (case hix37 => (simp only [List.getElem?_toArray, List.getElem?_cons_succ, List.getElem?_cons_zero]; exact rfl)); (case k1x37 => kernel_rfl); (case k2x37 => kernel_rfl); (case k3x37 => kernel_rfl); (case k4x37 => kernel_rfl); (case k5x37 => kernel_rfl); (case k6x37 => kernel_rfl); (case hSx37 => assumption); (case hYx37 => (refine Or.inl ⟨rfl, ?hyx37⟩; intro w hSw; (try dsimp only at hSw); go_simp; (try with_reducible rfl))); (case hQx37 => exact (fun _ _ _ h => h)); (try simp only [Act.put, List.setIfInBounds_toArray, List.set_cons_zero, List.set_cons_succ]))
        (refine wpAnyL_take (n := 1) (i := 14) (oi := ?ox38) (v := ?vx38) ?hix38 ?k1x38 ?k2x38 ?k3x38 ?k4x38 ?k5x38 ?k6x38 ?hQx38 ?hYx38 ?hSx38 ?restx38; (case hix38 => (simp only [List.getElem?_toArray, List.getElem?_cons_succ, List.getElem?_cons_zero]; exact rfl)); (case k1x38 => kernel_rfl); (case k2x38 => kernel_rfl); (case k3x38 => kernel_rfl); (case k4x38 => kernel_rfl); (case k5x38 => kernel_rfl); (case k6x38 => kernel_rfl); (case hSx38 => assumption); (case hYx38 => (refine Or.inl ⟨rfl, ?hyx38⟩; intro w hSw; (try dsimp only at hSw); go_simp; (try with_reducible rfl))); (case hQx38 => exact (fun _ _ _ h => h)); (try simp only [Act.put, List.setIfInBounds_toArray, List.set_cons_zero, List.set_cons_succ]))
        (refine wpAnyL_take (n := 0) (i := 15) (oi := ?ox39) (v := ?vx39) ?hix39 ?k1x39 ?k2x39 ?k3x39 ?k4x39 ?k5x39 ?k6x39 ?hQx39 ?hYx39 ?hSx39 ?restx39; (case hix39 => (simp only [List.getElem?_toArray, List.getElem?_cons_succ, List.getElem?_cons_zero]; exact rfl)); (case k1x39 => kernel_rfl); (case k2x39 => kernel_rfl); (case k3x39 => kernel_rfl); (case k4x39 => kernel_rfl); (case k5x39 => kernel_rfl); (case k6x39 => kernel_rfl); (case hSx39 => assumption); (case hYx39 => (refine Or.inl ⟨rfl, ?hyx39⟩; intro w hSw; (try dsimp only at hSw); go_simp; (try with_reducible rfl))); (case hQx39 => exact (fun _ _ _ h => h)); (try simp only [Act.put, List.setIfInBounds_toArray, List.set_cons_zero, List.set_cons_succ]))
        refine wpAnyL_ready (rs := [16]) (by kernel_rfl) (by simp) ?_
        refine AllReadyL.last (o := ?o16x40) ?hi16x40 ?he16x40 (fun K hK => ?_) AllReadyL.nil
        (case hi16x40 => (simp only [List.getElem?_toArray, List.getElem?_cons_succ, List.getElem?_cons_zero]; exact rfl))
        (case he16x40 => kernel_rfl)
        obtain ⟨v0, s0, q0⟩ := HK.out.cellAt (j := k * 7) (by omega)
        obtain ⟨v1, s1, q1⟩ := HK.out.cellAt (j := k * 7 + 1) (by omega)
        go_simp
        (try clear hHeld)
        refine hK.out _ _ ?_
        clear hK K
        (try simp only [Act.put, List.setIfInBounds_toArray, List.set_cons_zero, List.set_cons_succ])
        (refine wpAnyL_done (by kernel_rfl) ?_ _)
        go_wp2_with fail
        have h9 := HK.out.set2 HXX.out l
        have e9 := knC_succ (L := L) HX.out
        rw [HLV.out] at e9
        rw [← e9] at h9
        go_roundw
        case rel => exact ⟨k + 1, by omega, by go_num, h9⟩
        case measure => simp [intOf] <;> omega
      · obtain rfl : n = k := by omega
        have HK := Lib.hid hki
        clear hki
        go_wp2_with fail
        clear g0
        go_loopw [10, 11] (fun v i wr => ∃ k : Nat, k ≤ dn ∧ i = .int .i64 (k : Int) ∧ KnI w #[.int .i64 tsn, .int .i64 tso, .slice LA n lc, .slice RA dn rc] B8 tsn so0 so1 melt (.slice (some ⟨g, 0, none⟩) n c) n (knC C L n) v k ((knD D Rn).take k) wr) (fun _ i _ => dn - (intOf i).toNat)
        case atStart => exact ⟨0, Nat.zero_le _, rfl, HK.out⟩
        case round =>
          obtain ⟨k, hk, rfl, hki⟩ := hrel
          clear HK
          by_cases hlt : k < dn
          · obtain ⟨b, o, l, rfl, hbl, hl, y0⟩ := (HR.out.below hki.bel).at1 hlt
            obtain ⟨b2, o2, x, rfl, hbl2, hx, z0, z1, z2⟩ := (HD.out.below hki.bel).atDy hlt
            have th3 := hki.th.cell 3
            simp at th3
            have hxx : (knD D Rn)[k]? = some ⟨l, l, x.warm⟩ := by rw [knD_get, hx]; simp [lvA, List.getD_eq_getElem?_getD, hl]
            have hk0 : (0 : Int) ≤ (k : Int) := by omega
            have hkn : (k : Int) < (dn : Int) := by omega
            have HX := Lib.hid hxx; have HT := Lib.hid hki
            clear hx hxx hki hl
            go_upto_region 10 with fail
            have HBR := Lib.hid (Below.refl wr.heap.size wr)
            refine wp_region_till [19] (fun U => U.cell? ⟨w.heap.size + 1, 3, none⟩ = some (.slice (some ⟨b, o, none⟩) dn rc) ∧ U.cell? ⟨b, o + k, none⟩ = some (.int .i64 l) ∧ U.cell? ⟨b2, o2 + k * 3 + 2, none⟩ = some (.int .i64 x.warm)) (by kernel_rfl) (by exact ⟨th3, y0, z2⟩) (fun hHeld => ?_)
            have hb9 := (Below.refl wr.heap.size wr).drew
            have t0 := below_tr HBR.out hb9; have t1 := HT.out.below hb9
            clear HBR HT
            have HBR := Lib.hid t0; have HT := Lib.hid t1
            clear t0 t1
            clear hb9
            revert hHeld HBR HT
            generalize wr.drew = w0
            intro hHeld HBR HT
            (refine wpAnyL_take (n := 0) (i := 0) (oi := ?ox41) (v := ?vx41) ?hix41 ?k1x41 ?k2x41 ?k3x41 ?k4x41 ?k5x41 ?k6x41 ?hQx41 ?hYx41 ?hSx41 ?restx41; (case hix41 => (simp only [List.getElem?_toArray, List.getElem?_cons_succ, List.getElem?_cons_zero]; exact rfl)); (case k1x41 => kernel_rfl); (case k2x41 => kernel_rfl); (case k3x41 => kernel_rfl); (case k4x41 => kernel_rfl); (case k5x41 => kernel_rfl); (case k6x41 => kernel_rfl); (case hSx41 => assumption); (case hYx41 => (refine Or.inl ⟨rfl, ?hyx41⟩; intro w hSw; (try dsimp only at hSw); go_simp; (try with_reducible rfl))); (case hQx41 => exact (fun _ _ _ h => h)); (try simp only [Act.put, List.setIfInBounds_toArray, List.set_cons_zero, List.set_cons_succ]))
            (refine wpAnyL_take (n := 6) (i := 1) (oi := ?ox42) (v := ?vx42) ?hix42 ?k1x42 ?k2x42 ?k3x42 ?k4x42 ?k5x42 ?k6x42 ?hQx42 ?hYx42 ?hSx42 ?restx42; (case hix42 => (simp only [List.getElem?_toArray, List.getElem?_cons_succ, List.getElem?_cons_zero]; exact rfl)); (case k1x42 => kernel_rfl); (case k2x42 => kernel_rfl); (case k3x42 => kernel_rfl); (case k4x42 => kernel_rfl); (case k5x42 => kernel_rfl); (case k6x42 => kernel_rfl); (case hSx42 => assumption); (case hYx42 => (refine Or.inl ⟨rfl, ?hyx42⟩; intro w hSw; (try dsimp only at hSw); go_simp; (try with_reducible rfl))); (case hQx42 => exact (fun _ _ _ h => h)); (try simp only [Act.put, List.setIfInBounds_toArray, List.set_cons_zero, List.set_cons_succ]))
            (refine wpAnyL_take (n := 5) (i := 2) (oi := ?ox43) (v := ?vx43) ?hix43 ?k1x43 ?k2x43 ?k3x43 ?k4x43 ?k5x43 ?k6x43 ?hQx43 ?hYx43 ?hSx43 ?restx43; (case hix43 => (simp only [List.getElem?_toArray, List.getElem?_cons_succ, List.getElem?_cons_zero]; exact rfl)); (case k1x43 => kernel_rfl); (case k2x43 => kernel_rfl); (case k3x43 => kernel_rfl); (case k4x43 => kernel_rfl); (case k5x43 => kernel_rfl); (case k6x43 => kernel_rfl); (case hSx43 => assumption); (case hYx43 => (refine Or.inl ⟨rfl, ?hyx43⟩; intro w hSw; (try dsimp only at hSw); go_simp; (try with_reducible rfl))); (case hQx43 => exact (fun _ _ _ h => h)); (try simp only [Act.put, List.setIfInBounds_toArray, List.set_cons_zero, List.set_cons_succ]))
            (refine wpAnyL_take (n := 5) (i := 3) (oi := ?ox44) (v := ?vx44) ?hix44 ?k1x44 ?k2x44 ?k3x44 ?k4x44 ?k5x44 ?k6x44 ?hQx44 ?hYx44 ?hSx44 ?restx44; (case hix44 => (simp only [List.getElem?_toArray, List.getElem?_cons_succ, List.getElem?_cons_zero]; exact rfl)); (case k1x44 => kernel_rfl); (case k2x44 => kernel_rfl); (case k3x44 => kernel_rfl); (case k4x44 => kernel_rfl); (case k5x44 => kernel_rfl); (case k6x44 => kernel_rfl); (case hSx44 => assumption); (case hYx44 => (refine Or.inl ⟨rfl, ?hyx44⟩; intro w hSw; (try dsimp only at hSw); go_simp; (try with_reducible rfl))); (case hQx44 => exact (fun _ _ _ h => h)); (try simp only [Act.put, List.setIfInBounds_toArray, List.set_cons_zero, List.set_cons_succ]))
            (refine wpAnyL_take (n := 4) (i := 4) (oi := ?ox45) (v := ?vx45) ?hix45 ?k1x45 ?k2x45 ?k3x45 ?k4x45 ?k5x45 ?k6x45 ?hQx45 ?hYx45 ?hSx45 ?restx45; (case hix45 => (simp only [List.getElem?_toArray, List.getElem?_cons_succ, List.getElem?_cons_zero]; exact rfl)); (case k1x45 => kernel_rfl); (case k2x45 => kernel_rfl); (case k3x45 => kernel_rfl); (case k4x45 => kernel_rfl); (case k5x45 => kernel_rfl); (case k6x45 => kernel_rfl); (case hSx45 => assumption); (case hYx45 => (refine Or.inl ⟨rfl, ?hyx45⟩; intro w hSw; (try dsimp only at hSw); go_simp; (try with_reducible rfl))); (case hQx45 => exact (fun _ _ _ h => h)); (try simp only [Act.put, List.setIfInBounds_toArray, List.set_cons_zero, List.set_cons_succ]))
            (refine wpAnyL_take (n := 3) (i := 5) (oi := ?ox46) (v := ?vx46) ?hix46 ?k1x46 ?k2x46 ?k3x46 ?k4x46 ?k5x46 ?k6x46 ?hQx46 ?hYx46 ?hSx46 ?restx46; (case hix46 => (simp only [List.getElem?_toArray, List.getElem?_cons_succ, List.getElem?_cons_zero]; exact rfl)); (case k1x46 => kernel_rfl); (case k2x46 => kernel_rfl); (case k3x46 => kernel_rfl); (case k4x46 => kernel_rfl); (case k5x46 => kernel_rfl); (case k6x46 => kernel_rfl); (case hSx46 => assumption); (case hYx46 => (refine Or.inl ⟨rfl, ?hyx46⟩; intro w hSw; (try dsimp only at hSw); go_simp; (try with_reducible rfl))); (case hQx46 => exact (fun _ _ _ h => h)); (try simp only [Act.put, List.setIfInBounds_toArray, List.set_cons_zero, List.set_cons_succ]))
            (refine wpAnyL_take (n := 6) (i := 6) (oi := ?ox47) (v := ?vx47) ?hix47 ?k1x47 ?k2x47 ?k3x47 ?k4x47 ?k5x47 ?k6x47 ?hQx47 ?hYx47 ?hSx47 ?restx47; (case hix47 => (simp only [List.getElem?_toArray, List.getElem?_cons_succ, List.getElem?_cons_zero]; exact rfl)); (case k1x47 => kernel_rfl); (case k2x47 => kernel_rfl); (case k3x47 => kernel_rfl); (case k4x47 => kernel_rfl); (case k5x47 => kernel_rfl); (case k6x47 => kernel_rfl); (case hSx47 => assumption); (case hYx47 => (refine Or.inl ⟨rfl, ?hyx47⟩; intro w hSw; (try dsimp only at hSw); go_simp; (try with_reducible rfl))); (case hQx47 => exact (fun _ _ _ h => h)); (try simp only [Act.put, List.setIfInBounds_toArray, List.set_cons_zero, List.set_cons_succ]))
            (refine wpAnyL_take (n := 5) (i := 7) (oi := ?ox48) (v := ?vx48) ?hix48 ?k1x48 ?k2x48 ?k3x48 ?k4x48 ?k5x48 ?k6x48 ?hQx48 ?hYx48 ?hSx48 ?restx48; (case hix48 => (simp only [List.getElem?_toArray, List.getElem?_cons_succ, List.getElem?_cons_zero]; exact rfl)); (case k1x48 => kernel_rfl); (case k2x48 => kernel_rfl); (case k3x48 => kernel_rfl); (case k4x48 => kernel_rfl); (case k5x48 => kernel_rfl); (case k6x48 => kernel_rfl); (case hSx48 => assumption); (case hYx48 => (refine Or.inl ⟨rfl, ?hyx48⟩; intro w hSw; (try dsimp only at hSw); go_simp; (try with_reducible rfl))); (case hQx48 => exact (fun _ _ _ h => h)); (try simp only [Act.put, List.setIfInBounds_toArray, List.set_cons_zero, List.set_cons_succ]))
            (refine wpAnyL_take (n := 5) (i := 8) (oi := ?ox49) (v := ?vx49) ?hix49 ?k1x49 ?k2x49 ?k3x49 ?k4x49 ?k5x49 ?k6x49 ?hQx49 ?hYx49 ?hSx49 ?restx49; (case hix49 => (simp only [List.getElem?_toArray, List.getElem?_cons_succ, List.getElem?_cons_zero]; exact rfl)); (case k1x49 => kernel_rfl); (case k2x49 => kernel_rfl); (case k3x49 => kernel_rfl); (case k4x49 => kernel_rfl); (case k5x49 => kernel_rfl); (case k6x49 => kernel_rfl); (case hSx49 => assumption); (case hYx49 => (refine Or.inl ⟨rfl, ?hyx49⟩; intro w hSw; (try dsimp only at hSw); go_simp; (try with_reducible rfl))); (case hQx49 => exact (fun _ _ _ h => h)); (try simp only [Act.put, List.setIfInBounds_toArray, List.set_cons_zero, List.set_cons_succ]))
            (refine wpAnyL_take (n := 4) (i := 9) (oi := ?ox50) (v := ?vx50) ?hix50 ?k1x50 ?k2x50 ?k3x50 ?k4x50 ?k5x50 ?k6x50 ?hQx50 ?hYx50 ?hSx50 ?restx50; (case hix50 => (simp only [List.getElem?_toArray, List.getElem?_cons_succ, List.getElem?_cons_zero]; exact rfl)); (case k1x50 => kernel_rfl); (case k2x50 => kernel_rfl); (case k3x50 => kernel_rfl); (case k4x50 => kernel_rfl); (case k5x50 => kernel_rfl); (case k6x50 => kernel_rfl); (case hSx50 => assumption); (case hYx50 => (refine Or.inl ⟨rfl, ?hyx50⟩; intro w hSw; (try dsimp only at hSw); go_simp; (try with_reducible rfl))); (case hQx50 => exact (fun _ _ _ h => h)); (try simp only [Act.put, List.setIfInBounds_toArray, List.set_cons_zero, List.set_cons_succ]))
            (refine wpAnyL_take (n := 3) (i := 10) (oi := ?ox51) (v := ?vx51) ?hix51 ?k1x51 ?k2x51 ?k3x51 ?k4x51 ?k5x51 ?k6x51 ?hQx51 ?hYx51 ?hSx51 ?restx51; (case hix51 => (simp only [List.getElem?_toArray, List.getElem?_cons_succ, List.getElem?_cons_zero]; exact rfl)); (case k1x51 => kernel_rfl); (case k2x51 => kernel_rfl); (case k3x51 => kernel_rfl); (case k4x51 => kernel_rfl); (case k5x51 => kernel_rfl); (case k6x51 => kernel_rfl); (case hSx51 => assumption); (case hYx51 => (refine Or.inl ⟨rfl, ?hyx51⟩; intro w hSw; (try dsimp only at hSw); go_simp; (try with_reducible rfl))); (case hQx51 => exact (fun _ _ _ h => h)); (try simp only [Act.put, List.setIfInBounds_toArray, List.set_cons_zero, List.set_cons_succ]))
            (refine wpAnyL_take (n := 2) (i := 11) (oi := ?ox52) (v := ?vx52) ?hix52 ?k1x52 ?k2x52 ?k3x52 ?k4x52 ?k5x52 ?k6x52 ?hQx52 ?hYx52 ?hSx52 ?restx52; (case hix52 => (simp only [List.getElem?_toArray, List.getElem?_cons_succ, List.getElem?_cons_zero]; exact rfl)); (case k1x52 => kernel_rfl); (case k2x52 => kernel_rfl); (case k3x52 => kernel_rfl); (case k4x52 => kernel_rfl); (case k5x52 => kernel_rfl); (case k6x52 => kernel_rfl); (case hSx52 => assumption); (case hYx52 => (refine Or.inl ⟨rfl, ?hyx52⟩; intro w hSw; (try dsimp only at hSw); go_simp; (try with_reducible rfl))); (case hQx52 => exact (fun _ _ _ h => h)); (try simp only [Act.put, List.setIfInBounds_toArray, List.set_cons_zero, List.set_cons_succ]))
            (refine wpAnyL_take (n := 5) (i := 12) (oi := ?ox53) (v := ?vx53) ?hix53 ?k1x53 ?k2x53 ?k3x53 ?k4x53 ?k5x53 ?k6x53 ?hQx53 ?hYx53 ?hSx53 ?restx53; (case hix53 => (simp only [List.getElem?_toArray, List.getElem?_cons_succ, List.getElem?_cons_zero]; exact rfl)); (case k1x53 => kernel_rfl); (case k2x53 => kernel_rfl); (case k3x53 => kernel_rfl); (case k4x53 => kernel_rfl); (case k5x53 => kernel_rfl); (case k6x53 => kernel_rfl); (case hSx53 => assumption); (case hYx53 => (refine Or.inl ⟨rfl, ?hyx53⟩; intro w hSw; (try dsimp only at hSw); go_simp; (try with_reducible rfl))); (case hQx53 => exact (fun _ _ _ h => h)); (try simp only [Act.put, List.setIfInBounds_toArray, List.set_cons_zero, List.set_cons_succ]))
            (refine wpAnyL_take (n := 5) (i := 13) (oi := ?ox54) (v := ?vx54) ?hix54 ?k1x54 ?k2x54 ?k3x54 ?k4x54 ?k5x54 ?k6x54 ?hQx54 ?hYx54 ?hSx54 ?restx54; (case hix54 => (simp only [List.getElem?_toArray, List.getElem?_cons_succ, List.getElem?_cons_zero]; exact rfl)); (case k1x54 => kernel_rfl); (case k2x54 => kernel_rfl); (case k3x54 => kernel_rfl); (case k4x54 => kernel_rfl); (case k5x54 => kernel_rfl); (case k6x54 => kernel_rfl); (case hSx54 => assumption); (case hYx54 => (refine Or.inl ⟨rfl, ?hyx54⟩; intro w hSw; (try dsimp only at hSw); go_simp; (try with_reducible rfl))); (case hQx54 => exact (fun _ _ _ h => h)); (try simp only [Act.put, List.setIfInBounds_toArray, List.set_cons_zero, List.set_cons_succ]))
            (refine wpAnyL_take (n := 4) (i := 14) (oi := ?ox55) (v := ?vx55) ?hix55 ?k1x55 ?k2x55 ?k3x55 ?k4x55 ?k5x55 ?k6x55 ?hQx55 ?hYx55 ?hSx55 ?restx55; (case hix55 => (simp only [List.getElem?_toArray, List.getElem?_cons_succ, List.getElem?_cons_zero]; exact rfl)); (case k1x55 => kernel_rfl); (case k2x55 => kernel_rfl); (case k3x55 => kernel_rfl); (case k4x55 => kernel_rfl); (case k5x55 => kernel_rfl); (case k6x55 => kernel_rfl); (case hSx55 => assumption); (case hYx55 => (refine Or.inl ⟨rfl, ?hyx55⟩; intro w hSw; (try dsimp only at hSw); go_simp; (try with_reducible rfl))); (case hQx55 => exact (fun _ _ _ h => h)); (try simp only [Act.put, List.setIfInBounds_toArray, List.set_cons_zero, List.set_cons_succ]))
            (refine wpAnyL_take (n := 3) (i := 15) (oi := ?ox56) (v := ?vx56) ?hix56 ?k1x56 ?k2x56 ?k3x56 ?k4x56 ?k5x56 ?k6x56 ?hQx56 ?hYx56 ?hSx56 ?restx56; (case hix56 => (simp only [List.getElem?_toArray, List.getElem?_cons_succ, List.getElem?_cons_zero]; exact rfl)); (case k1x56 => kernel_rfl); (case k2x56 => kernel_rfl); (case k3x56 => kernel_rfl); (case k4x56 => kernel_rfl); (case k5x56 => kernel_rfl); (case k6x56 => kernel_rfl); (case hSx56 => assumption); (case hYx56 => (refine Or.inl ⟨rfl, ?hyx56⟩; intro w hSw; (try dsimp only at hSw); go_simp; (try with_reducible rfl))); (case hQx56 => exact (fun _ _ _ h => h)); (try simp only [Act.put, List.setIfInBounds_toArray, List.set_cons_zero, List.set_cons_succ]))
            (refine wpAnyL_take (n := 2) (i := 16) (oi := ?ox57) (v := ?vx57) ?hix57 ?k1x57 ?k2x57 ?k3x57 ?k4x57 ?k5x57 ?k6x57 ?hQx57 ?hYx57 ?hSx57 ?restx57; (case hix57 => (simp only [List.getElem?_toArray, List.getElem?_cons_succ, List.getElem?_cons_zero]; exact rfl)); (case k1x57 => kernel_rfl); (case k2x57 => kernel_rfl); (case k3x57 => kernel_rfl); (case k4x57 => kernel_rfl); (case k5x57 => kernel_rfl); (case k6x57 => kernel_rfl); (case hSx57 => assumption); (case hYx57 => (refine Or.inl ⟨rfl, ?hyx57⟩; intro w hSw; (try dsimp only at hSw); go_simp; (try with_reducible rfl))); (case hQx57 => exact (fun _ _ _ h => h)); (try simp only [Act.put, List.setIfInBounds_toArray, List.set_cons_zero, List.set_cons_succ]))
            (refine wpAnyL_take (n := 1) (i := 17) (oi := ?ox58) (v := ?vx58) ?hix58 ?k1x58 ?k2x58 ?k3x58 ?k4x58 ?k5x58 ?k6x58 ?hQx58 ?hYx58 ?hSx58 ?restx58; (case hix58 => (simp only [List.getElem?_toArray, List.getElem?_cons_succ, List.getElem?_cons_zero]; exact rfl)); (case k1x58 => kernel_rfl); (case k2x58 => kernel_rfl); (case k3x58 => kernel_rfl); (case k4x58 => kernel_rfl); (case k5x58 => kernel_rfl); (case k6x58 => kernel_rfl); (case hSx58 => assumption); (case hYx58 => (refine Or.inl ⟨rfl, ?hyx58⟩; intro w hSw; (try dsimp only at hSw); go_simp; (try with_reducible rfl))); (case hQx58 => exact (fun _ _ _ h => h)); (try simp only [Act.put, List.setIfInBounds_toArray, List.set_cons_zero, List.set_cons_succ]))
            refine wpAnyL_ready (rs := [18]) (by kernel_rfl) (by simp) ?_
            refine AllReadyL.cons (o := ?o18x59) ?hi18x59 (fun K hK => ?_) AllReadyL.nil
            (case hi18x59 => (simp only [List.getElem?_toArray, List.getElem?_cons_succ, List.getElem?_cons_zero]; exact rfl))
            go_simp
            have hb9 := (Below.refl w0.heap.size w0).alloc (Nat.le_refl _) (.cells #[.int .i64 l, .int .i64 l, .int .i64 x.warm] 72)
            have hn := Blk.new w0 72 #[.int .i64 l, .int .i64 l, .int .i64 x.warm]
            have t0 := below_tr HBR.out hb9; have t1 := HT.out.below hb9
            clear HBR HT
            have HBR := Lib.hid t0; have HT := Lib.hid t1
            clear t0 t1
            have HA := Lib.hid hn
            clear hb9 hn
            (try clear hHeld)
            refine hK.out _ _ (by (try dsimp only); exact ⟨by simpa using HT.out.th.cell 3, (HBR.out.cell (p := ⟨b, _, none⟩) hbl).trans y0, (HBR.out.cell (p := ⟨b2, _, none⟩) hbl2).trans z2⟩) (fun hHeld => ?_)
            clear hK K
            (try simp only [Act.put, List.setIfInBounds_toArray, List.set_cons_zero, List.set_cons_succ])
            revert hHeld HBR HT HA
            generalize hgA : w0.heap.size = gA
            generalize (World.alloc w0 (.cells #[.int .i64 l, .int .i64 l, .int .i64 x.warm] 72)) = w0
            intro HBR HT HA hHeld
            clear hgA
            refine wpAnyL_ready (rs := [19]) (by kernel_rfl) (by simp) ?_
            refine AllReadyL.last (o := ?o19x60) ?hi19x60 ?he19x60 (fun K hK => ?_) AllReadyL.nil
            (case hi19x60 => (simp only [List.getElem?_toArray, List.getElem?_cons_succ, List.getElem?_cons_zero]; exact rfl))
            (case he19x60 => kernel_rfl)
            refine step_append_rd rfl _ _ 27 rfl w.heap.size 72 j0 _ 3 24 Tryz.underlying27 HJ0.out HY0.out HY1.out HY2.out (by simp [go_sem]) (by decide) _ k (((knD D Rn).take k).flatMap encDy) rfl HT.out.ds encDy_len oneDyT (some ⟨gA, 0, none⟩) 1 1 [⟨l, l, x.warm⟩] rfl (Rd.of_blkE (k := 3) encDy_len HA.out (l := [⟨l, l, x.warm⟩]) rfl rfl) (by unfold maxLen; omega) (by omega) HT.out.bel.size ?_
            intro v' w3 hown3 hgrow
            rw [← flat_take HX.out] at hown3
            have ht9 := HT.out.grow hown3 hgrow
            clear HT HA HX
            have HT := Lib.hid ht9
            clear ht9 hown3 hgrow
            (try clear hHeld)
            refine hK.out _ _ ?_
            clear hK K
            (try simp only [Act.put, List.setIfInBounds_toArray, List.set_cons_zero, List.set_cons_succ])
            (refine wpAnyL_free (i := 20) (oi := ?ox61) (v := ?vx61) ?hix61 ?k1x61 ?k2x61 ?k3x61 ?k4x61 ?k5x61 ?hQx61 ?hYx61 ?restx61; (case hix61 => (simp only [List.getElem?_toArray, List.getElem?_cons_succ, List.getElem?_cons_zero]; exact rfl)); (case k1x61 => kernel_rfl); (case k2x61 => kernel_rfl); (case k3x61 => kernel_rfl); (case k4x61 => kernel_rfl); (case k5x61 => kernel_rfl); (case hYx61 => (refine Or.inl ⟨rfl, ?hyx61⟩; intro w hSw; (try dsimp only at hSw); go_simp; (try with_reducible rfl))); (case hQx61 => exact (fun _ _ _ h => h)); (try simp only [Act.put, List.setIfInBounds_toArray, List.set_cons_zero, List.set_cons_succ]))
            (refine wpAnyL_done (by kernel_rfl) ?_ _)
            go_wp2_with fail
            go_roundw
            case rel => exact ⟨k + 1, by omega, by go_num, HT.out⟩
            case measure => simp [intOf] <;> omega
          · obtain rfl : dn = k := by omega
            rw [List.take_of_length_le (by rw [knD_len, HDL.out]; exact Nat.le_refl _)] at hki
            obtain ⟨A', c', rfl, _⟩ := own_form hki.ds
            have HT := Lib.hid hki
            clear hki
            have t0 := HT.out.tb.cell 0; have t1 := HT.out.tb.cell 1; have t2 := HT.out.tb.cell 2; have t3 := HT.out.tb.cell 3; have t4 := HT.out.tb.cell 4; have t5 := HT.out.tb.cell 5
            have r0 := HT.out.rs.cell 0; have r1 := HT.out.rs.cell 1; have r2 := HT.out.rs.cell 2; have r3 := HT.out.rs.cell 3; have r4 := HT.out.rs.cell 4; have r5 := HT.out.rs.cell 5
            have f0 := HT.out.rs.frozen 0; have f1 := HT.out.rs.frozen 1; have f2 := HT.out.rs.frozen 2; have f3 := HT.out.rs.frozen 3; have f4 := HT.out.rs.frozen 4; have f5 := HT.out.rs.frozen 5
            simp at t0 t1 t2 t3 t4 t5 r0 r1 r2 r3 r4 r5
            go_wp2_with fail
            have kb := (((((HT.out.rs.set_ 0 (.slice (some ⟨g, 0, none⟩) n c)).set_ 1 (.int .i64 tsn)).set_ 2 (.int .i64 tsn)).set_ 3 (.int .i64 so0)).set_ 4 (.int .i64 so1)).set_ 5 (.int .i64 melt)
            have hf : Fr (fun g => g = w.heap.size + 1 + 1) wr ((((((wr.setCell ⟨w.heap.size + 1 + 1, 0, none⟩ (.slice (some ⟨g, 0, none⟩) n c)).setCell ⟨w.heap.size + 1 + 1, 1, none⟩ (.int .i64 tsn)).setCell ⟨w.heap.size + 1 + 1, 2, none⟩ (.int .i64 tsn)).setCell ⟨w.heap.size + 1 + 1, 3, none⟩ (.int .i64 so0)).setCell ⟨w.heap.size + 1 + 1, 4, none⟩ (.int .i64 so1)).setCell ⟨w.heap.size + 1 + 1, 5, none⟩ (.int .i64 melt)) := Fr.setAt (Fr.setAt (Fr.setAt (Fr.setAt (Fr.setAt (Fr.setAt (E := fun g => g = w.heap.size + 1 + 1) (Fr.refl _ _) (p := ⟨w.heap.size + 1 + 1, 0, none⟩) (.inl rfl) _) (p := ⟨w.heap.size + 1 + 1, 1, none⟩) (.inl rfl) _) (p := ⟨w.heap.size + 1 + 1, 2, none⟩) (.inl rfl) _) (p := ⟨w.heap.size + 1 + 1, 3, none⟩) (.inl rfl) _) (p := ⟨w.heap.size + 1 + 1, 4, none⟩) (.inl rfl) _) (p := ⟨w.heap.size + 1 + 1, 5, none⟩) (.inl rfl) _
            have p1 := hf.row HT.out.own (fun g hg e => by subst e; exact own_blk_ne HT.out.own HT.out.rs (by decide) hg)
            have p2 := hf.row HT.out.ds (fun g hg e => by subst e; exact own_blk_ne HT.out.ds HT.out.rs (by decide) hg)
            have q0 := kb.cell 0; have q1 := kb.cell 1; have q2 := kb.cell 2; have q3 := kb.cell 3; have q4 := kb.cell 4; have q5 := kb.cell 5
            simp at q0 q1 q2 q3 q4 q5
            refine bodyPost_ret (v := .tuple #[.agg #[.slice (some ⟨g, 0, none⟩) n c, .int .i64 tsn, .int .i64 tsn, .int .i64 so0, .int .i64 so1, .int .i64 melt], .slice A' dn c']) ?_ rfl ⟨_, _, A', c', rfl, Rd.of_own encCel_len p1 (by rw [knC_len]; exact HCL.out), Rd.of_own encDy_len p2 (by rw [knD_len]; exact HDL.out), HT.out.bel.trans (hf.below HT.out.bel.size (fun g e => by subst e; omega))⟩
            simp [results, Tryz.f8, go_sem, q0, q1, q2, q3, q4, q5]
end Go.Proofs.YtjpobkmlcjbpiaaGreat
