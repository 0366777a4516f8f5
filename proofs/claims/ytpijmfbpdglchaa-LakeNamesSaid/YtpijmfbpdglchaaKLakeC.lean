/- THE CONTRACT of the law's Lake: the same lake, in memory of the call's own. -/
import Derived.Test.YtpijmfbpdglchaaKList
import Derived.Test.YtpijmfbpdglchaaKChoose
import Derived.Deep.MidRow
import Derived.Deep.RegionHeld3
import Derived.Deep.AppendLies
import Derived.Deep.DrawnRows
set_option linter.unusedVariables false
set_option linter.unusedSimpArgs false
namespace Go.Proofs.Ytpijmfbpdglchaa
open Go.RowKit Go.Proofs
attribute [local go_sem ↓] Go.wp_at_zero Go.wp_at_succ

theorem to_d (a b : Int) (w : World) : Calls Try.prog 61 #[.agg #[.int .i64 a, .int .i64 b]] w fun e w' => e = .returned (.agg #[.int .i64 a, .int .i64 b]) ∧ Below w.heap.size w w' := to_c (a, b) w
theorem infoR : (Try.prog.info? 35).map (fun i => (i.zero, i.size, i.bytes)) = some (some (.agg #[.int .i64 0, .int .i64 0]), 2, 16) := by kernel_rfl
section
variable {VA IA : Option Addr} {nV nI cV cI : Nat} {l : Lak} {w : World}
/-- the lake without its hours -/
abbrev l0A (VA : Option Addr) (nV cV : Nat) (R : Value) (l : Lak) : Array Value :=
  #[.slice VA nV cV, .int .i64 l.crest, .int .i64 l.weak, .int .i64 l.soft.1, .int .i64 l.soft.2, .int .i64 l.start.1, .int .i64 l.start.2, .int .i64 l.seep.1, .int .i64 l.seep.2, R]
theorem grown_setCells {g : Nat} : ∀ (vs : List Value) (o : Nat) (w : World), w.grownBy (w.setCells g o vs) (some g)
  | [], _, w => World.grownBy.refl w _
  | v :: vs, o, w => only_trans (only_setCell (World.grownBy.refl w (some g)) (.inl rfl) v) (grown_setCells vs (o + 1) (w.setCell ⟨g, o, none⟩ v))
theorem blk_setCells {g : Nat} {t : TypeId} : ∀ (vs : List Value) (o : Nat) (w : World) (pre z : List Value), Blk w g t (pre ++ z).toArray → pre.length = o → z.length = vs.length → Blk (w.setCells g o vs) g t (pre ++ vs).toArray
  | [], o, w, pre, z, h, hp, hz => by
    obtain rfl : z = [] := List.eq_nil_of_length_eq_zero (by simpa using hz)
    exact h
  | v :: vs, o, w, pre, z, h, hp, hz => by
    obtain ⟨a, z', rfl⟩ : ∃ a z', z = a :: z' := by
      cases z with
      | nil => simp at hz
      | cons a z' => exact ⟨a, z', rfl⟩
    have h1 := h.set_ o v
    have h2 : ((pre ++ a :: z').toArray.setIfInBounds o v) = ((pre ++ [v]) ++ z').toArray := by
      apply Array.ext'
      simp only [Array.toList_setIfInBounds]
      rw [← hp, List.set_append_right _ _ (Nat.le_refl _), Nat.sub_self]
      simp
    rw [h2] at h1
    have := blk_setCells vs (o + 1) (w.setCell ⟨g, o, none⟩ v) (pre ++ [v]) z' h1 (by simp [hp]) (by simpa using hz)
    rw [show pre ++ v :: vs = (pre ++ [v]) ++ vs by simp]
    exact this
theorem below_setCells {B g : Nat} {w0 : World} (hg : B ≤ g) : ∀ (vs : List Value) (o : Nat) (w : World), Below B w0 w → Below B w0 (w.setCells g o vs)
  | [], _, w, h => h
  | v :: vs, o, w, h => below_setCells hg vs (o + 1) _ (h.setCell hg _)
theorem blk_there {w : World} {g : Nat} {t : TypeId} {z : Array Value} {n : Nat} (h : Blk w g t z) (hz : z.size = n) : w.there g 0 n := fun j hj => by
  rw [Nat.zero_add, h.cell j]
  exact ⟨by simp [hz, hj], h.frozen j⟩
theorem step_store_mid {P : Program} {w : World} {ops : Array Oper} {o : Oper} {a : Act} {K : Act → World → Prop} {Q : Exit → Act → World → Prop} {E : Prop} (hgd : o.guard = none) (ty : TypeId) (x y : Operand) (ho : o.op = .store ty x y)
    (b f : Nat) (cells : Array Value) (hx : a.eval x = .pointer (some ⟨b, f, none⟩)) (hy : a.eval y = .agg cells)
    (ht : w.there b f cells.size) (hi : (P.info? ty).map (·.size) = some cells.size) (h1 : cells.all (·.oneCell') = true)
    (h : K (a.put o.dst undef) (w.setCells b f cells.toList)) : if Region.wanted o (yielded ops a.tmps) = true then Oper.wp P o a w K Q else E := by
  have hw : Region.wanted o (yielded ops a.tmps) = true := by simp [Region.wanted, hgd]
  rw [if_pos hw]
  exact wp_store_mid ty x y ho b f cells hx hy ht hi h1 h
theorem own_grown2 {w w' : World} {base base' : Nat} {e e' : TypeId} {size size' n n' : Nat} {v v' : Value} {xs xs' : List Value} (h : w.ownsRow base e size v n xs) (h' : w.ownsRow base' e' size' v' n' xs') (hne : e ≠ e') (hg : w.grownBy w' v'.ownBlock) : w'.ownsRow base e size v n xs := by
  refine h.kept hg ?_
  cases hq : v.ownBlock with
  | none => exact .inl rfl
  | some g => exact .inr fun he => own_own_ne h h' hne hq he.symm
/-- the store of a lake into its variable -/
theorem lak_store {W wn : World} {B nV c' : Nat} {A' : Option Addr} {l : Lak} {z : Array Value} (h : Blk wn B 38 z) (hz : z.size = 10) (hB : W.heap.size ≤ B) (hc : nV ≤ c') (ho : wn.ownsRow W.heap.size 3 1 (.slice A' nV c') nV (l.vols.flatMap enc1)) (hb : Below W.heap.size W wn) :
    Blk (wn.setCells B 0 (l0A A' nV c' (.slice none 0 0) l).toList) B 38 (l0A A' nV c' (.slice none 0 0) l) ∧ (wn.setCells B 0 (l0A A' nV c' (.slice none 0 0) l).toList).ownsRow W.heap.size 3 1 (.slice A' nV c') nV (l.vols.flatMap enc1) ∧ Below W.heap.size W (wn.setCells B 0 (l0A A' nV c' (.slice none 0 0) l).toList) :=
  ⟨blk_setCells (l0A A' nV c' (.slice none 0 0) l).toList 0 wn [] z.toList (by simpa using h) rfl (by simpa using hz), ho.kept (grown_setCells _ _ _) (.inr (own_blk_ne ho h (by decide))), below_setCells hB _ _ _ hb⟩
set_option maxRecDepth 100000 in
set_option maxHeartbeats 16000000 in
theorem Lake_c (h : RdL w VA nV IA nI l) (hn : nV ≤ 1000000) (hi : nI ≤ 1000000) :
    Calls Try.prog 20 #[.agg (lA VA nV cV IA nI cI l)] w fun e w' => ∃ VA' cV' IA' cI', e = .returned (.agg (lA VA' nV cV' IA' nI cI' l)) ∧ nV ≤ cV' ∧ nI ≤ cI' ∧
      w'.ownsRow w.heap.size 3 1 (.slice VA' nV cV') nV (l.vols.flatMap enc1) ∧ w'.ownsRow w.heap.size 35 2 (.slice IA' nI cI') nI (l.inflow.flatMap enc2) ∧ Below w.heap.size w w' := by
  obtain ⟨W, hW⟩ : ∃ W, W = ((w.alloc (.cells (lA VA nV cV IA nI cI l) 27)).alloc (.cells (l0A none 0 0 (.slice none 0 0) ⟨[], 0, 0, (0, 0), (0, 0), (0, 0), []⟩) 38)) := ⟨_, rfl⟩
  have hb : Below w.heap.size w W := by rw [hW]; exact ((Below.refl _ _).alloc (Nat.le_refl _) _).alloc (by simp) _
  have hX := (Blk.new w 27 (lA VA nV cV IA nI cI l)).alloc (.cells (l0A none 0 0 (.slice none 0 0) ⟨[], 0, 0, (0, 0), (0, 0), (0, 0), []⟩) 38)
  have hY := Blk.new (w.alloc (.cells (lA VA nV cV IA nI cI l) 27)) 38 (l0A none 0 0 (.slice none 0 0) ⟨[], 0, 0, (0, 0), (0, 0), (0, 0), []⟩)
  simp only [World.size_alloc] at hY
  rw [← hW] at hX hY
  have HB := Lib.hid hb; have HW := Lib.hid hW; have HY := Lib.hid hY; have HXW := Lib.hid hX; have HH := Lib.hid h
  have HLI := Lib.hid (fun (U : World) (hU : Below W.heap.size W U) => list_c (c := cV) (h.vols.below (HB.out.trans (hU.mono hb.size))) hn)
  have pc : ∀ i, W.cell? ⟨w.heap.size, i, none⟩ = (lA VA nV cV IA nI cI l)[i]? := fun i => hX.cell i
  have p0 := pc 0; have p1 := pc 1; have p2 := pc 2; have p3 := pc 3; have p4 := pc 4; have p5 := pc 5; have p6 := pc 6; have p7 := pc 7; have p8 := pc 8
  simp at p0 p1 p2 p3 p4 p5 p6 p7 p8
  have HS := Lib.hid (fun (U : World) (hU : Below W.heap.size W U) => show U.cell? ⟨w.heap.size, 0, none⟩ = some (.slice VA nV cV) ∧ U.cell? ⟨w.heap.size, 1, none⟩ = some (.int .i64 l.crest) ∧ U.cell? ⟨w.heap.size, 2, none⟩ = some (.int .i64 l.weak) ∧ U.cell? ⟨w.heap.size, 3, none⟩ = some (.int .i64 l.soft.1) ∧ U.cell? ⟨w.heap.size, 4, none⟩ = some (.int .i64 l.soft.2) ∧ U.cell? ⟨w.heap.size, 5, none⟩ = some (.int .i64 l.start.1) ∧ U.cell? ⟨w.heap.size, 6, none⟩ = some (.int .i64 l.start.2) ∧ U.cell? ⟨w.heap.size, 7, none⟩ = some (.int .i64 l.seep.1) ∧ U.cell? ⟨w.heap.size, 8, none⟩ = some (.int .i64 l.seep.2) from
    ⟨bel_keep hU p0, bel_keep hU p1, bel_keep hU p2, bel_keep hU p3, bel_keep hU p4, bel_keep hU p5, bel_keep hU p6, bel_keep hU p7, bel_keep hU p8⟩)
  have hWw : w.heap.size < W.heap.size := hX.lt
  clear hb hW hX hY pc h p0 p1 p2 p3 p4 p5 p6 p7 p8
  go_enter Try.func20, Try.ntmps20
  go_upto_region 1 with fail
  rw [← HW.out]
  go_cut [3] (fun pv wx => ∃ B VA' cV', pv = .pointer (some ⟨B, 0, none⟩) ∧ W.heap.size ≤ B ∧ Blk wx B 38 (l0A VA' nV cV' (.slice none 0 0) l) ∧ nV ≤ cV' ∧ wx.ownsRow W.heap.size 3 1 (.slice VA' nV cV') nV (l.vols.flatMap enc1) ∧ Below W.heap.size W wx)
  case first =>
    have HBC := Lib.hid (Below.refl W.heap.size W)
    refine wp_region_held_drew (S := (fun U => U.cell? ⟨w.heap.size, 0, none⟩ = some (.slice VA nV cV) ∧ U.cell? ⟨w.heap.size, 1, none⟩ = some (.int .i64 l.crest) ∧ U.cell? ⟨w.heap.size, 2, none⟩ = some (.int .i64 l.weak) ∧ U.cell? ⟨w.heap.size, 3, none⟩ = some (.int .i64 l.soft.1) ∧ U.cell? ⟨w.heap.size, 4, none⟩ = some (.int .i64 l.soft.2) ∧ U.cell? ⟨w.heap.size, 5, none⟩ = some (.int .i64 l.start.1) ∧ U.cell? ⟨w.heap.size, 6, none⟩ = some (.int .i64 l.start.2) ∧ U.cell? ⟨w.heap.size, 7, none⟩ = some (.int .i64 l.seep.1) ∧ U.cell? ⟨w.heap.size, 8, none⟩ = some (.int .i64 l.seep.2))) (by kernel_rfl) (by (first | with_reducible exact HS.out _ HBC.out | with_reducible exact HS.out _ HBC.out.drew | with_reducible exact HS.out _ (HBC.out.alloc HBC.out.size _) | with_reducible exact HS.out _ (HBC.out.drew.alloc HBC.out.size _) | with_reducible exact HS.out _ (HBC.out.alloc HBC.out.size _).drew | exact HS.out _ HLS.out.2.2)) (fun hHeld => ?_)
    (refine wpAnyH_take (i := 0) (oi := ?ox1) (v := ?vx1) ?hix1 ?k1x1 ?k2x1 ?k3x1 ?hQx1 ?hYx1 ?hSx1 ?restx1; (case hix1 => (simp only [List.getElem?_toArray, List.getElem?_cons_succ, List.getElem?_cons_zero]; exact rfl)); (case k1x1 => kernel_rfl); (case k2x1 => kernel_rfl); (case k3x1 => kernel_rfl); (case hSx1 => assumption); (case hYx1 => (refine Or.inl ⟨rfl, ?hyx1⟩; intro w hSw; (try dsimp only at hSw); go_simp; (try with_reducible rfl))); (case hQx1 => exact (fun _ _ _ h => h)); (try simp only [Act.put, List.setIfInBounds_toArray, List.set_cons_zero, List.set_cons_succ]))
    (refine wpAnyH_take (i := 1) (oi := ?ox2) (v := ?vx2) ?hix2 ?k1x2 ?k2x2 ?k3x2 ?hQx2 ?hYx2 ?hSx2 ?restx2; (case hix2 => (simp only [List.getElem?_toArray, List.getElem?_cons_succ, List.getElem?_cons_zero]; exact rfl)); (case k1x2 => kernel_rfl); (case k2x2 => kernel_rfl); (case k3x2 => kernel_rfl); (case hSx2 => assumption); (case hYx2 => (refine Or.inl ⟨rfl, ?hyx2⟩; intro w hSw; (try dsimp only at hSw); go_simp; (try with_reducible rfl))); (case hQx2 => exact (fun _ _ _ h => h)); (try simp only [Act.put, List.setIfInBounds_toArray, List.set_cons_zero, List.set_cons_succ]))
    (refine wpAnyH_take (i := 3) (oi := ?ox3) (v := ?vx3) ?hix3 ?k1x3 ?k2x3 ?k3x3 ?hQx3 ?hYx3 ?hSx3 ?restx3; (case hix3 => (simp only [List.getElem?_toArray, List.getElem?_cons_succ, List.getElem?_cons_zero]; exact rfl)); (case k1x3 => kernel_rfl); (case k2x3 => kernel_rfl); (case k3x3 => kernel_rfl); (case hSx3 => assumption); (case hYx3 => (refine Or.inl ⟨rfl, ?hyx3⟩; intro w hSw; (try dsimp only at hSw); go_simp; (try with_reducible rfl))); (case hQx3 => exact (fun _ _ _ h => h)); (try simp only [Act.put, List.setIfInBounds_toArray, List.set_cons_zero, List.set_cons_succ]))
    (refine wpAnyH_take (i := 4) (oi := ?ox4) (v := ?vx4) ?hix4 ?k1x4 ?k2x4 ?k3x4 ?hQx4 ?hYx4 ?hSx4 ?restx4; (case hix4 => (simp only [List.getElem?_toArray, List.getElem?_cons_succ, List.getElem?_cons_zero]; exact rfl)); (case k1x4 => kernel_rfl); (case k2x4 => kernel_rfl); (case k3x4 => kernel_rfl); (case hSx4 => assumption); (case hYx4 => (refine Or.inl ⟨rfl, ?hyx4⟩; intro w hSw; (try dsimp only at hSw); go_simp; (try with_reducible rfl))); (case hQx4 => exact (fun _ _ _ h => h)); (try simp only [Act.put, List.setIfInBounds_toArray, List.set_cons_zero, List.set_cons_succ]))
    (refine wpAnyH_take (i := 5) (oi := ?ox5) (v := ?vx5) ?hix5 ?k1x5 ?k2x5 ?k3x5 ?hQx5 ?hYx5 ?hSx5 ?restx5; (case hix5 => (simp only [List.getElem?_toArray, List.getElem?_cons_succ, List.getElem?_cons_zero]; exact rfl)); (case k1x5 => kernel_rfl); (case k2x5 => kernel_rfl); (case k3x5 => kernel_rfl); (case hSx5 => assumption); (case hYx5 => (refine Or.inl ⟨rfl, ?hyx5⟩; intro w hSw; (try dsimp only at hSw); go_simp; (try with_reducible rfl))); (case hQx5 => exact (fun _ _ _ h => h)); (try simp only [Act.put, List.setIfInBounds_toArray, List.set_cons_zero, List.set_cons_succ]))
    (refine wpAnyH_take (i := 6) (oi := ?ox6) (v := ?vx6) ?hix6 ?k1x6 ?k2x6 ?k3x6 ?hQx6 ?hYx6 ?hSx6 ?restx6; (case hix6 => (simp only [List.getElem?_toArray, List.getElem?_cons_succ, List.getElem?_cons_zero]; exact rfl)); (case k1x6 => kernel_rfl); (case k2x6 => kernel_rfl); (case k3x6 => kernel_rfl); (case hSx6 => assumption); (case hYx6 => (refine Or.inl ⟨rfl, ?hyx6⟩; intro w hSw; (try dsimp only at hSw); go_simp; (try with_reducible rfl))); (case hQx6 => exact (fun _ _ _ h => h)); (try simp only [Act.put, List.setIfInBounds_toArray, List.set_cons_zero, List.set_cons_succ]))
    (refine wpAnyH_take (i := 7) (oi := ?ox7) (v := ?vx7) ?hix7 ?k1x7 ?k2x7 ?k3x7 ?hQx7 ?hYx7 ?hSx7 ?restx7; (case hix7 => (simp only [List.getElem?_toArray, List.getElem?_cons_succ, List.getElem?_cons_zero]; exact rfl)); (case k1x7 => kernel_rfl); (case k2x7 => kernel_rfl); (case k3x7 => kernel_rfl); (case hSx7 => assumption); (case hYx7 => (refine Or.inl ⟨rfl, ?hyx7⟩; intro w hSw; (try dsimp only at hSw); go_simp; (try with_reducible rfl))); (case hQx7 => exact (fun _ _ _ h => h)); (try simp only [Act.put, List.setIfInBounds_toArray, List.set_cons_zero, List.set_cons_succ]))
    (refine wpAnyH_take (i := 8) (oi := ?ox8) (v := ?vx8) ?hix8 ?k1x8 ?k2x8 ?k3x8 ?hQx8 ?hYx8 ?hSx8 ?restx8; (case hix8 => (simp only [List.getElem?_toArray, List.getElem?_cons_succ, List.getElem?_cons_zero]; exact rfl)); (case k1x8 => kernel_rfl); (case k2x8 => kernel_rfl); (case k3x8 => kernel_rfl); (case hSx8 => assumption); (case hYx8 => (refine Or.inl ⟨rfl, ?hyx8⟩; intro w hSw; (try dsimp only at hSw); go_simp; (try with_reducible rfl))); (case hQx8 => exact (fun _ _ _ h => h)); (try simp only [Act.put, List.setIfInBounds_toArray, List.set_cons_zero, List.set_cons_succ]))
    (refine wpAnyH_take (i := 10) (oi := ?ox9) (v := ?vx9) ?hix9 ?k1x9 ?k2x9 ?k3x9 ?hQx9 ?hYx9 ?hSx9 ?restx9; (case hix9 => (simp only [List.getElem?_toArray, List.getElem?_cons_succ, List.getElem?_cons_zero]; exact rfl)); (case k1x9 => kernel_rfl); (case k2x9 => kernel_rfl); (case k3x9 => kernel_rfl); (case hSx9 => assumption); (case hYx9 => (refine Or.inl ⟨rfl, ?hyx9⟩; intro w hSw; (try dsimp only at hSw); go_simp; (try with_reducible rfl))); (case hQx9 => exact (fun _ _ _ h => h)); (try simp only [Act.put, List.setIfInBounds_toArray, List.set_cons_zero, List.set_cons_succ]))
    (refine wpAnyH_take (i := 11) (oi := ?ox10) (v := ?vx10) ?hix10 ?k1x10 ?k2x10 ?k3x10 ?hQx10 ?hYx10 ?hSx10 ?restx10; (case hix10 => (simp only [List.getElem?_toArray, List.getElem?_cons_succ, List.getElem?_cons_zero]; exact rfl)); (case k1x10 => kernel_rfl); (case k2x10 => kernel_rfl); (case k3x10 => kernel_rfl); (case hSx10 => assumption); (case hYx10 => (refine Or.inl ⟨rfl, ?hyx10⟩; intro w hSw; (try dsimp only at hSw); go_simp; (try with_reducible rfl))); (case hQx10 => exact (fun _ _ _ h => h)); (try simp only [Act.put, List.setIfInBounds_toArray, List.set_cons_zero, List.set_cons_succ]))
    (refine wpAnyH_take (i := 13) (oi := ?ox11) (v := ?vx11) ?hix11 ?k1x11 ?k2x11 ?k3x11 ?hQx11 ?hYx11 ?hSx11 ?restx11; (case hix11 => (simp only [List.getElem?_toArray, List.getElem?_cons_succ, List.getElem?_cons_zero]; exact rfl)); (case k1x11 => kernel_rfl); (case k2x11 => kernel_rfl); (case k3x11 => kernel_rfl); (case hSx11 => assumption); (case hYx11 => (refine Or.inl ⟨rfl, ?hyx11⟩; intro w hSw; (try dsimp only at hSw); go_simp; (try with_reducible rfl))); (case hQx11 => exact (fun _ _ _ h => h)); (try simp only [Act.put, List.setIfInBounds_toArray, List.set_cons_zero, List.set_cons_succ]))
    (refine wpAnyH_take (i := 14) (oi := ?ox12) (v := ?vx12) ?hix12 ?k1x12 ?k2x12 ?k3x12 ?hQx12 ?hYx12 ?hSx12 ?restx12; (case hix12 => (simp only [List.getElem?_toArray, List.getElem?_cons_succ, List.getElem?_cons_zero]; exact rfl)); (case k1x12 => kernel_rfl); (case k2x12 => kernel_rfl); (case k3x12 => kernel_rfl); (case hSx12 => assumption); (case hYx12 => (refine Or.inl ⟨rfl, ?hyx12⟩; intro w hSw; (try dsimp only at hSw); go_simp; (try with_reducible rfl))); (case hQx12 => exact (fun _ _ _ h => h)); (try simp only [Act.put, List.setIfInBounds_toArray, List.set_cons_zero, List.set_cons_succ]))
    refine wpAnyH_ready (rs := [2, 17]) (by kernel_rfl) (by simp) ?_
    refine AllReadyH.cons (o := ?o0x13) ?hi0x13 (fun K hK => ?_) (AllReadyH.cons (o := ?o1x13) ?hi1x13 (fun K hK => ?_) AllReadyH.nil)
    (case hi0x13 => (simp only [List.getElem?_toArray, List.getElem?_cons_succ, List.getElem?_cons_zero]; exact rfl))
    (case hi1x13 => (simp only [List.getElem?_toArray, List.getElem?_cons_succ, List.getElem?_cons_zero]; exact rfl))
    · skip
      go_simp
      (go_at_call 27; refine (HLI.out _ (by first | with_reducible exact HBC.out | with_reducible exact HBC.out.drew | with_reducible exact HBC.out.alloc HBC.out.size _ | with_reducible exact HBC.out.drew.alloc HBC.out.size _ | with_reducible exact (HBC.out.alloc HBC.out.size _).drew)).mono ?_; rintro e wn ⟨VA', cV', rfl, hc', hown, hbn⟩; have HC' := Lib.hid hc'; have HO := Lib.hid (own_weak (base := W.heap.size) hown (by first | exact HBC.out.size | (have := HBC.out.size; simp <;> omega))); clear hc' hown; have hsz := HBC.out.size; have hb0 := below_tr (a := W) (by first | with_reducible exact HBC.out | with_reducible exact HBC.out.drew | with_reducible exact HBC.out.alloc HBC.out.size _ | with_reducible exact HBC.out.drew.alloc HBC.out.size _ | with_reducible exact (HBC.out.alloc HBC.out.size _).drew) hbn; clear HBC; have HBC := Lib.hid hb0; clear hb0; (first | (have hx0 := HX.out.below hbn HX.out.lt; clear HX; have HX := Lib.hid hx0; clear hx0) | (have hx0 := Blk.below (Blk.new _ 38 _) hbn (by simp); have HX := Lib.hid hx0; have hBg := hsz; clear hx0) | (have hx0 := Blk.below (show Blk (World.drew (W.alloc (.cells #[.slice none 0 0, .int .i64 0, .int .i64 0, .int .i64 0, .int .i64 0, .int .i64 0, .int .i64 0, .int .i64 0, .int .i64 0, .slice none 0 0] 38))) W.heap.size 38 #[.slice none 0 0, .int .i64 0, .int .i64 0, .int .i64 0, .int .i64 0, .int .i64 0, .int .i64 0, .int .i64 0, .int .i64 0, .slice none 0 0] from Blk.new W _ _) hbn (by simp); have HX := Lib.hid hx0; have hBg := Nat.le_refl W.heap.size; clear hx0) | skip); clear hbn)
      (try go_wp2_with fail)
      refine hK.out _ _ (by (try dsimp only) <;> (first | with_reducible exact HS.out _ HBC.out | with_reducible exact HS.out _ HBC.out.drew | with_reducible exact HS.out _ (HBC.out.alloc HBC.out.size _) | with_reducible exact HS.out _ (HBC.out.drew.alloc HBC.out.size _) | with_reducible exact HS.out _ (HBC.out.alloc HBC.out.size _).drew | exact HS.out _ HLS.out.2.2)) (fun hHeld => ?_)
      clear hK K
      (try simp only [Act.put, List.setIfInBounds_toArray, List.set_cons_zero, List.set_cons_succ])
      refine wpAnyH_ready (rs := [9, 17]) (by kernel_rfl) (by simp) ?_
      refine AllReadyH.cons (o := ?o0x14) ?hi0x14 (fun K hK => ?_) (AllReadyH.cons (o := ?o1x14) ?hi1x14 (fun K hK => ?_) AllReadyH.nil)
      (case hi0x14 => (simp only [List.getElem?_toArray, List.getElem?_cons_succ, List.getElem?_cons_zero]; exact rfl))
      (case hi1x14 => (simp only [List.getElem?_toArray, List.getElem?_cons_succ, List.getElem?_cons_zero]; exact rfl))
      · skip
        go_simp
        (go_at_call 61; refine (to_d _ _ _).mono ?_; rintro e wn ⟨rfl, hbn⟩; have hsz := HBC.out.size; have hb0 := below_tr (a := W) (by first | with_reducible exact HBC.out | with_reducible exact HBC.out.drew | with_reducible exact HBC.out.alloc HBC.out.size _ | with_reducible exact HBC.out.drew.alloc HBC.out.size _ | with_reducible exact (HBC.out.alloc HBC.out.size _).drew) hbn; clear HBC; have HBC := Lib.hid hb0; clear hb0; (first | (have hx0 := own_mono HO.out hbn; clear HO; have HO := Lib.hid hx0; clear hx0) | (have hx0 := own_mono (HO.out.alloc _) hbn; clear HO; have HO := Lib.hid hx0; clear hx0) | skip); (first | (have hx0 := HX.out.below hbn HX.out.lt; clear HX; have HX := Lib.hid hx0; clear hx0) | (have hx0 := Blk.below (Blk.new _ 38 _) hbn (by simp); have HX := Lib.hid hx0; have hBg := hsz; clear hx0) | (have hx0 := Blk.below (show Blk (World.drew (W.alloc (.cells #[.slice none 0 0, .int .i64 0, .int .i64 0, .int .i64 0, .int .i64 0, .int .i64 0, .int .i64 0, .int .i64 0, .int .i64 0, .slice none 0 0] 38))) W.heap.size 38 #[.slice none 0 0, .int .i64 0, .int .i64 0, .int .i64 0, .int .i64 0, .int .i64 0, .int .i64 0, .int .i64 0, .int .i64 0, .slice none 0 0] from Blk.new W _ _) hbn (by simp); have HX := Lib.hid hx0; have hBg := Nat.le_refl W.heap.size; clear hx0) | skip); clear hbn)
        (try go_wp2_with fail)
        refine hK.out _ _ (by (try dsimp only) <;> (first | with_reducible exact HS.out _ HBC.out | with_reducible exact HS.out _ HBC.out.drew | with_reducible exact HS.out _ (HBC.out.alloc HBC.out.size _) | with_reducible exact HS.out _ (HBC.out.drew.alloc HBC.out.size _) | with_reducible exact HS.out _ (HBC.out.alloc HBC.out.size _).drew | exact HS.out _ HLS.out.2.2)) (fun hHeld => ?_)
        clear hK K
        (try simp only [Act.put, List.setIfInBounds_toArray, List.set_cons_zero, List.set_cons_succ])
        refine wpAnyH_ready (rs := [12, 17]) (by kernel_rfl) (by simp) ?_
        refine AllReadyH.cons (o := ?o0x15) ?hi0x15 (fun K hK => ?_) (AllReadyH.cons (o := ?o1x15) ?hi1x15 (fun K hK => ?_) AllReadyH.nil)
        (case hi0x15 => (simp only [List.getElem?_toArray, List.getElem?_cons_succ, List.getElem?_cons_zero]; exact rfl))
        (case hi1x15 => (simp only [List.getElem?_toArray, List.getElem?_cons_succ, List.getElem?_cons_zero]; exact rfl))
        · skip
          go_simp
          (go_at_call 61; refine (to_d _ _ _).mono ?_; rintro e wn ⟨rfl, hbn⟩; have hsz := HBC.out.size; have hb0 := below_tr (a := W) (by first | with_reducible exact HBC.out | with_reducible exact HBC.out.drew | with_reducible exact HBC.out.alloc HBC.out.size _ | with_reducible exact HBC.out.drew.alloc HBC.out.size _ | with_reducible exact (HBC.out.alloc HBC.out.size _).drew) hbn; clear HBC; have HBC := Lib.hid hb0; clear hb0; (first | (have hx0 := own_mono HO.out hbn; clear HO; have HO := Lib.hid hx0; clear hx0) | (have hx0 := own_mono (HO.out.alloc _) hbn; clear HO; have HO := Lib.hid hx0; clear hx0) | skip); (first | (have hx0 := HX.out.below hbn HX.out.lt; clear HX; have HX := Lib.hid hx0; clear hx0) | (have hx0 := Blk.below (Blk.new _ 38 _) hbn (by simp); have HX := Lib.hid hx0; have hBg := hsz; clear hx0) | (have hx0 := Blk.below (show Blk (World.drew (W.alloc (.cells #[.slice none 0 0, .int .i64 0, .int .i64 0, .int .i64 0, .int .i64 0, .int .i64 0, .int .i64 0, .int .i64 0, .int .i64 0, .slice none 0 0] 38))) W.heap.size 38 #[.slice none 0 0, .int .i64 0, .int .i64 0, .int .i64 0, .int .i64 0, .int .i64 0, .int .i64 0, .int .i64 0, .int .i64 0, .slice none 0 0] from Blk.new W _ _) hbn (by simp); have HX := Lib.hid hx0; have hBg := Nat.le_refl W.heap.size; clear hx0) | skip); clear hbn)
          (try go_wp2_with fail)
          refine hK.out _ _ (by (try dsimp only) <;> (first | with_reducible exact HS.out _ HBC.out | with_reducible exact HS.out _ HBC.out.drew | with_reducible exact HS.out _ (HBC.out.alloc HBC.out.size _) | with_reducible exact HS.out _ (HBC.out.drew.alloc HBC.out.size _) | with_reducible exact HS.out _ (HBC.out.alloc HBC.out.size _).drew | exact HS.out _ HLS.out.2.2)) (fun hHeld => ?_)
          clear hK K
          (try simp only [Act.put, List.setIfInBounds_toArray, List.set_cons_zero, List.set_cons_succ])
          refine wpAnyH_ready (rs := [15, 17]) (by kernel_rfl) (by simp) ?_
          refine AllReadyH.cons (o := ?o0x16) ?hi0x16 (fun K hK => ?_) (AllReadyH.cons (o := ?o1x16) ?hi1x16 (fun K hK => ?_) AllReadyH.nil)
          (case hi0x16 => (simp only [List.getElem?_toArray, List.getElem?_cons_succ, List.getElem?_cons_zero]; exact rfl))
          (case hi1x16 => (simp only [List.getElem?_toArray, List.getElem?_cons_succ, List.getElem?_cons_zero]; exact rfl))
          · skip
            go_simp
            (go_at_call 61; refine (to_d _ _ _).mono ?_; rintro e wn ⟨rfl, hbn⟩; have hsz := HBC.out.size; have hb0 := below_tr (a := W) (by first | with_reducible exact HBC.out | with_reducible exact HBC.out.drew | with_reducible exact HBC.out.alloc HBC.out.size _ | with_reducible exact HBC.out.drew.alloc HBC.out.size _ | with_reducible exact (HBC.out.alloc HBC.out.size _).drew) hbn; clear HBC; have HBC := Lib.hid hb0; clear hb0; (first | (have hx0 := own_mono HO.out hbn; clear HO; have HO := Lib.hid hx0; clear hx0) | (have hx0 := own_mono (HO.out.alloc _) hbn; clear HO; have HO := Lib.hid hx0; clear hx0) | skip); (first | (have hx0 := HX.out.below hbn HX.out.lt; clear HX; have HX := Lib.hid hx0; clear hx0) | (have hx0 := Blk.below (Blk.new _ 38 _) hbn (by simp); have HX := Lib.hid hx0; have hBg := hsz; clear hx0) | (have hx0 := Blk.below (show Blk (World.drew (W.alloc (.cells #[.slice none 0 0, .int .i64 0, .int .i64 0, .int .i64 0, .int .i64 0, .int .i64 0, .int .i64 0, .int .i64 0, .int .i64 0, .slice none 0 0] 38))) W.heap.size 38 #[.slice none 0 0, .int .i64 0, .int .i64 0, .int .i64 0, .int .i64 0, .int .i64 0, .int .i64 0, .int .i64 0, .int .i64 0, .slice none 0 0] from Blk.new W _ _) hbn (by simp); have HX := Lib.hid hx0; have hBg := Nat.le_refl W.heap.size; clear hx0) | skip); clear hbn)
            (try go_wp2_with fail)
            refine hK.out _ _ (by (try dsimp only) <;> (first | with_reducible exact HS.out _ HBC.out | with_reducible exact HS.out _ HBC.out.drew | with_reducible exact HS.out _ (HBC.out.alloc HBC.out.size _) | with_reducible exact HS.out _ (HBC.out.drew.alloc HBC.out.size _) | with_reducible exact HS.out _ (HBC.out.alloc HBC.out.size _).drew | exact HS.out _ HLS.out.2.2)) (fun hHeld => ?_)
            clear hK K
            (try simp only [Act.put, List.setIfInBounds_toArray, List.set_cons_zero, List.set_cons_succ])
            (refine wpAnyH_take (i := 16) (oi := ?ox17) (v := ?vx17) ?hix17 ?k1x17 ?k2x17 ?k3x17 ?hQx17 ?hYx17 ?hSx17 ?restx17; (case hix17 => (simp only [List.getElem?_toArray, List.getElem?_cons_succ, List.getElem?_cons_zero]; exact rfl)); (case k1x17 => kernel_rfl); (case k2x17 => kernel_rfl); (case k3x17 => kernel_rfl); (case hSx17 => assumption); (case hYx17 => (refine Or.inl ⟨rfl, ?hyx17⟩; intro w hSw; (try dsimp only at hSw); go_simp; (try with_reducible rfl))); (case hQx17 => exact (fun _ _ _ h => h)); (try simp only [Act.put, List.setIfInBounds_toArray, List.set_cons_zero, List.set_cons_succ]))
            refine wpAnyH_ready (rs := [17]) (by kernel_rfl) (by simp) ?_
            refine AllReadyH.cons (o := ?o0x18) ?hi0x18 (fun K hK => ?_) AllReadyH.nil
            (case hi0x18 => (simp only [List.getElem?_toArray, List.getElem?_cons_succ, List.getElem?_cons_zero]; exact rfl))
            go_simp
            refine hK.out _ _ (by (try dsimp only) <;> (first | with_reducible exact HS.out _ HBC.out | with_reducible exact HS.out _ HBC.out.drew | with_reducible exact HS.out _ (HBC.out.alloc HBC.out.size _) | with_reducible exact HS.out _ (HBC.out.drew.alloc HBC.out.size _) | with_reducible exact HS.out _ (HBC.out.alloc HBC.out.size _).drew | exact HS.out _ HLS.out.2.2)) (fun hHeld => ?_)
            clear hK K
            (try simp only [Act.put, List.setIfInBounds_toArray, List.set_cons_zero, List.set_cons_succ])
            refine wpAnyH_ready (rs := [18]) (by kernel_rfl) (by simp) ?_
            refine AllReadyH.cons (o := ?o0x19) ?hi0x19 (fun K hK => ?_) AllReadyH.nil
            (case hi0x19 => (simp only [List.getElem?_toArray, List.getElem?_cons_succ, List.getElem?_cons_zero]; exact rfl))
            (first | (have hx0 := HX.out; have hBg2 := hBg; have ho2 := HO.out; have hb2 := HBC.out) | (have hx0 := Blk.new wn 38 #[.slice none 0 0, .int .i64 0, .int .i64 0, .int .i64 0, .int .i64 0, .int .i64 0, .int .i64 0, .int .i64 0, .int .i64 0, .slice none 0 0]; have hBg2 := HBC.out.size; have ho2 := HO.out.alloc (.cells #[.slice none 0 0, .int .i64 0, .int .i64 0, .int .i64 0, .int .i64 0, .int .i64 0, .int .i64 0, .int .i64 0, .int .i64 0, .slice none 0 0] 38); have hb2 := HBC.out.alloc HBC.out.size (.cells #[.slice none 0 0, .int .i64 0, .int .i64 0, .int .i64 0, .int .i64 0, .int .i64 0, .int .i64 0, .int .i64 0, .int .i64 0, .slice none 0 0] 38))); have HLS := Lib.hid (lak_store hx0 rfl hBg2 HC'.out ho2 hb2); refine step_store_mid (by rfl) _ _ _ (by rfl) _ 0 (l0A VA' nV cV' (.slice none 0 0) l) (by rfl) (by rfl) (blk_there hx0 rfl) (by kernel_rfl) (by simp [Value.oneCell']) ?_
            refine hK.out _ _ (by (try dsimp only) <;> (first | with_reducible exact HS.out _ HBC.out | with_reducible exact HS.out _ HBC.out.drew | with_reducible exact HS.out _ (HBC.out.alloc HBC.out.size _) | with_reducible exact HS.out _ (HBC.out.drew.alloc HBC.out.size _) | with_reducible exact HS.out _ (HBC.out.alloc HBC.out.size _).drew | exact HS.out _ HLS.out.2.2)) (fun hHeld => ?_)
            clear hK K
            (try simp only [Act.put, List.setIfInBounds_toArray, List.set_cons_zero, List.set_cons_succ])
            (try refine wpAnyH_done (by kernel_rfl) ?_ _)
            go_wp2_with fail
            go_meet
            exact ⟨_, _, _, rfl, hBg2, HLS.out.1, HC'.out, HLS.out.2.1, HLS.out.2.2⟩
          · skip
            go_simp
            refine hK.out _ _ (by (try dsimp only) <;> (first | with_reducible exact HS.out _ HBC.out | with_reducible exact HS.out _ HBC.out.drew | with_reducible exact HS.out _ (HBC.out.alloc HBC.out.size _) | with_reducible exact HS.out _ (HBC.out.drew.alloc HBC.out.size _) | with_reducible exact HS.out _ (HBC.out.alloc HBC.out.size _).drew | exact HS.out _ HLS.out.2.2)) (fun hHeld => ?_)
            clear hK K
            (try simp only [Act.put, List.setIfInBounds_toArray, List.set_cons_zero, List.set_cons_succ])
            refine wpAnyH_ready (rs := [15]) (by kernel_rfl) (by simp) ?_
            refine AllReadyH.cons (o := ?o0x20) ?hi0x20 (fun K hK => ?_) AllReadyH.nil
            (case hi0x20 => (simp only [List.getElem?_toArray, List.getElem?_cons_succ, List.getElem?_cons_zero]; exact rfl))
            go_simp
            (go_at_call 61; refine (to_d _ _ _).mono ?_; rintro e wn ⟨rfl, hbn⟩; have hsz := HBC.out.size; have hb0 := below_tr (a := W) (by first | with_reducible exact HBC.out | with_reducible exact HBC.out.drew | with_reducible exact HBC.out.alloc HBC.out.size _ | with_reducible exact HBC.out.drew.alloc HBC.out.size _ | with_reducible exact (HBC.out.alloc HBC.out.size _).drew) hbn; clear HBC; have HBC := Lib.hid hb0; clear hb0; (first | (have hx0 := own_mono HO.out hbn; clear HO; have HO := Lib.hid hx0; clear hx0) | (have hx0 := own_mono (HO.out.alloc _) hbn; clear HO; have HO := Lib.hid hx0; clear hx0) | skip); (first | (have hx0 := HX.out.below hbn HX.out.lt; clear HX; have HX := Lib.hid hx0; clear hx0) | (have hx0 := Blk.below (Blk.new _ 38 _) hbn (by simp); have HX := Lib.hid hx0; have hBg := hsz; clear hx0) | (have hx0 := Blk.below (show Blk (World.drew (W.alloc (.cells #[.slice none 0 0, .int .i64 0, .int .i64 0, .int .i64 0, .int .i64 0, .int .i64 0, .int .i64 0, .int .i64 0, .int .i64 0, .slice none 0 0] 38))) W.heap.size 38 #[.slice none 0 0, .int .i64 0, .int .i64 0, .int .i64 0, .int .i64 0, .int .i64 0, .int .i64 0, .int .i64 0, .int .i64 0, .slice none 0 0] from Blk.new W _ _) hbn (by simp); have HX := Lib.hid hx0; have hBg := Nat.le_refl W.heap.size; clear hx0) | skip); clear hbn)
            (try go_wp2_with fail)
            refine hK.out _ _ (by (try dsimp only) <;> (first | with_reducible exact HS.out _ HBC.out | with_reducible exact HS.out _ HBC.out.drew | with_reducible exact HS.out _ (HBC.out.alloc HBC.out.size _) | with_reducible exact HS.out _ (HBC.out.drew.alloc HBC.out.size _) | with_reducible exact HS.out _ (HBC.out.alloc HBC.out.size _).drew | exact HS.out _ HLS.out.2.2)) (fun hHeld => ?_)
            clear hK K
            (try simp only [Act.put, List.setIfInBounds_toArray, List.set_cons_zero, List.set_cons_succ])
            (refine wpAnyH_take (i := 16) (oi := ?ox21) (v := ?vx21) ?hix21 ?k1x21 ?k2x21 ?k3x21 ?hQx21 ?hYx21 ?hSx21 ?restx21; (case hix21 => (simp only [List.getElem?_toArray, List.getElem?_cons_succ, List.getElem?_cons_zero]; exact rfl)); (case k1x21 => kernel_rfl); (case k2x21 => kernel_rfl); (case k3x21 => kernel_rfl); (case hSx21 => assumption); (case hYx21 => (refine Or.inl ⟨rfl, ?hyx21⟩; intro w hSw; (try dsimp only at hSw); go_simp; (try with_reducible rfl))); (case hQx21 => exact (fun _ _ _ h => h)); (try simp only [Act.put, List.setIfInBounds_toArray, List.set_cons_zero, List.set_cons_succ]))
            refine wpAnyH_ready (rs := [18]) (by kernel_rfl) (by simp) ?_
            refine AllReadyH.cons (o := ?o0x22) ?hi0x22 (fun K hK => ?_) AllReadyH.nil
            (case hi0x22 => (simp only [List.getElem?_toArray, List.getElem?_cons_succ, List.getElem?_cons_zero]; exact rfl))
            (first | (have hx0 := HX.out; have hBg2 := hBg; have ho2 := HO.out; have hb2 := HBC.out) | (have hx0 := Blk.new wn 38 #[.slice none 0 0, .int .i64 0, .int .i64 0, .int .i64 0, .int .i64 0, .int .i64 0, .int .i64 0, .int .i64 0, .int .i64 0, .slice none 0 0]; have hBg2 := HBC.out.size; have ho2 := HO.out.alloc (.cells #[.slice none 0 0, .int .i64 0, .int .i64 0, .int .i64 0, .int .i64 0, .int .i64 0, .int .i64 0, .int .i64 0, .int .i64 0, .slice none 0 0] 38); have hb2 := HBC.out.alloc HBC.out.size (.cells #[.slice none 0 0, .int .i64 0, .int .i64 0, .int .i64 0, .int .i64 0, .int .i64 0, .int .i64 0, .int .i64 0, .int .i64 0, .slice none 0 0] 38))); have HLS := Lib.hid (lak_store hx0 rfl hBg2 HC'.out ho2 hb2); refine step_store_mid (by rfl) _ _ _ (by rfl) _ 0 (l0A VA' nV cV' (.slice none 0 0) l) (by rfl) (by rfl) (blk_there hx0 rfl) (by kernel_rfl) (by simp [Value.oneCell']) ?_
            refine hK.out _ _ (by (try dsimp only) <;> (first | with_reducible exact HS.out _ HBC.out | with_reducible exact HS.out _ HBC.out.drew | with_reducible exact HS.out _ (HBC.out.alloc HBC.out.size _) | with_reducible exact HS.out _ (HBC.out.drew.alloc HBC.out.size _) | with_reducible exact HS.out _ (HBC.out.alloc HBC.out.size _).drew | exact HS.out _ HLS.out.2.2)) (fun hHeld => ?_)
            clear hK K
            (try simp only [Act.put, List.setIfInBounds_toArray, List.set_cons_zero, List.set_cons_succ])
            (try refine wpAnyH_done (by kernel_rfl) ?_ _)
            go_wp2_with fail
            go_meet
            exact ⟨_, _, _, rfl, hBg2, HLS.out.1, HC'.out, HLS.out.2.1, HLS.out.2.2⟩
        · skip
          go_simp
          refine hK.out _ _ (by (try dsimp only) <;> (first | with_reducible exact HS.out _ HBC.out | with_reducible exact HS.out _ HBC.out.drew | with_reducible exact HS.out _ (HBC.out.alloc HBC.out.size _) | with_reducible exact HS.out _ (HBC.out.drew.alloc HBC.out.size _) | with_reducible exact HS.out _ (HBC.out.alloc HBC.out.size _).drew | exact HS.out _ HLS.out.2.2)) (fun hHeld => ?_)
          clear hK K
          (try simp only [Act.put, List.setIfInBounds_toArray, List.set_cons_zero, List.set_cons_succ])
          refine wpAnyH_ready (rs := [12]) (by kernel_rfl) (by simp) ?_
          refine AllReadyH.cons (o := ?o0x23) ?hi0x23 (fun K hK => ?_) AllReadyH.nil
          (case hi0x23 => (simp only [List.getElem?_toArray, List.getElem?_cons_succ, List.getElem?_cons_zero]; exact rfl))
          go_simp
          (go_at_call 61; refine (to_d _ _ _).mono ?_; rintro e wn ⟨rfl, hbn⟩; have hsz := HBC.out.size; have hb0 := below_tr (a := W) (by first | with_reducible exact HBC.out | with_reducible exact HBC.out.drew | with_reducible exact HBC.out.alloc HBC.out.size _ | with_reducible exact HBC.out.drew.alloc HBC.out.size _ | with_reducible exact (HBC.out.alloc HBC.out.size _).drew) hbn; clear HBC; have HBC := Lib.hid hb0; clear hb0; (first | (have hx0 := own_mono HO.out hbn; clear HO; have HO := Lib.hid hx0; clear hx0) | (have hx0 := own_mono (HO.out.alloc _) hbn; clear HO; have HO := Lib.hid hx0; clear hx0) | skip); (first | (have hx0 := HX.out.below hbn HX.out.lt; clear HX; have HX := Lib.hid hx0; clear hx0) | (have hx0 := Blk.below (Blk.new _ 38 _) hbn (by simp); have HX := Lib.hid hx0; have hBg := hsz; clear hx0) | (have hx0 := Blk.below (show Blk (World.drew (W.alloc (.cells #[.slice none 0 0, .int .i64 0, .int .i64 0, .int .i64 0, .int .i64 0, .int .i64 0, .int .i64 0, .int .i64 0, .int .i64 0, .slice none 0 0] 38))) W.heap.size 38 #[.slice none 0 0, .int .i64 0, .int .i64 0, .int .i64 0, .int .i64 0, .int .i64 0, .int .i64 0, .int .i64 0, .int .i64 0, .slice none 0 0] from Blk.new W _ _) hbn (by simp); have HX := Lib.hid hx0; have hBg := Nat.le_refl W.heap.size; clear hx0) | skip); clear hbn)
          (try go_wp2_with fail)
          refine hK.out _ _ (by (try dsimp only) <;> (first | with_reducible exact HS.out _ HBC.out | with_reducible exact HS.out _ HBC.out.drew | with_reducible exact HS.out _ (HBC.out.alloc HBC.out.size _) | with_reducible exact HS.out _ (HBC.out.drew.alloc HBC.out.size _) | with_reducible exact HS.out _ (HBC.out.alloc HBC.out.size _).drew | exact HS.out _ HLS.out.2.2)) (fun hHeld => ?_)
          clear hK K
          (try simp only [Act.put, List.setIfInBounds_toArray, List.set_cons_zero, List.set_cons_succ])
          refine wpAnyH_ready (rs := [15]) (by kernel_rfl) (by simp) ?_
          refine AllReadyH.cons (o := ?o0x24) ?hi0x24 (fun K hK => ?_) AllReadyH.nil
          (case hi0x24 => (simp only [List.getElem?_toArray, List.getElem?_cons_succ, List.getElem?_cons_zero]; exact rfl))
          go_simp
          (go_at_call 61; refine (to_d _ _ _).mono ?_; rintro e wn ⟨rfl, hbn⟩; have hsz := HBC.out.size; have hb0 := below_tr (a := W) (by first | with_reducible exact HBC.out | with_reducible exact HBC.out.drew | with_reducible exact HBC.out.alloc HBC.out.size _ | with_reducible exact HBC.out.drew.alloc HBC.out.size _ | with_reducible exact (HBC.out.alloc HBC.out.size _).drew) hbn; clear HBC; have HBC := Lib.hid hb0; clear hb0; (first | (have hx0 := own_mono HO.out hbn; clear HO; have HO := Lib.hid hx0; clear hx0) | (have hx0 := own_mono (HO.out.alloc _) hbn; clear HO; have HO := Lib.hid hx0; clear hx0) | skip); (first | (have hx0 := HX.out.below hbn HX.out.lt; clear HX; have HX := Lib.hid hx0; clear hx0) | (have hx0 := Blk.below (Blk.new _ 38 _) hbn (by simp); have HX := Lib.hid hx0; have hBg := hsz; clear hx0) | (have hx0 := Blk.below (show Blk (World.drew (W.alloc (.cells #[.slice none 0 0, .int .i64 0, .int .i64 0, .int .i64 0, .int .i64 0, .int .i64 0, .int .i64 0, .int .i64 0, .int .i64 0, .slice none 0 0] 38))) W.heap.size 38 #[.slice none 0 0, .int .i64 0, .int .i64 0, .int .i64 0, .int .i64 0, .int .i64 0, .int .i64 0, .int .i64 0, .int .i64 0, .slice none 0 0] from Blk.new W _ _) hbn (by simp); have HX := Lib.hid hx0; have hBg := Nat.le_refl W.heap.size; clear hx0) | skip); clear hbn)
          (try go_wp2_with fail)
          refine hK.out _ _ (by (try dsimp only) <;> (first | with_reducible exact HS.out _ HBC.out | with_reducible exact HS.out _ HBC.out.drew | with_reducible exact HS.out _ (HBC.out.alloc HBC.out.size _) | with_reducible exact HS.out _ (HBC.out.drew.alloc HBC.out.size _) | with_reducible exact HS.out _ (HBC.out.alloc HBC.out.size _).drew | exact HS.out _ HLS.out.2.2)) (fun hHeld => ?_)
          clear hK K
          (try simp only [Act.put, List.setIfInBounds_toArray, List.set_cons_zero, List.set_cons_succ])
          (refine wpAnyH_take (i := 16) (oi := ?ox25) (v := ?vx25) ?hix25 ?k1x25 ?k2x25 ?k3x25 ?hQx25 ?hYx25 ?hSx25 ?restx25; (case hix25 => (simp only [List.getElem?_toArray, List.getElem?_cons_succ, List.getElem?_cons_zero]; exact rfl)); (case k1x25 => kernel_rfl); (case k2x25 => kernel_rfl); (case k3x25 => kernel_rfl); (case hSx25 => assumption); (case hYx25 => (refine Or.inl ⟨rfl, ?hyx25⟩; intro w hSw; (try dsimp only at hSw); go_simp; (try with_reducible rfl))); (case hQx25 => exact (fun _ _ _ h => h)); (try simp only [Act.put, List.setIfInBounds_toArray, List.set_cons_zero, List.set_cons_succ]))
          refine wpAnyH_ready (rs := [18]) (by kernel_rfl) (by simp) ?_
          refine AllReadyH.cons (o := ?o0x26) ?hi0x26 (fun K hK => ?_) AllReadyH.nil
          (case hi0x26 => (simp only [List.getElem?_toArray, List.getElem?_cons_succ, List.getElem?_cons_zero]; exact rfl))
          (first | (have hx0 := HX.out; have hBg2 := hBg; have ho2 := HO.out; have hb2 := HBC.out) | (have hx0 := Blk.new wn 38 #[.slice none 0 0, .int .i64 0, .int .i64 0, .int .i64 0, .int .i64 0, .int .i64 0, .int .i64 0, .int .i64 0, .int .i64 0, .slice none 0 0]; have hBg2 := HBC.out.size; have ho2 := HO.out.alloc (.cells #[.slice none 0 0, .int .i64 0, .int .i64 0, .int .i64 0, .int .i64 0, .int .i64 0, .int .i64 0, .int .i64 0, .int .i64 0, .slice none 0 0] 38); have hb2 := HBC.out.alloc HBC.out.size (.cells #[.slice none 0 0, .int .i64 0, .int .i64 0, .int .i64 0, .int .i64 0, .int .i64 0, .int .i64 0, .int .i64 0, .int .i64 0, .slice none 0 0] 38))); have HLS := Lib.hid (lak_store hx0 rfl hBg2 HC'.out ho2 hb2); refine step_store_mid (by rfl) _ _ _ (by rfl) _ 0 (l0A VA' nV cV' (.slice none 0 0) l) (by rfl) (by rfl) (blk_there hx0 rfl) (by kernel_rfl) (by simp [Value.oneCell']) ?_
          refine hK.out _ _ (by (try dsimp only) <;> (first | with_reducible exact HS.out _ HBC.out | with_reducible exact HS.out _ HBC.out.drew | with_reducible exact HS.out _ (HBC.out.alloc HBC.out.size _) | with_reducible exact HS.out _ (HBC.out.drew.alloc HBC.out.size _) | with_reducible exact HS.out _ (HBC.out.alloc HBC.out.size _).drew | exact HS.out _ HLS.out.2.2)) (fun hHeld => ?_)
          clear hK K
          (try simp only [Act.put, List.setIfInBounds_toArray, List.set_cons_zero, List.set_cons_succ])
          (try refine wpAnyH_done (by kernel_rfl) ?_ _)
          go_wp2_with fail
          go_meet
          exact ⟨_, _, _, rfl, hBg2, HLS.out.1, HC'.out, HLS.out.2.1, HLS.out.2.2⟩
      · skip
        go_simp
        refine hK.out _ _ (by (try dsimp only) <;> (first | with_reducible exact HS.out _ HBC.out | with_reducible exact HS.out _ HBC.out.drew | with_reducible exact HS.out _ (HBC.out.alloc HBC.out.size _) | with_reducible exact HS.out _ (HBC.out.drew.alloc HBC.out.size _) | with_reducible exact HS.out _ (HBC.out.alloc HBC.out.size _).drew | exact HS.out _ HLS.out.2.2)) (fun hHeld => ?_)
        clear hK K
        (try simp only [Act.put, List.setIfInBounds_toArray, List.set_cons_zero, List.set_cons_succ])
        refine wpAnyH_ready (rs := [9]) (by kernel_rfl) (by simp) ?_
        refine AllReadyH.cons (o := ?o0x27) ?hi0x27 (fun K hK => ?_) AllReadyH.nil
        (case hi0x27 => (simp only [List.getElem?_toArray, List.getElem?_cons_succ, List.getElem?_cons_zero]; exact rfl))
        go_simp
        (go_at_call 61; refine (to_d _ _ _).mono ?_; rintro e wn ⟨rfl, hbn⟩; have hsz := HBC.out.size; have hb0 := below_tr (a := W) (by first | with_reducible exact HBC.out | with_reducible exact HBC.out.drew | with_reducible exact HBC.out.alloc HBC.out.size _ | with_reducible exact HBC.out.drew.alloc HBC.out.size _ | with_reducible exact (HBC.out.alloc HBC.out.size _).drew) hbn; clear HBC; have HBC := Lib.hid hb0; clear hb0; (first | (have hx0 := own_mono HO.out hbn; clear HO; have HO := Lib.hid hx0; clear hx0) | (have hx0 := own_mono (HO.out.alloc _) hbn; clear HO; have HO := Lib.hid hx0; clear hx0) | skip); (first | (have hx0 := HX.out.below hbn HX.out.lt; clear HX; have HX := Lib.hid hx0; clear hx0) | (have hx0 := Blk.below (Blk.new _ 38 _) hbn (by simp); have HX := Lib.hid hx0; have hBg := hsz; clear hx0) | (have hx0 := Blk.below (show Blk (World.drew (W.alloc (.cells #[.slice none 0 0, .int .i64 0, .int .i64 0, .int .i64 0, .int .i64 0, .int .i64 0, .int .i64 0, .int .i64 0, .int .i64 0, .slice none 0 0] 38))) W.heap.size 38 #[.slice none 0 0, .int .i64 0, .int .i64 0, .int .i64 0, .int .i64 0, .int .i64 0, .int .i64 0, .int .i64 0, .int .i64 0, .slice none 0 0] from Blk.new W _ _) hbn (by simp); have HX := Lib.hid hx0; have hBg := Nat.le_refl W.heap.size; clear hx0) | skip); clear hbn)
        (try go_wp2_with fail)
        refine hK.out _ _ (by (try dsimp only) <;> (first | with_reducible exact HS.out _ HBC.out | with_reducible exact HS.out _ HBC.out.drew | with_reducible exact HS.out _ (HBC.out.alloc HBC.out.size _) | with_reducible exact HS.out _ (HBC.out.drew.alloc HBC.out.size _) | with_reducible exact HS.out _ (HBC.out.alloc HBC.out.size _).drew | exact HS.out _ HLS.out.2.2)) (fun hHeld => ?_)
        clear hK K
        (try simp only [Act.put, List.setIfInBounds_toArray, List.set_cons_zero, List.set_cons_succ])
        refine wpAnyH_ready (rs := [12]) (by kernel_rfl) (by simp) ?_
        refine AllReadyH.cons (o := ?o0x28) ?hi0x28 (fun K hK => ?_) AllReadyH.nil
        (case hi0x28 => (simp only [List.getElem?_toArray, List.getElem?_cons_succ, List.getElem?_cons_zero]; exact rfl))
        go_simp
        (go_at_call 61; refine (to_d _ _ _).mono ?_; rintro e wn ⟨rfl, hbn⟩; have hsz := HBC.out.size; have hb0 := below_tr (a := W) (by first | with_reducible exact HBC.out | with_reducible exact HBC.out.drew | with_reducible exact HBC.out.alloc HBC.out.size _ | with_reducible exact HBC.out.drew.alloc HBC.out.size _ | with_reducible exact (HBC.out.alloc HBC.out.size _).drew) hbn; clear HBC; have HBC := Lib.hid hb0; clear hb0; (first | (have hx0 := own_mono HO.out hbn; clear HO; have HO := Lib.hid hx0; clear hx0) | (have hx0 := own_mono (HO.out.alloc _) hbn; clear HO; have HO := Lib.hid hx0; clear hx0) | skip); (first | (have hx0 := HX.out.below hbn HX.out.lt; clear HX; have HX := Lib.hid hx0; clear hx0) | (have hx0 := Blk.below (Blk.new _ 38 _) hbn (by simp); have HX := Lib.hid hx0; have hBg := hsz; clear hx0) | (have hx0 := Blk.below (show Blk (World.drew (W.alloc (.cells #[.slice none 0 0, .int .i64 0, .int .i64 0, .int .i64 0, .int .i64 0, .int .i64 0, .int .i64 0, .int .i64 0, .int .i64 0, .slice none 0 0] 38))) W.heap.size 38 #[.slice none 0 0, .int .i64 0, .int .i64 0, .int .i64 0, .int .i64 0, .int .i64 0, .int .i64 0, .int .i64 0, .int .i64 0, .slice none 0 0] from Blk.new W _ _) hbn (by simp); have HX := Lib.hid hx0; have hBg := Nat.le_refl W.heap.size; clear hx0) | skip); clear hbn)
        (try go_wp2_with fail)
        refine hK.out _ _ (by (try dsimp only) <;> (first | with_reducible exact HS.out _ HBC.out | with_reducible exact HS.out _ HBC.out.drew | with_reducible exact HS.out _ (HBC.out.alloc HBC.out.size _) | with_reducible exact HS.out _ (HBC.out.drew.alloc HBC.out.size _) | with_reducible exact HS.out _ (HBC.out.alloc HBC.out.size _).drew | exact HS.out _ HLS.out.2.2)) (fun hHeld => ?_)
        clear hK K
        (try simp only [Act.put, List.setIfInBounds_toArray, List.set_cons_zero, List.set_cons_succ])
        refine wpAnyH_ready (rs := [15]) (by kernel_rfl) (by simp) ?_
        refine AllReadyH.cons (o := ?o0x29) ?hi0x29 (fun K hK => ?_) AllReadyH.nil
        (case hi0x29 => (simp only [List.getElem?_toArray, List.getElem?_cons_succ, List.getElem?_cons_zero]; exact rfl))
        go_simp
        (go_at_call 61; refine (to_d _ _ _).mono ?_; rintro e wn ⟨rfl, hbn⟩; have hsz := HBC.out.size; have hb0 := below_tr (a := W) (by first | with_reducible exact HBC.out | with_reducible exact HBC.out.drew | with_reducible exact HBC.out.alloc HBC.out.size _ | with_reducible exact HBC.out.drew.alloc HBC.out.size _ | with_reducible exact (HBC.out.alloc HBC.out.size _).drew) hbn; clear HBC; have HBC := Lib.hid hb0; clear hb0; (first | (have hx0 := own_mono HO.out hbn; clear HO; have HO := Lib.hid hx0; clear hx0) | (have hx0 := own_mono (HO.out.alloc _) hbn; clear HO; have HO := Lib.hid hx0; clear hx0) | skip); (first | (have hx0 := HX.out.below hbn HX.out.lt; clear HX; have HX := Lib.hid hx0; clear hx0) | (have hx0 := Blk.below (Blk.new _ 38 _) hbn (by simp); have HX := Lib.hid hx0; have hBg := hsz; clear hx0) | (have hx0 := Blk.below (show Blk (World.drew (W.alloc (.cells #[.slice none 0 0, .int .i64 0, .int .i64 0, .int .i64 0, .int .i64 0, .int .i64 0, .int .i64 0, .int .i64 0, .int .i64 0, .slice none 0 0] 38))) W.heap.size 38 #[.slice none 0 0, .int .i64 0, .int .i64 0, .int .i64 0, .int .i64 0, .int .i64 0, .int .i64 0, .int .i64 0, .int .i64 0, .slice none 0 0] from Blk.new W _ _) hbn (by simp); have HX := Lib.hid hx0; have hBg := Nat.le_refl W.heap.size; clear hx0) | skip); clear hbn)
        (try go_wp2_with fail)
        refine hK.out _ _ (by (try dsimp only) <;> (first | with_reducible exact HS.out _ HBC.out | with_reducible exact HS.out _ HBC.out.drew | with_reducible exact HS.out _ (HBC.out.alloc HBC.out.size _) | with_reducible exact HS.out _ (HBC.out.drew.alloc HBC.out.size _) | with_reducible exact HS.out _ (HBC.out.alloc HBC.out.size _).drew | exact HS.out _ HLS.out.2.2)) (fun hHeld => ?_)
        clear hK K
        (try simp only [Act.put, List.setIfInBounds_toArray, List.set_cons_zero, List.set_cons_succ])
        (refine wpAnyH_take (i := 16) (oi := ?ox30) (v := ?vx30) ?hix30 ?k1x30 ?k2x30 ?k3x30 ?hQx30 ?hYx30 ?hSx30 ?restx30; (case hix30 => (simp only [List.getElem?_toArray, List.getElem?_cons_succ, List.getElem?_cons_zero]; exact rfl)); (case k1x30 => kernel_rfl); (case k2x30 => kernel_rfl); (case k3x30 => kernel_rfl); (case hSx30 => assumption); (case hYx30 => (refine Or.inl ⟨rfl, ?hyx30⟩; intro w hSw; (try dsimp only at hSw); go_simp; (try with_reducible rfl))); (case hQx30 => exact (fun _ _ _ h => h)); (try simp only [Act.put, List.setIfInBounds_toArray, List.set_cons_zero, List.set_cons_succ]))
        refine wpAnyH_ready (rs := [18]) (by kernel_rfl) (by simp) ?_
        refine AllReadyH.cons (o := ?o0x31) ?hi0x31 (fun K hK => ?_) AllReadyH.nil
        (case hi0x31 => (simp only [List.getElem?_toArray, List.getElem?_cons_succ, List.getElem?_cons_zero]; exact rfl))
        (first | (have hx0 := HX.out; have hBg2 := hBg; have ho2 := HO.out; have hb2 := HBC.out) | (have hx0 := Blk.new wn 38 #[.slice none 0 0, .int .i64 0, .int .i64 0, .int .i64 0, .int .i64 0, .int .i64 0, .int .i64 0, .int .i64 0, .int .i64 0, .slice none 0 0]; have hBg2 := HBC.out.size; have ho2 := HO.out.alloc (.cells #[.slice none 0 0, .int .i64 0, .int .i64 0, .int .i64 0, .int .i64 0, .int .i64 0, .int .i64 0, .int .i64 0, .int .i64 0, .slice none 0 0] 38); have hb2 := HBC.out.alloc HBC.out.size (.cells #[.slice none 0 0, .int .i64 0, .int .i64 0, .int .i64 0, .int .i64 0, .int .i64 0, .int .i64 0, .int .i64 0, .int .i64 0, .slice none 0 0] 38))); have HLS := Lib.hid (lak_store hx0 rfl hBg2 HC'.out ho2 hb2); refine step_store_mid (by rfl) _ _ _ (by rfl) _ 0 (l0A VA' nV cV' (.slice none 0 0) l) (by rfl) (by rfl) (blk_there hx0 rfl) (by kernel_rfl) (by simp [Value.oneCell']) ?_
        refine hK.out _ _ (by (try dsimp only) <;> (first | with_reducible exact HS.out _ HBC.out | with_reducible exact HS.out _ HBC.out.drew | with_reducible exact HS.out _ (HBC.out.alloc HBC.out.size _) | with_reducible exact HS.out _ (HBC.out.drew.alloc HBC.out.size _) | with_reducible exact HS.out _ (HBC.out.alloc HBC.out.size _).drew | exact HS.out _ HLS.out.2.2)) (fun hHeld => ?_)
        clear hK K
        (try simp only [Act.put, List.setIfInBounds_toArray, List.set_cons_zero, List.set_cons_succ])
        (try refine wpAnyH_done (by kernel_rfl) ?_ _)
        go_wp2_with fail
        go_meet
        exact ⟨_, _, _, rfl, hBg2, HLS.out.1, HC'.out, HLS.out.2.1, HLS.out.2.2⟩
    · skip
      go_simp
      refine hK.out _ _ (by (try dsimp only) <;> (first | with_reducible exact HS.out _ HBC.out | with_reducible exact HS.out _ HBC.out.drew | with_reducible exact HS.out _ (HBC.out.alloc HBC.out.size _) | with_reducible exact HS.out _ (HBC.out.drew.alloc HBC.out.size _) | with_reducible exact HS.out _ (HBC.out.alloc HBC.out.size _).drew | exact HS.out _ HLS.out.2.2)) (fun hHeld => ?_)
      clear hK K
      (try simp only [Act.put, List.setIfInBounds_toArray, List.set_cons_zero, List.set_cons_succ])
      refine wpAnyH_ready (rs := [2]) (by kernel_rfl) (by simp) ?_
      refine AllReadyH.cons (o := ?o0x32) ?hi0x32 (fun K hK => ?_) AllReadyH.nil
      (case hi0x32 => (simp only [List.getElem?_toArray, List.getElem?_cons_succ, List.getElem?_cons_zero]; exact rfl))
      go_simp
      (go_at_call 27; refine (HLI.out _ (by first | with_reducible exact HBC.out | with_reducible exact HBC.out.drew | with_reducible exact HBC.out.alloc HBC.out.size _ | with_reducible exact HBC.out.drew.alloc HBC.out.size _ | with_reducible exact (HBC.out.alloc HBC.out.size _).drew)).mono ?_; rintro e wn ⟨VA', cV', rfl, hc', hown, hbn⟩; have HC' := Lib.hid hc'; have HO := Lib.hid (own_weak (base := W.heap.size) hown (by first | exact HBC.out.size | (have := HBC.out.size; simp <;> omega))); clear hc' hown; have hsz := HBC.out.size; have hb0 := below_tr (a := W) (by first | with_reducible exact HBC.out | with_reducible exact HBC.out.drew | with_reducible exact HBC.out.alloc HBC.out.size _ | with_reducible exact HBC.out.drew.alloc HBC.out.size _ | with_reducible exact (HBC.out.alloc HBC.out.size _).drew) hbn; clear HBC; have HBC := Lib.hid hb0; clear hb0; (first | (have hx0 := HX.out.below hbn HX.out.lt; clear HX; have HX := Lib.hid hx0; clear hx0) | (have hx0 := Blk.below (Blk.new _ 38 _) hbn (by simp); have HX := Lib.hid hx0; have hBg := hsz; clear hx0) | (have hx0 := Blk.below (show Blk (World.drew (W.alloc (.cells #[.slice none 0 0, .int .i64 0, .int .i64 0, .int .i64 0, .int .i64 0, .int .i64 0, .int .i64 0, .int .i64 0, .int .i64 0, .slice none 0 0] 38))) W.heap.size 38 #[.slice none 0 0, .int .i64 0, .int .i64 0, .int .i64 0, .int .i64 0, .int .i64 0, .int .i64 0, .int .i64 0, .int .i64 0, .slice none 0 0] from Blk.new W _ _) hbn (by simp); have HX := Lib.hid hx0; have hBg := Nat.le_refl W.heap.size; clear hx0) | skip); clear hbn)
      (try go_wp2_with fail)
      refine hK.out _ _ (by (try dsimp only) <;> (first | with_reducible exact HS.out _ HBC.out | with_reducible exact HS.out _ HBC.out.drew | with_reducible exact HS.out _ (HBC.out.alloc HBC.out.size _) | with_reducible exact HS.out _ (HBC.out.drew.alloc HBC.out.size _) | with_reducible exact HS.out _ (HBC.out.alloc HBC.out.size _).drew | exact HS.out _ HLS.out.2.2)) (fun hHeld => ?_)
      clear hK K
      (try simp only [Act.put, List.setIfInBounds_toArray, List.set_cons_zero, List.set_cons_succ])
      refine wpAnyH_ready (rs := [9]) (by kernel_rfl) (by simp) ?_
      refine AllReadyH.cons (o := ?o0x33) ?hi0x33 (fun K hK => ?_) AllReadyH.nil
      (case hi0x33 => (simp only [List.getElem?_toArray, List.getElem?_cons_succ, List.getElem?_cons_zero]; exact rfl))
      go_simp
      (go_at_call 61; refine (to_d _ _ _).mono ?_; rintro e wn ⟨rfl, hbn⟩; have hsz := HBC.out.size; have hb0 := below_tr (a := W) (by first | with_reducible exact HBC.out | with_reducible exact HBC.out.drew | with_reducible exact HBC.out.alloc HBC.out.size _ | with_reducible exact HBC.out.drew.alloc HBC.out.size _ | with_reducible exact (HBC.out.alloc HBC.out.size _).drew) hbn; clear HBC; have HBC := Lib.hid hb0; clear hb0; (first | (have hx0 := own_mono HO.out hbn; clear HO; have HO := Lib.hid hx0; clear hx0) | (have hx0 := own_mono (HO.out.alloc _) hbn; clear HO; have HO := Lib.hid hx0; clear hx0) | skip); (first | (have hx0 := HX.out.below hbn HX.out.lt; clear HX; have HX := Lib.hid hx0; clear hx0) | (have hx0 := Blk.below (Blk.new _ 38 _) hbn (by simp); have HX := Lib.hid hx0; have hBg := hsz; clear hx0) | (have hx0 := Blk.below (show Blk (World.drew (W.alloc (.cells #[.slice none 0 0, .int .i64 0, .int .i64 0, .int .i64 0, .int .i64 0, .int .i64 0, .int .i64 0, .int .i64 0, .int .i64 0, .slice none 0 0] 38))) W.heap.size 38 #[.slice none 0 0, .int .i64 0, .int .i64 0, .int .i64 0, .int .i64 0, .int .i64 0, .int .i64 0, .int .i64 0, .int .i64 0, .slice none 0 0] from Blk.new W _ _) hbn (by simp); have HX := Lib.hid hx0; have hBg := Nat.le_refl W.heap.size; clear hx0) | skip); clear hbn)
      (try go_wp2_with fail)
      refine hK.out _ _ (by (try dsimp only) <;> (first | with_reducible exact HS.out _ HBC.out | with_reducible exact HS.out _ HBC.out.drew | with_reducible exact HS.out _ (HBC.out.alloc HBC.out.size _) | with_reducible exact HS.out _ (HBC.out.drew.alloc HBC.out.size _) | with_reducible exact HS.out _ (HBC.out.alloc HBC.out.size _).drew | exact HS.out _ HLS.out.2.2)) (fun hHeld => ?_)
      clear hK K
      (try simp only [Act.put, List.setIfInBounds_toArray, List.set_cons_zero, List.set_cons_succ])
      refine wpAnyH_ready (rs := [12]) (by kernel_rfl) (by simp) ?_
      refine AllReadyH.cons (o := ?o0x34) ?hi0x34 (fun K hK => ?_) AllReadyH.nil
      (case hi0x34 => (simp only [List.getElem?_toArray, List.getElem?_cons_succ, List.getElem?_cons_zero]; exact rfl))
      go_simp
      (go_at_call 61; refine (to_d _ _ _).mono ?_; rintro e wn ⟨rfl, hbn⟩; have hsz := HBC.out.size; have hb0 := below_tr (a := W) (by first | with_reducible exact HBC.out | with_reducible exact HBC.out.drew | with_reducible exact HBC.out.alloc HBC.out.size _ | with_reducible exact HBC.out.drew.alloc HBC.out.size _ | with_reducible exact (HBC.out.alloc HBC.out.size _).drew) hbn; clear HBC; have HBC := Lib.hid hb0; clear hb0; (first | (have hx0 := own_mono HO.out hbn; clear HO; have HO := Lib.hid hx0; clear hx0) | (have hx0 := own_mono (HO.out.alloc _) hbn; clear HO; have HO := Lib.hid hx0; clear hx0) | skip); (first | (have hx0 := HX.out.below hbn HX.out.lt; clear HX; have HX := Lib.hid hx0; clear hx0) | (have hx0 := Blk.below (Blk.new _ 38 _) hbn (by simp); have HX := Lib.hid hx0; have hBg := hsz; clear hx0) | (have hx0 := Blk.below (show Blk (World.drew (W.alloc (.cells #[.slice none 0 0, .int .i64 0, .int .i64 0, .int .i64 0, .int .i64 0, .int .i64 0, .int .i64 0, .int .i64 0, .int .i64 0, .slice none 0 0] 38))) W.heap.size 38 #[.slice none 0 0, .int .i64 0, .int .i64 0, .int .i64 0, .int .i64 0, .int .i64 0, .int .i64 0, .int .i64 0, .int .i64 0, .slice none 0 0] from Blk.new W _ _) hbn (by simp); have HX := Lib.hid hx0; have hBg := Nat.le_refl W.heap.size; clear hx0) | skip); clear hbn)
      (try go_wp2_with fail)
      refine hK.out _ _ (by (try dsimp only) <;> (first | with_reducible exact HS.out _ HBC.out | with_reducible exact HS.out _ HBC.out.drew | with_reducible exact HS.out _ (HBC.out.alloc HBC.out.size _) | with_reducible exact HS.out _ (HBC.out.drew.alloc HBC.out.size _) | with_reducible exact HS.out _ (HBC.out.alloc HBC.out.size _).drew | exact HS.out _ HLS.out.2.2)) (fun hHeld => ?_)
      clear hK K
      (try simp only [Act.put, List.setIfInBounds_toArray, List.set_cons_zero, List.set_cons_succ])
      refine wpAnyH_ready (rs := [15]) (by kernel_rfl) (by simp) ?_
      refine AllReadyH.cons (o := ?o0x35) ?hi0x35 (fun K hK => ?_) AllReadyH.nil
      (case hi0x35 => (simp only [List.getElem?_toArray, List.getElem?_cons_succ, List.getElem?_cons_zero]; exact rfl))
      go_simp
      (go_at_call 61; refine (to_d _ _ _).mono ?_; rintro e wn ⟨rfl, hbn⟩; have hsz := HBC.out.size; have hb0 := below_tr (a := W) (by first | with_reducible exact HBC.out | with_reducible exact HBC.out.drew | with_reducible exact HBC.out.alloc HBC.out.size _ | with_reducible exact HBC.out.drew.alloc HBC.out.size _ | with_reducible exact (HBC.out.alloc HBC.out.size _).drew) hbn; clear HBC; have HBC := Lib.hid hb0; clear hb0; (first | (have hx0 := own_mono HO.out hbn; clear HO; have HO := Lib.hid hx0; clear hx0) | (have hx0 := own_mono (HO.out.alloc _) hbn; clear HO; have HO := Lib.hid hx0; clear hx0) | skip); (first | (have hx0 := HX.out.below hbn HX.out.lt; clear HX; have HX := Lib.hid hx0; clear hx0) | (have hx0 := Blk.below (Blk.new _ 38 _) hbn (by simp); have HX := Lib.hid hx0; have hBg := hsz; clear hx0) | (have hx0 := Blk.below (show Blk (World.drew (W.alloc (.cells #[.slice none 0 0, .int .i64 0, .int .i64 0, .int .i64 0, .int .i64 0, .int .i64 0, .int .i64 0, .int .i64 0, .int .i64 0, .slice none 0 0] 38))) W.heap.size 38 #[.slice none 0 0, .int .i64 0, .int .i64 0, .int .i64 0, .int .i64 0, .int .i64 0, .int .i64 0, .int .i64 0, .int .i64 0, .slice none 0 0] from Blk.new W _ _) hbn (by simp); have HX := Lib.hid hx0; have hBg := Nat.le_refl W.heap.size; clear hx0) | skip); clear hbn)
      (try go_wp2_with fail)
      refine hK.out _ _ (by (try dsimp only) <;> (first | with_reducible exact HS.out _ HBC.out | with_reducible exact HS.out _ HBC.out.drew | with_reducible exact HS.out _ (HBC.out.alloc HBC.out.size _) | with_reducible exact HS.out _ (HBC.out.drew.alloc HBC.out.size _) | with_reducible exact HS.out _ (HBC.out.alloc HBC.out.size _).drew | exact HS.out _ HLS.out.2.2)) (fun hHeld => ?_)
      clear hK K
      (try simp only [Act.put, List.setIfInBounds_toArray, List.set_cons_zero, List.set_cons_succ])
      (refine wpAnyH_take (i := 16) (oi := ?ox36) (v := ?vx36) ?hix36 ?k1x36 ?k2x36 ?k3x36 ?hQx36 ?hYx36 ?hSx36 ?restx36; (case hix36 => (simp only [List.getElem?_toArray, List.getElem?_cons_succ, List.getElem?_cons_zero]; exact rfl)); (case k1x36 => kernel_rfl); (case k2x36 => kernel_rfl); (case k3x36 => kernel_rfl); (case hSx36 => assumption); (case hYx36 => (refine Or.inl ⟨rfl, ?hyx36⟩; intro w hSw; (try dsimp only at hSw); go_simp; (try with_reducible rfl))); (case hQx36 => exact (fun _ _ _ h => h)); (try simp only [Act.put, List.setIfInBounds_toArray, List.set_cons_zero, List.set_cons_succ]))
      refine wpAnyH_ready (rs := [18]) (by kernel_rfl) (by simp) ?_
      refine AllReadyH.cons (o := ?o0x37) ?hi0x37 (fun K hK => ?_) AllReadyH.nil
      (case hi0x37 => (simp only [List.getElem?_toArray, List.getElem?_cons_succ, List.getElem?_cons_zero]; exact rfl))
      (first | (have hx0 := HX.out; have hBg2 := hBg; have ho2 := HO.out; have hb2 := HBC.out) | (have hx0 := Blk.new wn 38 #[.slice none 0 0, .int .i64 0, .int .i64 0, .int .i64 0, .int .i64 0, .int .i64 0, .int .i64 0, .int .i64 0, .int .i64 0, .slice none 0 0]; have hBg2 := HBC.out.size; have ho2 := HO.out.alloc (.cells #[.slice none 0 0, .int .i64 0, .int .i64 0, .int .i64 0, .int .i64 0, .int .i64 0, .int .i64 0, .int .i64 0, .int .i64 0, .slice none 0 0] 38); have hb2 := HBC.out.alloc HBC.out.size (.cells #[.slice none 0 0, .int .i64 0, .int .i64 0, .int .i64 0, .int .i64 0, .int .i64 0, .int .i64 0, .int .i64 0, .int .i64 0, .slice none 0 0] 38))); have HLS := Lib.hid (lak_store hx0 rfl hBg2 HC'.out ho2 hb2); refine step_store_mid (by rfl) _ _ _ (by rfl) _ 0 (l0A VA' nV cV' (.slice none 0 0) l) (by rfl) (by rfl) (blk_there hx0 rfl) (by kernel_rfl) (by simp [Value.oneCell']) ?_
      refine hK.out _ _ (by (try dsimp only) <;> (first | with_reducible exact HS.out _ HBC.out | with_reducible exact HS.out _ HBC.out.drew | with_reducible exact HS.out _ (HBC.out.alloc HBC.out.size _) | with_reducible exact HS.out _ (HBC.out.drew.alloc HBC.out.size _) | with_reducible exact HS.out _ (HBC.out.alloc HBC.out.size _).drew | exact HS.out _ HLS.out.2.2)) (fun hHeld => ?_)
      clear hK K
      (try simp only [Act.put, List.setIfInBounds_toArray, List.set_cons_zero, List.set_cons_succ])
      (try refine wpAnyH_done (by kernel_rfl) ?_ _)
      go_wp2_with fail
      go_meet
      exact ⟨_, _, _, rfl, hBg2, HLS.out.1, HC'.out, HLS.out.2.1, HLS.out.2.2⟩
  case rest =>
    obtain ⟨B, VA', cV', rfl, hBg, hBl, hc', hown, hbel⟩ := hcut
    obtain ⟨i0, hi0, hz0, hz1, hz2⟩ := info_parts infoR
    have HI := Lib.hid hi0; have HZ0 := Lib.hid hz0; have HZ1 := Lib.hid hz1; have HZ2 := Lib.hid hz2
    have HN := Lib.hid HH.out.infl.len
    have HV := Lib.hid hown; have HC' := Lib.hid hc'; have HBL := Lib.hid hBl; have HBX := Lib.hid hbel
    have HP := Lib.hid (fun (U : World) (hU : Below W.heap.size W U) => show U.cell? ⟨w.heap.size, 9, none⟩ = some (.slice IA nI cI) from bel_keep hU (by have := HXW.out.cell 9; simpa using this))
    have HIN := Lib.hid (fun (k : Nat) (hk : k < nI) => (HH.out.infl.below HB.out).at2 hk)
    clear hi0 hz0 hz1 hz2 hown hc' hBl hbel
    go_wp2_with fail
    go_loopw [4] (fun i wr => ∃ (k : Nat) (IA' : Option Addr) (cI' : Nat), k ≤ nI ∧ i = .int .i64 k ∧ Blk wr B 38 (l0A VA' nV cV' (.slice IA' k cI') l) ∧ wr.ownsRow W.heap.size 3 1 (.slice VA' nV cV') nV (l.vols.flatMap enc1) ∧ wr.ownsRow W.heap.size 35 2 (.slice IA' k cI') k ((l.inflow.take k).flatMap enc2) ∧ Below W.heap.size W wr) (fun i _ => nI - (intOf i).toNat)
    case atStart => exact ⟨0, none, 0, Nat.zero_le _, rfl, HBL.out, HV.out, World.ownsRow_nil _ _ _ _, HBX.out⟩
    case round =>
      obtain ⟨k, IA', cI', hk, rfl, hBr, hvr, hir, hbr⟩ := hrel
      have c9 := hBr.cell 9
      have f9 := hBr.frozen 9
      simp at c9
      have pX := HP.out _ hbr
      have HBR := Lib.hid hBr; have HVR := Lib.hid hvr; have HIR := Lib.hid hir; have HBC := Lib.hid hbr
      clear hBr hvr hir hbr
      by_cases hlt : k < nI
      · obtain ⟨b, o, x, hA, hbl, hx, h0', h1'⟩ := HIN.out k hlt
        subst hA
        have HX2 := Lib.hid hx; clear hx
        have HS3 := Lib.hid (fun (U : World) (hU : Below W.heap.size W U) => show U.cell? ⟨w.heap.size, 9, none⟩ = some (.slice (some ⟨b, o, none⟩) nI cI) ∧ U.cell? ⟨b, o + k * 2, none⟩ = some (.int .i64 x.1) ∧ U.cell? ⟨b, o + k * 2 + 1, none⟩ = some (.int .i64 x.2) from ⟨HP.out U hU, bel_keep hU h0', bel_keep hU h1'⟩)
        clear h0' h1'
        have hi1 : (k : Int) < (nI : Int) := by omega
        have hi0' : (0 : Int) ≤ (k : Int) := by omega
        go_wp2
        have hx0 : wr.drew.ownsRow W.heap.size 3 1 (.slice VA' nV cV') nV (l.vols.flatMap enc1) := HVR.out
        clear HVR; have HVR := Lib.hid hx0; clear hx0
        have hx0 : wr.drew.ownsRow W.heap.size 35 2 (.slice IA' k cI') k ((l.inflow.take k).flatMap enc2) := HIR.out
        clear HIR; have HIR := Lib.hid hx0; clear hx0
        have hx0 : Blk wr.drew B 38 (l0A VA' nV cV' (.slice IA' k cI') l) := HBR.out
        clear HBR; have HBR := Lib.hid hx0; clear hx0
        have hx0 : Below W.heap.size W wr.drew := HBC.out.drew
        clear HBC; have HBC := Lib.hid hx0; clear hx0
        refine wp_region_held_drew (S := (fun U => U.cell? ⟨w.heap.size, 9, none⟩ = some (.slice (some ⟨b, o, none⟩) nI cI) ∧ U.cell? ⟨b, o + k * 2, none⟩ = some (.int .i64 x.1) ∧ U.cell? ⟨b, o + k * 2 + 1, none⟩ = some (.int .i64 x.2))) (by kernel_rfl) (by (first | with_reducible exact HS3.out _ HBC.out | with_reducible exact HS3.out _ HBC.out.drew | with_reducible exact HS3.out _ (HBC.out.alloc HBC.out.size _) | with_reducible exact HS3.out _ (HBC.out.setCell hBg _) | exact HS3.out _ (HBC.out.setCell (p := ⟨B, 9, none⟩) hBg _))) (fun hHeld => ?_)
        (refine wpAnyH_take (i := 0) (oi := ?ox101) (v := ?vx101) ?hix101 ?k1x101 ?k2x101 ?k3x101 ?hQx101 ?hYx101 ?hSx101 ?restx101; (case hix101 => (simp only [List.getElem?_toArray, List.getElem?_cons_succ, List.getElem?_cons_zero]; exact rfl)); (case k1x101 => kernel_rfl); (case k2x101 => kernel_rfl); (case k3x101 => kernel_rfl); (case hSx101 => assumption); (case hYx101 => (refine Or.inl ⟨rfl, ?hyx101⟩; intro w hSw; (try dsimp only at hSw); go_simp; (try with_reducible rfl))); (case hQx101 => exact (fun _ _ _ h => h)); (try simp only [Act.put, List.setIfInBounds_toArray, List.set_cons_zero, List.set_cons_succ]))
        (refine wpAnyH_take (i := 2) (oi := ?ox102) (v := ?vx102) ?hix102 ?k1x102 ?k2x102 ?k3x102 ?hQx102 ?hYx102 ?hSx102 ?restx102; (case hix102 => (simp only [List.getElem?_toArray, List.getElem?_cons_succ, List.getElem?_cons_zero]; exact rfl)); (case k1x102 => kernel_rfl); (case k2x102 => kernel_rfl); (case k3x102 => kernel_rfl); (case hSx102 => assumption); (case hYx102 => (refine Or.inl ⟨rfl, ?hyx102⟩; intro w hSw; (try dsimp only at hSw); go_simp; (try with_reducible rfl))); (case hQx102 => exact (fun _ _ _ h => h)); (try simp only [Act.put, List.setIfInBounds_toArray, List.set_cons_zero, List.set_cons_succ]))
        (refine wpAnyH_take (i := 3) (oi := ?ox103) (v := ?vx103) ?hix103 ?k1x103 ?k2x103 ?k3x103 ?hQx103 ?hYx103 ?hSx103 ?restx103; (case hix103 => (simp only [List.getElem?_toArray, List.getElem?_cons_succ, List.getElem?_cons_zero]; exact rfl)); (case k1x103 => kernel_rfl); (case k2x103 => kernel_rfl); (case k3x103 => kernel_rfl); (case hSx103 => assumption); (case hYx103 => (refine Or.inl ⟨rfl, ?hyx103⟩; intro w hSw; (try dsimp only at hSw); go_simp; (try with_reducible rfl))); (case hQx103 => exact (fun _ _ _ h => h)); (try simp only [Act.put, List.setIfInBounds_toArray, List.set_cons_zero, List.set_cons_succ]))
        (refine wpAnyH_take (i := 4) (oi := ?ox104) (v := ?vx104) ?hix104 ?k1x104 ?k2x104 ?k3x104 ?hQx104 ?hYx104 ?hSx104 ?restx104; (case hix104 => (simp only [List.getElem?_toArray, List.getElem?_cons_succ, List.getElem?_cons_zero]; exact rfl)); (case k1x104 => kernel_rfl); (case k2x104 => kernel_rfl); (case k3x104 => kernel_rfl); (case hSx104 => assumption); (case hYx104 => (refine Or.inl ⟨rfl, ?hyx104⟩; intro w hSw; (try dsimp only at hSw); go_simp; (try with_reducible rfl))); (case hQx104 => exact (fun _ _ _ h => h)); (try simp only [Act.put, List.setIfInBounds_toArray, List.set_cons_zero, List.set_cons_succ]))
        (refine wpAnyH_take (i := 5) (oi := ?ox105) (v := ?vx105) ?hix105 ?k1x105 ?k2x105 ?k3x105 ?hQx105 ?hYx105 ?hSx105 ?restx105; (case hix105 => (simp only [List.getElem?_toArray, List.getElem?_cons_succ, List.getElem?_cons_zero]; exact rfl)); (case k1x105 => kernel_rfl); (case k2x105 => kernel_rfl); (case k3x105 => kernel_rfl); (case hSx105 => assumption); (case hYx105 => (refine Or.inl ⟨rfl, ?hyx105⟩; intro w hSw; (try dsimp only at hSw); go_simp; (try with_reducible rfl))); (case hQx105 => exact (fun _ _ _ h => h)); (try simp only [Act.put, List.setIfInBounds_toArray, List.set_cons_zero, List.set_cons_succ]))
        (refine wpAnyH_take (i := 6) (oi := ?ox106) (v := ?vx106) ?hix106 ?k1x106 ?k2x106 ?k3x106 ?hQx106 ?hYx106 ?hSx106 ?restx106; (case hix106 => (simp only [List.getElem?_toArray, List.getElem?_cons_succ, List.getElem?_cons_zero]; exact rfl)); (case k1x106 => kernel_rfl); (case k2x106 => kernel_rfl); (case k3x106 => kernel_rfl); (case hSx106 => assumption); (case hYx106 => (refine Or.inl ⟨rfl, ?hyx106⟩; intro w hSw; (try dsimp only at hSw); go_simp; (try with_reducible rfl))); (case hQx106 => exact (fun _ _ _ h => h)); (try simp only [Act.put, List.setIfInBounds_toArray, List.set_cons_zero, List.set_cons_succ]))
        refine wpAnyH_ready (rs := [1, 7]) (by kernel_rfl) (by simp) ?_
        refine AllReadyH.cons (o := ?o0x107) ?hi0x107 (fun K hK => ?_) (AllReadyH.cons (o := ?o1x107) ?hi1x107 (fun K hK => ?_) AllReadyH.nil)
        (case hi0x107 => (simp only [List.getElem?_toArray, List.getElem?_cons_succ, List.getElem?_cons_zero]; exact rfl))
        (case hi1x107 => (simp only [List.getElem?_toArray, List.getElem?_cons_succ, List.getElem?_cons_zero]; exact rfl))
        · skip
          go_simp
          refine hK.out _ _ (by (try dsimp only) <;> (first | with_reducible exact HS3.out _ HBC.out | with_reducible exact HS3.out _ HBC.out.drew | with_reducible exact HS3.out _ (HBC.out.alloc HBC.out.size _) | with_reducible exact HS3.out _ (HBC.out.setCell hBg _) | exact HS3.out _ (HBC.out.setCell (p := ⟨B, 9, none⟩) hBg _))) (fun hHeld => ?_)
          clear hK K
          (try simp only [Act.put, List.setIfInBounds_toArray, List.set_cons_zero, List.set_cons_succ])
          refine wpAnyH_ready (rs := [7]) (by kernel_rfl) (by simp) ?_
          refine AllReadyH.cons (o := ?o0x108) ?hi0x108 (fun K hK => ?_) AllReadyH.nil
          (case hi0x108 => (simp only [List.getElem?_toArray, List.getElem?_cons_succ, List.getElem?_cons_zero]; exact rfl))
          go_simp
          (go_at_call 61; refine (to_d _ _ _).mono ?_; rintro e wn ⟨rfl, hbn⟩; have hb0 := below_tr (a := W) (by first | with_reducible exact HBC.out | with_reducible exact HBC.out.drew | with_reducible exact HBC.out.alloc HBC.out.size _ | with_reducible exact HBC.out.drew.alloc HBC.out.size _ | with_reducible exact (HBC.out.alloc HBC.out.size _).drew) hbn; clear HBC; have HBC := Lib.hid hb0; clear hb0; have hx0 := own_mono HIR.out hbn; clear HIR; have HIR := Lib.hid hx0; clear hx0; have hx0 := own_mono HVR.out hbn; clear HVR; have HVR := Lib.hid hx0; clear hx0; have hx0 := HBR.out.below hbn HBR.out.lt; clear HBR; have HBR := Lib.hid hx0; clear hx0; have c9n := HBR.out.cell 9; simp at c9n; have hltn := HBR.out.lt; have hnen : ¬ (B = wn.heap.size) := Nat.ne_of_lt hltn; clear hbn)
          (try go_wp2_with fail)
          refine hK.out _ _ (by (try dsimp only) <;> (first | with_reducible exact HS3.out _ HBC.out | with_reducible exact HS3.out _ HBC.out.drew | with_reducible exact HS3.out _ (HBC.out.alloc HBC.out.size _) | with_reducible exact HS3.out _ (HBC.out.setCell hBg _) | exact HS3.out _ (HBC.out.setCell (p := ⟨B, 9, none⟩) hBg _))) (fun hHeld => ?_)
          clear hK K
          (try simp only [Act.put, List.setIfInBounds_toArray, List.set_cons_zero, List.set_cons_succ])
          refine wpAnyH_ready (rs := [8]) (by kernel_rfl) (by simp) ?_
          refine AllReadyH.cons (o := ?o0x109) ?hi0x109 (fun K hK => ?_) AllReadyH.nil
          (case hi0x109 => (simp only [List.getElem?_toArray, List.getElem?_cons_succ, List.getElem?_cons_zero]; exact rfl))
          go_simp
          refine hK.out _ _ (by (try dsimp only) <;> (first | with_reducible exact HS3.out _ HBC.out | with_reducible exact HS3.out _ HBC.out.drew | with_reducible exact HS3.out _ (HBC.out.alloc HBC.out.size _) | with_reducible exact HS3.out _ (HBC.out.setCell hBg _) | exact HS3.out _ (HBC.out.setCell (p := ⟨B, 9, none⟩) hBg _))) (fun hHeld => ?_)
          clear hK K
          (try simp only [Act.put, List.setIfInBounds_toArray, List.set_cons_zero, List.set_cons_succ])
          refine wpAnyH_ready (rs := [9]) (by kernel_rfl) (by simp) ?_
          refine AllReadyH.cons (o := ?o0x110) ?hi0x110 (fun K hK => ?_) AllReadyH.nil
          (case hi0x110 => (simp only [List.getElem?_toArray, List.getElem?_cons_succ, List.getElem?_cons_zero]; exact rfl))
          (refine step_append_lies _ (by rfl) _ _ _ (by rfl) W.heap.size 35 i0 _ 2 16 Try.underlying36 HI.out HZ0.out HZ1.out HZ2.out rfl (by omega) _ k ((l.inflow.take k).flatMap enc2) (by rfl) (HIR.out.alloc _) ⟨wn.heap.size, 0, none⟩ 1 1 [.int .i64 x.1, .int .i64 x.2] (by rfl) (by rfl) (World.news_of_block (cs := #[.int .i64 x.1, .int .i64 x.2]) (t := 35) (fr := (0, 0)) (heap_alloc_new wn _)) (by simp [Value.oneCell']) (by omega) (by unfold maxLen; omega) (by omega) (by have := HBC.out.size; simp; omega) (wn.heap.size + 1) (by simp) ?_; intro gg cap w3 hown3 hgrow hat hlt3; have HX3 := Lib.hid ((HBR.out.alloc _).grown hgrow (Ne.symm (own_blk_ne HIR.out HBR.out (by decide)))); have HV3 := Lib.hid (own_grown2 (HVR.out.alloc _) (HIR.out.alloc _) (by decide) hgrow); have hb0 := (HBC.out.alloc HBC.out.size (.cells #[.int .i64 x.1, .int .i64 x.2] 35)).grown hgrow (by have := HBC.out.size; simp; omega) (fun g hg => (HIR.out.lt g hg).1); clear HBC; have HBC := Lib.hid hb0; clear hb0; have HI3 := Lib.hid hown3; clear hown3 hgrow; have c93 := HX3.out.cell 9; have f93 := HX3.out.frozen 9; simp at c93)
          refine hK.out _ _ (by (try dsimp only) <;> (first | with_reducible exact HS3.out _ HBC.out | with_reducible exact HS3.out _ HBC.out.drew | with_reducible exact HS3.out _ (HBC.out.alloc HBC.out.size _) | with_reducible exact HS3.out _ (HBC.out.setCell hBg _) | exact HS3.out _ (HBC.out.setCell (p := ⟨B, 9, none⟩) hBg _))) (fun hHeld => ?_)
          clear hK K
          (try simp only [Act.put, List.setIfInBounds_toArray, List.set_cons_zero, List.set_cons_succ])
          (refine wpAnyH_take (i := 10) (oi := ?ox111) (v := ?vx111) ?hix111 ?k1x111 ?k2x111 ?k3x111 ?hQx111 ?hYx111 ?hSx111 ?restx111; (case hix111 => (simp only [List.getElem?_toArray, List.getElem?_cons_succ, List.getElem?_cons_zero]; exact rfl)); (case k1x111 => kernel_rfl); (case k2x111 => kernel_rfl); (case k3x111 => kernel_rfl); (case hSx111 => assumption); (case hYx111 => (refine Or.inl ⟨rfl, ?hyx111⟩; intro w hSw; (try dsimp only at hSw); go_simp; (try with_reducible rfl))); (case hQx111 => exact (fun _ _ _ h => h)); (try simp only [Act.put, List.setIfInBounds_toArray, List.set_cons_zero, List.set_cons_succ]))
          refine wpAnyH_ready (rs := [11]) (by kernel_rfl) (by simp) ?_
          refine AllReadyH.cons (o := ?o0x112) ?hi0x112 (fun K hK => ?_) AllReadyH.nil
          (case hi0x112 => (simp only [List.getElem?_toArray, List.getElem?_cons_succ, List.getElem?_cons_zero]; exact rfl))
          go_simp
          refine hK.out _ _ (by (try dsimp only) <;> (first | with_reducible exact HS3.out _ HBC.out | with_reducible exact HS3.out _ HBC.out.drew | with_reducible exact HS3.out _ (HBC.out.alloc HBC.out.size _) | with_reducible exact HS3.out _ (HBC.out.setCell hBg _) | exact HS3.out _ (HBC.out.setCell (p := ⟨B, 9, none⟩) hBg _))) (fun hHeld => ?_)
          clear hK K
          (try simp only [Act.put, List.setIfInBounds_toArray, List.set_cons_zero, List.set_cons_succ])
          (try refine wpAnyH_done (by kernel_rfl) ?_ _)
          have hX4 := HX3.out.set_ 9 (.slice (some ⟨gg, 0, none⟩) (k + 1) cap)
          have hI4 := HI3.out.kept (only_setCell (World.grownBy.refl w3 (some B)) (p := ⟨B, 9, none⟩) (.inl rfl) (.slice (some ⟨gg, 0, none⟩) (k + 1) cap)) (.inr (own_blk_ne HI3.out HX3.out (by decide)))
          have hV4 := HV3.out.kept (only_setCell (World.grownBy.refl w3 (some B)) (p := ⟨B, 9, none⟩) (.inl rfl) (.slice (some ⟨gg, 0, none⟩) (k + 1) cap)) (.inr (own_blk_ne HV3.out HX3.out (by decide)))
          have hb4 := HBC.out.setCell (p := ⟨B, 9, none⟩) hBg (.slice (some ⟨gg, 0, none⟩) (k + 1) cap)
          have hI5 : (w3.setCell ⟨B, 9, none⟩ (.slice (some ⟨gg, 0, none⟩) (k + 1) cap)).ownsRow W.heap.size 35 2 (.slice (some ⟨gg, 0, none⟩) (k + 1) cap) (k + 1) ((l.inflow.take (k + 1)).flatMap enc2) := by
            rw [List.take_add_one, HX2.out]
            simpa [enc2] using hI4
          have HE := Lib.hid (⟨hX4, hV4, hI5, hb4⟩ : _ ∧ _ ∧ _ ∧ _)
          clear hX4 hI4 hV4 hb4 hI5
          go_wp2
          go_roundw
          case rel => exact ⟨k + 1, _, cap, by omega, by go_num, HE.out.1, HE.out.2.1, HE.out.2.2.1, HE.out.2.2.2⟩
          case measure => simp [intOf] <;> omega
        · skip
          go_simp
          (go_at_call 61; refine (to_d _ _ _).mono ?_; rintro e wn ⟨rfl, hbn⟩; have hb0 := below_tr (a := W) (by first | with_reducible exact HBC.out | with_reducible exact HBC.out.drew | with_reducible exact HBC.out.alloc HBC.out.size _ | with_reducible exact HBC.out.drew.alloc HBC.out.size _ | with_reducible exact (HBC.out.alloc HBC.out.size _).drew) hbn; clear HBC; have HBC := Lib.hid hb0; clear hb0; have hx0 := own_mono HIR.out hbn; clear HIR; have HIR := Lib.hid hx0; clear hx0; have hx0 := own_mono HVR.out hbn; clear HVR; have HVR := Lib.hid hx0; clear hx0; have hx0 := HBR.out.below hbn HBR.out.lt; clear HBR; have HBR := Lib.hid hx0; clear hx0; have c9n := HBR.out.cell 9; simp at c9n; have hltn := HBR.out.lt; have hnen : ¬ (B = wn.heap.size) := Nat.ne_of_lt hltn; clear hbn)
          (try go_wp2_with fail)
          refine hK.out _ _ (by (try dsimp only) <;> (first | with_reducible exact HS3.out _ HBC.out | with_reducible exact HS3.out _ HBC.out.drew | with_reducible exact HS3.out _ (HBC.out.alloc HBC.out.size _) | with_reducible exact HS3.out _ (HBC.out.setCell hBg _) | exact HS3.out _ (HBC.out.setCell (p := ⟨B, 9, none⟩) hBg _))) (fun hHeld => ?_)
          clear hK K
          (try simp only [Act.put, List.setIfInBounds_toArray, List.set_cons_zero, List.set_cons_succ])
          refine wpAnyH_ready (rs := [1, 8]) (by kernel_rfl) (by simp) ?_
          refine AllReadyH.cons (o := ?o0x113) ?hi0x113 (fun K hK => ?_) (AllReadyH.cons (o := ?o1x113) ?hi1x113 (fun K hK => ?_) AllReadyH.nil)
          (case hi0x113 => (simp only [List.getElem?_toArray, List.getElem?_cons_succ, List.getElem?_cons_zero]; exact rfl))
          (case hi1x113 => (simp only [List.getElem?_toArray, List.getElem?_cons_succ, List.getElem?_cons_zero]; exact rfl))
          · skip
            go_simp
            refine hK.out _ _ (by (try dsimp only) <;> (first | with_reducible exact HS3.out _ HBC.out | with_reducible exact HS3.out _ HBC.out.drew | with_reducible exact HS3.out _ (HBC.out.alloc HBC.out.size _) | with_reducible exact HS3.out _ (HBC.out.setCell hBg _) | exact HS3.out _ (HBC.out.setCell (p := ⟨B, 9, none⟩) hBg _))) (fun hHeld => ?_)
            clear hK K
            (try simp only [Act.put, List.setIfInBounds_toArray, List.set_cons_zero, List.set_cons_succ])
            refine wpAnyH_ready (rs := [8]) (by kernel_rfl) (by simp) ?_
            refine AllReadyH.cons (o := ?o0x114) ?hi0x114 (fun K hK => ?_) AllReadyH.nil
            (case hi0x114 => (simp only [List.getElem?_toArray, List.getElem?_cons_succ, List.getElem?_cons_zero]; exact rfl))
            go_simp
            refine hK.out _ _ (by (try dsimp only) <;> (first | with_reducible exact HS3.out _ HBC.out | with_reducible exact HS3.out _ HBC.out.drew | with_reducible exact HS3.out _ (HBC.out.alloc HBC.out.size _) | with_reducible exact HS3.out _ (HBC.out.setCell hBg _) | exact HS3.out _ (HBC.out.setCell (p := ⟨B, 9, none⟩) hBg _))) (fun hHeld => ?_)
            clear hK K
            (try simp only [Act.put, List.setIfInBounds_toArray, List.set_cons_zero, List.set_cons_succ])
            refine wpAnyH_ready (rs := [9]) (by kernel_rfl) (by simp) ?_
            refine AllReadyH.cons (o := ?o0x115) ?hi0x115 (fun K hK => ?_) AllReadyH.nil
            (case hi0x115 => (simp only [List.getElem?_toArray, List.getElem?_cons_succ, List.getElem?_cons_zero]; exact rfl))
            (refine step_append_lies _ (by rfl) _ _ _ (by rfl) W.heap.size 35 i0 _ 2 16 Try.underlying36 HI.out HZ0.out HZ1.out HZ2.out rfl (by omega) _ k ((l.inflow.take k).flatMap enc2) (by rfl) (HIR.out.alloc _) ⟨wn.heap.size, 0, none⟩ 1 1 [.int .i64 x.1, .int .i64 x.2] (by rfl) (by rfl) (World.news_of_block (cs := #[.int .i64 x.1, .int .i64 x.2]) (t := 35) (fr := (0, 0)) (heap_alloc_new wn _)) (by simp [Value.oneCell']) (by omega) (by unfold maxLen; omega) (by omega) (by have := HBC.out.size; simp; omega) (wn.heap.size + 1) (by simp) ?_; intro gg cap w3 hown3 hgrow hat hlt3; have HX3 := Lib.hid ((HBR.out.alloc _).grown hgrow (Ne.symm (own_blk_ne HIR.out HBR.out (by decide)))); have HV3 := Lib.hid (own_grown2 (HVR.out.alloc _) (HIR.out.alloc _) (by decide) hgrow); have hb0 := (HBC.out.alloc HBC.out.size (.cells #[.int .i64 x.1, .int .i64 x.2] 35)).grown hgrow (by have := HBC.out.size; simp; omega) (fun g hg => (HIR.out.lt g hg).1); clear HBC; have HBC := Lib.hid hb0; clear hb0; have HI3 := Lib.hid hown3; clear hown3 hgrow; have c93 := HX3.out.cell 9; have f93 := HX3.out.frozen 9; simp at c93)
            refine hK.out _ _ (by (try dsimp only) <;> (first | with_reducible exact HS3.out _ HBC.out | with_reducible exact HS3.out _ HBC.out.drew | with_reducible exact HS3.out _ (HBC.out.alloc HBC.out.size _) | with_reducible exact HS3.out _ (HBC.out.setCell hBg _) | exact HS3.out _ (HBC.out.setCell (p := ⟨B, 9, none⟩) hBg _))) (fun hHeld => ?_)
            clear hK K
            (try simp only [Act.put, List.setIfInBounds_toArray, List.set_cons_zero, List.set_cons_succ])
            (refine wpAnyH_take (i := 10) (oi := ?ox116) (v := ?vx116) ?hix116 ?k1x116 ?k2x116 ?k3x116 ?hQx116 ?hYx116 ?hSx116 ?restx116; (case hix116 => (simp only [List.getElem?_toArray, List.getElem?_cons_succ, List.getElem?_cons_zero]; exact rfl)); (case k1x116 => kernel_rfl); (case k2x116 => kernel_rfl); (case k3x116 => kernel_rfl); (case hSx116 => assumption); (case hYx116 => (refine Or.inl ⟨rfl, ?hyx116⟩; intro w hSw; (try dsimp only at hSw); go_simp; (try with_reducible rfl))); (case hQx116 => exact (fun _ _ _ h => h)); (try simp only [Act.put, List.setIfInBounds_toArray, List.set_cons_zero, List.set_cons_succ]))
            refine wpAnyH_ready (rs := [11]) (by kernel_rfl) (by simp) ?_
            refine AllReadyH.cons (o := ?o0x117) ?hi0x117 (fun K hK => ?_) AllReadyH.nil
            (case hi0x117 => (simp only [List.getElem?_toArray, List.getElem?_cons_succ, List.getElem?_cons_zero]; exact rfl))
            go_simp
            refine hK.out _ _ (by (try dsimp only) <;> (first | with_reducible exact HS3.out _ HBC.out | with_reducible exact HS3.out _ HBC.out.drew | with_reducible exact HS3.out _ (HBC.out.alloc HBC.out.size _) | with_reducible exact HS3.out _ (HBC.out.setCell hBg _) | exact HS3.out _ (HBC.out.setCell (p := ⟨B, 9, none⟩) hBg _))) (fun hHeld => ?_)
            clear hK K
            (try simp only [Act.put, List.setIfInBounds_toArray, List.set_cons_zero, List.set_cons_succ])
            (try refine wpAnyH_done (by kernel_rfl) ?_ _)
            have hX4 := HX3.out.set_ 9 (.slice (some ⟨gg, 0, none⟩) (k + 1) cap)
            have hI4 := HI3.out.kept (only_setCell (World.grownBy.refl w3 (some B)) (p := ⟨B, 9, none⟩) (.inl rfl) (.slice (some ⟨gg, 0, none⟩) (k + 1) cap)) (.inr (own_blk_ne HI3.out HX3.out (by decide)))
            have hV4 := HV3.out.kept (only_setCell (World.grownBy.refl w3 (some B)) (p := ⟨B, 9, none⟩) (.inl rfl) (.slice (some ⟨gg, 0, none⟩) (k + 1) cap)) (.inr (own_blk_ne HV3.out HX3.out (by decide)))
            have hb4 := HBC.out.setCell (p := ⟨B, 9, none⟩) hBg (.slice (some ⟨gg, 0, none⟩) (k + 1) cap)
            have hI5 : (w3.setCell ⟨B, 9, none⟩ (.slice (some ⟨gg, 0, none⟩) (k + 1) cap)).ownsRow W.heap.size 35 2 (.slice (some ⟨gg, 0, none⟩) (k + 1) cap) (k + 1) ((l.inflow.take (k + 1)).flatMap enc2) := by
              rw [List.take_add_one, HX2.out]
              simpa [enc2] using hI4
            have HE := Lib.hid (⟨hX4, hV4, hI5, hb4⟩ : _ ∧ _ ∧ _ ∧ _)
            clear hX4 hI4 hV4 hb4 hI5
            go_wp2
            go_roundw
            case rel => exact ⟨k + 1, _, cap, by omega, by go_num, HE.out.1, HE.out.2.1, HE.out.2.2.1, HE.out.2.2.2⟩
            case measure => simp [intOf] <;> omega
          · skip
            go_simp
            refine hK.out _ _ (by (try dsimp only) <;> (first | with_reducible exact HS3.out _ HBC.out | with_reducible exact HS3.out _ HBC.out.drew | with_reducible exact HS3.out _ (HBC.out.alloc HBC.out.size _) | with_reducible exact HS3.out _ (HBC.out.setCell hBg _) | exact HS3.out _ (HBC.out.setCell (p := ⟨B, 9, none⟩) hBg _))) (fun hHeld => ?_)
            clear hK K
            (try simp only [Act.put, List.setIfInBounds_toArray, List.set_cons_zero, List.set_cons_succ])
            refine wpAnyH_ready (rs := [1]) (by kernel_rfl) (by simp) ?_
            refine AllReadyH.cons (o := ?o0x118) ?hi0x118 (fun K hK => ?_) AllReadyH.nil
            (case hi0x118 => (simp only [List.getElem?_toArray, List.getElem?_cons_succ, List.getElem?_cons_zero]; exact rfl))
            go_simp
            refine hK.out _ _ (by (try dsimp only) <;> (first | with_reducible exact HS3.out _ HBC.out | with_reducible exact HS3.out _ HBC.out.drew | with_reducible exact HS3.out _ (HBC.out.alloc HBC.out.size _) | with_reducible exact HS3.out _ (HBC.out.setCell hBg _) | exact HS3.out _ (HBC.out.setCell (p := ⟨B, 9, none⟩) hBg _))) (fun hHeld => ?_)
            clear hK K
            (try simp only [Act.put, List.setIfInBounds_toArray, List.set_cons_zero, List.set_cons_succ])
            refine wpAnyH_ready (rs := [9]) (by kernel_rfl) (by simp) ?_
            refine AllReadyH.cons (o := ?o0x119) ?hi0x119 (fun K hK => ?_) AllReadyH.nil
            (case hi0x119 => (simp only [List.getElem?_toArray, List.getElem?_cons_succ, List.getElem?_cons_zero]; exact rfl))
            (refine step_append_lies _ (by rfl) _ _ _ (by rfl) W.heap.size 35 i0 _ 2 16 Try.underlying36 HI.out HZ0.out HZ1.out HZ2.out rfl (by omega) _ k ((l.inflow.take k).flatMap enc2) (by rfl) (HIR.out.alloc _) ⟨wn.heap.size, 0, none⟩ 1 1 [.int .i64 x.1, .int .i64 x.2] (by rfl) (by rfl) (World.news_of_block (cs := #[.int .i64 x.1, .int .i64 x.2]) (t := 35) (fr := (0, 0)) (heap_alloc_new wn _)) (by simp [Value.oneCell']) (by omega) (by unfold maxLen; omega) (by omega) (by have := HBC.out.size; simp; omega) (wn.heap.size + 1) (by simp) ?_; intro gg cap w3 hown3 hgrow hat hlt3; have HX3 := Lib.hid ((HBR.out.alloc _).grown hgrow (Ne.symm (own_blk_ne HIR.out HBR.out (by decide)))); have HV3 := Lib.hid (own_grown2 (HVR.out.alloc _) (HIR.out.alloc _) (by decide) hgrow); have hb0 := (HBC.out.alloc HBC.out.size (.cells #[.int .i64 x.1, .int .i64 x.2] 35)).grown hgrow (by have := HBC.out.size; simp; omega) (fun g hg => (HIR.out.lt g hg).1); clear HBC; have HBC := Lib.hid hb0; clear hb0; have HI3 := Lib.hid hown3; clear hown3 hgrow; have c93 := HX3.out.cell 9; have f93 := HX3.out.frozen 9; simp at c93)
            refine hK.out _ _ (by (try dsimp only) <;> (first | with_reducible exact HS3.out _ HBC.out | with_reducible exact HS3.out _ HBC.out.drew | with_reducible exact HS3.out _ (HBC.out.alloc HBC.out.size _) | with_reducible exact HS3.out _ (HBC.out.setCell hBg _) | exact HS3.out _ (HBC.out.setCell (p := ⟨B, 9, none⟩) hBg _))) (fun hHeld => ?_)
            clear hK K
            (try simp only [Act.put, List.setIfInBounds_toArray, List.set_cons_zero, List.set_cons_succ])
            (refine wpAnyH_take (i := 10) (oi := ?ox120) (v := ?vx120) ?hix120 ?k1x120 ?k2x120 ?k3x120 ?hQx120 ?hYx120 ?hSx120 ?restx120; (case hix120 => (simp only [List.getElem?_toArray, List.getElem?_cons_succ, List.getElem?_cons_zero]; exact rfl)); (case k1x120 => kernel_rfl); (case k2x120 => kernel_rfl); (case k3x120 => kernel_rfl); (case hSx120 => assumption); (case hYx120 => (refine Or.inl ⟨rfl, ?hyx120⟩; intro w hSw; (try dsimp only at hSw); go_simp; (try with_reducible rfl))); (case hQx120 => exact (fun _ _ _ h => h)); (try simp only [Act.put, List.setIfInBounds_toArray, List.set_cons_zero, List.set_cons_succ]))
            refine wpAnyH_ready (rs := [11]) (by kernel_rfl) (by simp) ?_
            refine AllReadyH.cons (o := ?o0x121) ?hi0x121 (fun K hK => ?_) AllReadyH.nil
            (case hi0x121 => (simp only [List.getElem?_toArray, List.getElem?_cons_succ, List.getElem?_cons_zero]; exact rfl))
            go_simp
            refine hK.out _ _ (by (try dsimp only) <;> (first | with_reducible exact HS3.out _ HBC.out | with_reducible exact HS3.out _ HBC.out.drew | with_reducible exact HS3.out _ (HBC.out.alloc HBC.out.size _) | with_reducible exact HS3.out _ (HBC.out.setCell hBg _) | exact HS3.out _ (HBC.out.setCell (p := ⟨B, 9, none⟩) hBg _))) (fun hHeld => ?_)
            clear hK K
            (try simp only [Act.put, List.setIfInBounds_toArray, List.set_cons_zero, List.set_cons_succ])
            (try refine wpAnyH_done (by kernel_rfl) ?_ _)
            have hX4 := HX3.out.set_ 9 (.slice (some ⟨gg, 0, none⟩) (k + 1) cap)
            have hI4 := HI3.out.kept (only_setCell (World.grownBy.refl w3 (some B)) (p := ⟨B, 9, none⟩) (.inl rfl) (.slice (some ⟨gg, 0, none⟩) (k + 1) cap)) (.inr (own_blk_ne HI3.out HX3.out (by decide)))
            have hV4 := HV3.out.kept (only_setCell (World.grownBy.refl w3 (some B)) (p := ⟨B, 9, none⟩) (.inl rfl) (.slice (some ⟨gg, 0, none⟩) (k + 1) cap)) (.inr (own_blk_ne HV3.out HX3.out (by decide)))
            have hb4 := HBC.out.setCell (p := ⟨B, 9, none⟩) hBg (.slice (some ⟨gg, 0, none⟩) (k + 1) cap)
            have hI5 : (w3.setCell ⟨B, 9, none⟩ (.slice (some ⟨gg, 0, none⟩) (k + 1) cap)).ownsRow W.heap.size 35 2 (.slice (some ⟨gg, 0, none⟩) (k + 1) cap) (k + 1) ((l.inflow.take (k + 1)).flatMap enc2) := by
              rw [List.take_add_one, HX2.out]
              simpa [enc2] using hI4
            have HE := Lib.hid (⟨hX4, hV4, hI5, hb4⟩ : _ ∧ _ ∧ _ ∧ _)
            clear hX4 hI4 hV4 hb4 hI5
            go_wp2
            go_roundw
            case rel => exact ⟨k + 1, _, cap, by omega, by go_num, HE.out.1, HE.out.2.1, HE.out.2.2.1, HE.out.2.2.2⟩
            case measure => simp [intOf] <;> omega
      · obtain rfl : k = nI := by omega
        have pc := HBR.out.cell
        have d0 := pc 0; have d1 := pc 1; have d2 := pc 2; have d3 := pc 3; have d4 := pc 4; have d5 := pc 5; have d6 := pc 6; have d7 := pc 7; have d8 := pc 8
        simp at d0 d1 d2 d3 d4 d5 d6 d7 d8
        clear pc
        have HZ := Lib.hid (HY.out.below HBC.out HY.out.lt)
        have rc := HZ.out.cell
        have rf := HZ.out.frozen
        have r0 := rc 0; have r1 := rc 1; have r2 := rc 2; have r3 := rc 3; have r4 := rc 4; have r5 := rc 5; have r6 := rc 6; have r7 := rc 7; have r8 := rc 8; have r9 := rc 9
        simp at r0 r1 r2 r3 r4 r5 r6 r7 r8 r9
        have q0 := rf 0; have q1 := rf 1; have q2 := rf 2; have q3 := rf 3; have q4 := rf 4; have q5 := rf 5; have q6 := rf 6; have q7 := rf 7; have q8 := rf 8; have q9 := rf 9
        clear rc rf
        go_wp2
        have hIR : wr.ownsRow W.heap.size 35 2 (.slice IA' k cI') k (l.inflow.flatMap enc2) := by
          have := HIR.out
          rwa [List.take_of_length_le (by rw [HN.out]; exact Nat.le_refl _)] at this
        have hcI : k ≤ cI' := by
          obtain ⟨A9, c9, e9, h9⟩ := own_form hIR
          injection e9 with e1 e2 e3
          omega
        have hWs : w.heap.size ≤ W.heap.size := HB.out.size
        have gI := own_weak ((hIR.kept (grown_setCells (g := w.heap.size + 1) (l0A VA' nV cV' (.slice IA' k cI') l).toList 0 wr) (.inr (own_blk_ne hIR HZ.out (by decide))))) hWs
        have gV := own_weak ((HVR.out.kept (grown_setCells (g := w.heap.size + 1) (l0A VA' nV cV' (.slice IA' k cI') l).toList 0 wr) (.inr (own_blk_ne HVR.out HZ.out (by decide))))) hWs
        have gB := below_setCells (B := w.heap.size) (g := w.heap.size + 1) (w0 := w) (by omega) (l0A VA' nV cV' (.slice IA' k cI') l).toList 0 wr (HB.out.trans (HBC.out.mono hWs))
        have hBF := blk_setCells (l0A VA' nV cV' (.slice IA' k cI') l).toList 0 wr [] _ (by simpa using HZ.out) rfl (by simp)
        simp only [l0A, World.setCells, List.nil_append, Nat.reduceAdd] at hBF gV gI gB
        revert hBF gV gI gB
        generalize (World.setCell _ ⟨w.heap.size + 1, 9, none⟩ (Value.slice IA' k cI')) = WF
        intro gI gV gB hBF
        have HG := Lib.hid (And.intro gV (And.intro gI gB))
        clear gV gI gB
        refine bodyPost_ret (v := .agg (l0A VA' nV cV' (.slice IA' k cI') l)) (results_cell_row (g := w.heap.size + 1) Try.results20 _ _ _ _ _ _ rfl hBF Try.underlying38 rfl (by kernel_rfl)) rfl ⟨VA', cV', IA', cI', rfl, HC'.out, hcI, HG.out.1, HG.out.2.1, HG.out.2.2⟩
end
end Go.Proofs.Ytpijmfbpdglchaa
