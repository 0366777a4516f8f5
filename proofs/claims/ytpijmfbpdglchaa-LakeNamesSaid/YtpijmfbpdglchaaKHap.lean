/- THE CONTRACT of the law's happens: some Real that fits a lake. -/
import Derived.Test.YtpijmfbpdglchaaKReal
import Derived.Test.YtpijmfbpdglchaaKBase
import Derived.Deep.AppendLies
set_option linter.unusedVariables false
set_option linter.unusedSimpArgs false
namespace Go.Proofs.Ytpijmfbpdglchaa
open Go.RowKit Go.Proofs
attribute [local go_sem ↓] Go.wp_at_zero Go.wp_at_succ
/-- two rows of ints lie in two blocks -/
def Apart (a b : Value) : Prop := ∀ g, a.ownBlock = some g → b.ownBlock ≠ some g
theorem Apart.symm {a b : Value} (h : Apart a b) : Apart b a := fun g h1 h2 => h g h2 h1
theorem Apart.none (c n : Nat) (b : Value) : Apart (.slice none n c) b := fun g h => by simp [Value.ownBlock] at h
theorem own_block_lt {w : World} {base : Nat} {e : TypeId} {size n : Nat} {v : Value} {xs : List Value} (h : w.ownsRow base e size v n xs) {g : Nat} (hg : v.ownBlock = some g) : g < w.heap.size := (h.lt g hg).2
theorem Apart.grow {W : World} {base : Nat} {e : TypeId} {size n n' c : Nat} {v u : Value} {xs : List Value} {gg : Nat} (h : Apart v u) (hu : W.ownsRow base e size u n xs) (hv : v.ownBlock = some gg ∨ W.heap.size ≤ gg) : Apart (.slice (some ⟨gg, 0, Option.none⟩) n' c) u := by
  intro g hg hug
  simp only [Value.ownBlock, Option.some.injEq] at hg
  subst hg
  rcases hv with e1 | e1
  · exact h _ e1 hug
  · have := own_block_lt hu hug; omega
theorem own_cap {w : World} {base : Nat} {e : TypeId} {size n c : Nat} {A : Option Addr} {xs : List Value} (h : w.ownsRow base e size (.slice A n c) n xs) : n ≤ c := by
  obtain ⟨_, _, e9, h9⟩ := own_form h
  injection e9 with e1 e2 e3; omega
/-- a Real that is being made, in a box, with its two lists -/
structure TwoR (B : Nat) (w : World) (g : Nat) (FA : Option Addr) (cF : Nat) (SA : Option Addr) (cS : Nat) (k : Nat) (x : Rel) : Prop where
  box : Blk w g 75 (xA FA k cF SA k cS x)
  oF : w.ownsRow B 3 1 (.slice FA k cF) k (x.inflow.flatMap enc1)
  oS : w.ownsRow B 3 1 (.slice SA k cS) k (x.seep.flatMap enc1)
  ap : Apart (.slice FA k cF) (.slice SA k cS)
theorem TwoR.below {B : Nat} {w w' : World} {g : Nat} {FA : Option Addr} {cF : Nat} {SA : Option Addr} {cS : Nat} {k : Nat} {x : Rel} (h : TwoR B w g FA cF SA cS k x) (hb : Below w.heap.size w w') : TwoR B w' g FA cF SA cS k x :=
  ⟨h.box.below hb h.box.lt, own_mono h.oF hb, own_mono h.oS hb, h.ap⟩
/-- the blocks that may turn while a Real is being made -/
def OwnB (FA : Option Addr) (cF : Nat) (SA : Option Addr) (cS k : Nat) (b : Nat) : Prop := (Value.slice FA k cF).ownBlock = some b ∨ (Value.slice SA k cS).ownBlock = some b
theorem TwoR.not_box {B : Nat} {w : World} {g : Nat} {FA : Option Addr} {cF : Nat} {SA : Option Addr} {cS : Nat} {k : Nat} {x : Rel} (h : TwoR B w g FA cF SA cS k x) : ¬ OwnB FA cF SA cS k g := fun ho => by
  rcases ho with ho | ho
  · exact own_blk_ne h.oF h.box (by decide) ho
  · exact own_blk_ne h.oS h.box (by decide) ho
theorem TwoR.not_low {B : Nat} {w : World} {g : Nat} {FA : Option Addr} {cF : Nat} {SA : Option Addr} {cS : Nat} {k : Nat} {x : Rel} (h : TwoR B w g FA cF SA cS k x) {b : Nat} (hb : b < B) : ¬ OwnB FA cF SA cS k b := fun ho => by
  rcases ho with ho | ho
  · exact own_ge h.oF hb ho.symm
  · exact own_ge h.oS hb ho.symm
theorem fr_cell {E : Nat → Prop} {a b : World} (h : Fr E a b) {g o : Nat} (hE : ¬ E g) {v : Value} (hc : a.cell? ⟨g, o, none⟩ = some v) : b.cell? ⟨g, o, none⟩ = some v := by
  rw [World.cell?_of_block (w := a) (a := ⟨g, o, none⟩) (h.block g (World.block_lt_of_cell? a _ hc) hE)]; exact hc
theorem blk_of_below {B : Nat} {a U : World} (_ : Below B a U) (t : TypeId) (cs : Array Value) : Blk (U.alloc (.cells cs t)) U.heap.size t cs := Blk.new U t cs
theorem Fr.more {E : Nat → Prop} {a b c : World} (h : Fr E a b) (k : Below b.heap.size b c) : Fr E a c := h.comp (Fr.of_below k fun _ => False) (fun _ hf => hf.elim)
/-- the first numbers of a Real -/
structure PreF (l : Lak) (k : Nat) (x : Rel) : Prop where
  n : x.inflow.length = k
  m : x.seep.length = k
  seep : ∀ (h : Nat) (s : Int), x.seep[h]? = some s → l.seep.1 ≤ s ∧ s ≤ l.seep.2
  inflow : ∀ (h : Nat) (r : Rng) (i : Int), l.inflow[h]? = some r → x.inflow[h]? = some i → r.1 ≤ i ∧ i ≤ r.2
  start : l.start.1 ≤ x.start ∧ x.start ≤ l.start.2
  soft : l.soft.1 ≤ x.soft ∧ x.soft ≤ l.soft.2
theorem PreF.step {l : Lak} {k : Nat} {x : Rel} (h : PreF l k x) {r : Rng} (hr : l.inflow[k]? = some r) {i s : Int} (hi : r.1 ≤ i ∧ i ≤ r.2) (hs : l.seep.1 ≤ s ∧ s ≤ l.seep.2) : PreF l (k + 1) ⟨x.inflow ++ [i], x.seep ++ [s], x.start, x.soft⟩ := by
  refine ⟨by simp [h.n], by simp [h.m], fun j u hu => ?_, fun j q u hq hu => ?_, h.start, h.soft⟩
  · simp only [List.getElem?_append, h.m] at hu
    split at hu
    · exact h.seep j u hu
    · have := List.mem_of_getElem? hu
      simp at this; subst this; exact hs
  · simp only [List.getElem?_append, h.n] at hu
    split at hu
    · exact h.inflow j q u hq hu
    · rename_i h1
      have h2 := lt_of_get hu
      simp at h2
      obtain rfl : j = k := by omega
      rw [hr] at hq; cases hq
      simp at hu; subst hu; exact hi
theorem PreF.all {l : Lak} {x : Rel} (h : PreF l l.inflow.length x) : Fits l x := ⟨h.n, h.m, h.seep, h.inflow, h.start, h.soft⟩
theorem infoInt : (Try.prog.info? 3).map (fun i => (i.zero, i.size, i.bytes)) = some (some (.int .i64 0), 1, 8) := by kernel_rfl
def HapP (w : World) (n : Nat) (l : Lak) (e : Ending) (w' : World) : Prop := ∃ FA cF SA cS x, e = .returned (.agg (xA FA n cF SA n cS x)) ∧ RdX w' FA n SA n x ∧ n ≤ cF ∧ n ≤ cS ∧ Fits l x ∧ Below w.heap.size w w'
section
variable {VA IA DA : Option Addr} {nV cV nI cI nD cD : Nat} {l : Lak} {ds : List Int} {w : World}
set_option maxRecDepth 100000 in
set_option maxHeartbeats 8000000 in
theorem happens_c (h : RdL w VA nV IA nI l) (hok : LOk l) (hd : Rd encU 1 w DA nD ds) (hds : ∀ z ∈ ds, 0 ≤ z ∧ z ≤ 65535) (hnD : nD ≤ maxLen) :
    Calls Try.prog 49 #[.agg (lA VA nV cV IA nI cI l), .slice DA nD cD] w (HapP w nI l) := by
  obtain ⟨W, hW⟩ : ∃ W, W = ((w.alloc (.cells (lA VA nV cV IA nI cI l) 27)).alloc (.cells (xA none 0 0 none 0 0 ⟨[], [], 0, 0⟩) 75)) := ⟨_, rfl⟩
  have hb : Below w.heap.size w W := by rw [hW]; exact ((Below.refl _ _).alloc (Nat.le_refl _) _).alloc (by simp) _
  have hX := (Blk.new w 27 (lA VA nV cV IA nI cI l)).alloc (.cells (xA none 0 0 none 0 0 ⟨[], [], 0, 0⟩) 75)
  have hY := Blk.new (w.alloc (.cells (lA VA nV cV IA nI cI l) 27)) 75 (xA none 0 0 none 0 0 ⟨[], [], 0, 0⟩)
  simp only [World.size_alloc] at hY
  rw [← hW] at hX hY
  have hst := hok.start; have hso := hok.soft; have hse := hok.seep; have hwv := hok.weakV; have h60 := hok.h; have hil := h.infl.len
  have hnI : nI ≤ 60 := by omega
  have HB := Lib.hid hb; have HW := Lib.hid hW; have HY := Lib.hid hY; have HIL := Lib.hid hil
  have HPK := Lib.hid (fun (U : World) (hU : Below W.heap.size W U) (r : Rng) (hr : 0 ≤ r.1 ∧ r.1 ≤ r.2 ∧ r.2 ≤ 1000000000) (a : Int) (ha : 0 ≤ a ∧ a ≤ 1000000000) => pick_c (c := cD) (hd.below (HB.out.trans (hU.mono hb.size))) hds hnD hr ha)
  have pc : ∀ i, W.cell? ⟨w.heap.size, i, none⟩ = (lA VA nV cV IA nI cI l)[i]? := fun i => hX.cell i
  have p3 := pc 3; have p4 := pc 4; have p5 := pc 5; have p6 := pc 6; have p7 := pc 7; have p8 := pc 8; have p9 := pc 9
  simp at p3 p4 p5 p6 p7 p8 p9
  have HS := Lib.hid (fun (U : World) (hU : Below W.heap.size W U) => show U.cell? ⟨w.heap.size, 3, none⟩ = some (.int .i64 l.soft.1) ∧ U.cell? ⟨w.heap.size, 4, none⟩ = some (.int .i64 l.soft.2) ∧ U.cell? ⟨w.heap.size, 5, none⟩ = some (.int .i64 l.start.1) ∧ U.cell? ⟨w.heap.size, 6, none⟩ = some (.int .i64 l.start.2) from
    ⟨bel_keep hU p3, bel_keep hU p4, bel_keep hU p5, bel_keep hU p6⟩)
  have HS9 := Lib.hid (fun (U : World) (hU : Below W.heap.size W U) => show U.cell? ⟨w.heap.size, 7, none⟩ = some (.int .i64 l.seep.1) ∧ U.cell? ⟨w.heap.size, 8, none⟩ = some (.int .i64 l.seep.2) ∧ U.cell? ⟨w.heap.size, 9, none⟩ = some (.slice IA nI cI) from
    ⟨bel_keep hU p7, bel_keep hU p8, bel_keep hU p9⟩)
  have hWw : w.heap.size < W.heap.size := hX.lt
  have HH := Lib.hid h; have HOK := Lib.hid hok
  clear hb hW hX hY pc h p3 p4 p5 p6 p7 p8 p9 hok hd hds hnD hil
  have HBC := Lib.hid (Below.refl W.heap.size W)
  go_enter Try.func49, Try.ntmps49
  go_upto_region 1 with fail
  rw [← HW.out]
  go_cut [5] (fun pv wx => ∃ g v1 v2, pv = .pointer (some ⟨g, 0, none⟩) ∧ W.heap.size ≤ g ∧ Blk wx g 75 (xA none 0 0 none 0 0 ⟨[], [], v1, v2⟩) ∧ PreF l 0 ⟨[], [], v1, v2⟩ ∧ Below W.heap.size W wx)
  case first =>
    refine wp_region_till [10] (fun U => U.cell? ⟨w.heap.size, 3, none⟩ = some (.int .i64 l.soft.1) ∧ U.cell? ⟨w.heap.size, 4, none⟩ = some (.int .i64 l.soft.2) ∧ U.cell? ⟨w.heap.size, 5, none⟩ = some (.int .i64 l.start.1) ∧ U.cell? ⟨w.heap.size, 6, none⟩ = some (.int .i64 l.start.2)) (by kernel_rfl) (by exact HS.out _ HBC.out.drew) (fun hHeld => ?_)
    have hb0 := HBC.out.drew
    clear HBC
    have HBC := Lib.hid hb0
    clear hb0
    revert hHeld HBC
    generalize W.drew = W0
    intro hHeld HBC
    (refine wpAnyL_take (n := 0) (i := 0) (oi := ?ox1) (v := ?vx1) ?hix1 ?k1x1 ?k2x1 ?k3x1 ?k4x1 ?k5x1 ?k6x1 ?hQx1 ?hYx1 ?hSx1 ?restx1; (case hix1 => (simp only [List.getElem?_toArray, List.getElem?_cons_succ, List.getElem?_cons_zero]; exact rfl)); (case k1x1 => kernel_rfl); (case k2x1 => kernel_rfl); (case k3x1 => kernel_rfl); (case k4x1 => kernel_rfl); (case k5x1 => kernel_rfl); (case k6x1 => kernel_rfl); (case hSx1 => assumption); (case hYx1 => (refine Or.inl ⟨rfl, ?hyx1⟩; intro w hSw; (try dsimp only at hSw); go_simp; (try with_reducible rfl))); (case hQx1 => exact (fun _ _ _ h => h)); (try simp only [Act.put, List.setIfInBounds_toArray, List.set_cons_zero, List.set_cons_succ]))
    (refine wpAnyL_take (n := 0) (i := 1) (oi := ?ox2) (v := ?vx2) ?hix2 ?k1x2 ?k2x2 ?k3x2 ?k4x2 ?k5x2 ?k6x2 ?hQx2 ?hYx2 ?hSx2 ?restx2; (case hix2 => (simp only [List.getElem?_toArray, List.getElem?_cons_succ, List.getElem?_cons_zero]; exact rfl)); (case k1x2 => kernel_rfl); (case k2x2 => kernel_rfl); (case k3x2 => kernel_rfl); (case k4x2 => kernel_rfl); (case k5x2 => kernel_rfl); (case k6x2 => kernel_rfl); (case hSx2 => assumption); (case hYx2 => (refine Or.inl ⟨rfl, ?hyx2⟩; intro w hSw; (try dsimp only at hSw); go_simp; (try with_reducible rfl))); (case hQx2 => exact (fun _ _ _ h => h)); (try simp only [Act.put, List.setIfInBounds_toArray, List.set_cons_zero, List.set_cons_succ]))
    (refine wpAnyL_take (n := 0) (i := 2) (oi := ?ox3) (v := ?vx3) ?hix3 ?k1x3 ?k2x3 ?k3x3 ?k4x3 ?k5x3 ?k6x3 ?hQx3 ?hYx3 ?hSx3 ?restx3; (case hix3 => (simp only [List.getElem?_toArray, List.getElem?_cons_succ, List.getElem?_cons_zero]; exact rfl)); (case k1x3 => kernel_rfl); (case k2x3 => kernel_rfl); (case k3x3 => kernel_rfl); (case k4x3 => kernel_rfl); (case k5x3 => kernel_rfl); (case k6x3 => kernel_rfl); (case hSx3 => assumption); (case hYx3 => (refine Or.inl ⟨rfl, ?hyx3⟩; intro w hSw; (try dsimp only at hSw); go_simp; (try with_reducible rfl))); (case hQx3 => exact (fun _ _ _ h => h)); (try simp only [Act.put, List.setIfInBounds_toArray, List.set_cons_zero, List.set_cons_succ]))
    (refine wpAnyL_take (n := 0) (i := 4) (oi := ?ox4) (v := ?vx4) ?hix4 ?k1x4 ?k2x4 ?k3x4 ?k4x4 ?k5x4 ?k6x4 ?hQx4 ?hYx4 ?hSx4 ?restx4; (case hix4 => (simp only [List.getElem?_toArray, List.getElem?_cons_succ, List.getElem?_cons_zero]; exact rfl)); (case k1x4 => kernel_rfl); (case k2x4 => kernel_rfl); (case k3x4 => kernel_rfl); (case k4x4 => kernel_rfl); (case k5x4 => kernel_rfl); (case k6x4 => kernel_rfl); (case hSx4 => assumption); (case hYx4 => (refine Or.inl ⟨rfl, ?hyx4⟩; intro w hSw; (try dsimp only at hSw); go_simp; (try with_reducible rfl))); (case hQx4 => exact (fun _ _ _ h => h)); (try simp only [Act.put, List.setIfInBounds_toArray, List.set_cons_zero, List.set_cons_succ]))
    (refine wpAnyL_take (n := 0) (i := 5) (oi := ?ox5) (v := ?vx5) ?hix5 ?k1x5 ?k2x5 ?k3x5 ?k4x5 ?k5x5 ?k6x5 ?hQx5 ?hYx5 ?hSx5 ?restx5; (case hix5 => (simp only [List.getElem?_toArray, List.getElem?_cons_succ, List.getElem?_cons_zero]; exact rfl)); (case k1x5 => kernel_rfl); (case k2x5 => kernel_rfl); (case k3x5 => kernel_rfl); (case k4x5 => kernel_rfl); (case k5x5 => kernel_rfl); (case k6x5 => kernel_rfl); (case hSx5 => assumption); (case hYx5 => (refine Or.inl ⟨rfl, ?hyx5⟩; intro w hSw; (try dsimp only at hSw); go_simp; (try with_reducible rfl))); (case hQx5 => exact (fun _ _ _ h => h)); (try simp only [Act.put, List.setIfInBounds_toArray, List.set_cons_zero, List.set_cons_succ]))
    (refine wpAnyL_take (n := 0) (i := 6) (oi := ?ox6) (v := ?vx6) ?hix6 ?k1x6 ?k2x6 ?k3x6 ?k4x6 ?k5x6 ?k6x6 ?hQx6 ?hYx6 ?hSx6 ?restx6; (case hix6 => (simp only [List.getElem?_toArray, List.getElem?_cons_succ, List.getElem?_cons_zero]; exact rfl)); (case k1x6 => kernel_rfl); (case k2x6 => kernel_rfl); (case k3x6 => kernel_rfl); (case k4x6 => kernel_rfl); (case k5x6 => kernel_rfl); (case k6x6 => kernel_rfl); (case hSx6 => assumption); (case hYx6 => (refine Or.inl ⟨rfl, ?hyx6⟩; intro w hSw; (try dsimp only at hSw); go_simp; (try with_reducible rfl))); (case hQx6 => exact (fun _ _ _ h => h)); (try simp only [Act.put, List.setIfInBounds_toArray, List.set_cons_zero, List.set_cons_succ]))
    refine wpAnyL_ready (rs := [3, 9]) (by kernel_rfl) (by simp) ?_
    refine AllReadyL.cons (o := ?o3x7) ?hi3x7 (fun K hK => ?_) (AllReadyL.cons (o := ?o9x7) ?hi9x7 (fun K hK => ?_) AllReadyL.nil)
    (case hi3x7 => (simp only [List.getElem?_toArray, List.getElem?_cons_succ, List.getElem?_cons_zero]; exact rfl))
    (case hi9x7 => (simp only [List.getElem?_toArray, List.getElem?_cons_succ, List.getElem?_cons_zero]; exact rfl))
    · skip
      go_simp
      go_at_call 52
      refine (HPK.out _ HBC.out l.start (by omega) 0 (by omega)).mono ?_
      rintro e w1 ⟨v1, rfl, hv1, hv1', hbn⟩
      have hb0 := HBC.out.trans (hbn.mono HBC.out.size)
      (first | (have hg0 := HGX.out.below hbn HGX.out.lt; clear HGX; have HGX := Lib.hid hg0; clear hg0) | skip)
      clear HBC
      have HBC := Lib.hid hb0; have HV1 := Lib.hid hv1; have HV1' := Lib.hid hv1'
      clear hb0 hbn hv1 hv1'
      (try go_wp2_with fail)
      (try clear hHeld)
      refine hK.out _ _ (by (try dsimp only); exact HS.out _ HBC.out) (fun hHeld => ?_)
      clear hK K
      (try simp only [Act.put, List.setIfInBounds_toArray, List.set_cons_zero, List.set_cons_succ])
      refine wpAnyL_ready (rs := [7, 9]) (by kernel_rfl) (by simp) ?_
      refine AllReadyL.cons (o := ?o7x8) ?hi7x8 (fun K hK => ?_) (AllReadyL.cons (o := ?o9x8) ?hi9x8 (fun K hK => ?_) AllReadyL.nil)
      (case hi7x8 => (simp only [List.getElem?_toArray, List.getElem?_cons_succ, List.getElem?_cons_zero]; exact rfl))
      (case hi9x8 => (simp only [List.getElem?_toArray, List.getElem?_cons_succ, List.getElem?_cons_zero]; exact rfl))
      · skip
        go_simp
        go_at_call 52
        refine (HPK.out _ HBC.out l.soft (by omega) 1 (by omega)).mono ?_
        rintro e w2 ⟨v2, rfl, hv2, hv2', hbn⟩
        have hb0 := HBC.out.trans (hbn.mono HBC.out.size)
        (first | (have hg0 := HGX.out.below hbn HGX.out.lt; clear HGX; have HGX := Lib.hid hg0; clear hg0) | skip)
        clear HBC
        have HBC := Lib.hid hb0; have HV2 := Lib.hid hv2; have HV2' := Lib.hid hv2'
        clear hb0 hbn hv2 hv2'
        (try go_wp2_with fail)
        (try clear hHeld)
        refine hK.out _ _ (by (try dsimp only); exact HS.out _ HBC.out) (fun hHeld => ?_)
        clear hK K
        (try simp only [Act.put, List.setIfInBounds_toArray, List.set_cons_zero, List.set_cons_succ])
        (refine wpAnyL_take (n := 0) (i := 8) (oi := ?ox9) (v := ?vx9) ?hix9 ?k1x9 ?k2x9 ?k3x9 ?k4x9 ?k5x9 ?k6x9 ?hQx9 ?hYx9 ?hSx9 ?restx9; (case hix9 => (simp only [List.getElem?_toArray, List.getElem?_cons_succ, List.getElem?_cons_zero]; exact rfl)); (case k1x9 => kernel_rfl); (case k2x9 => kernel_rfl); (case k3x9 => kernel_rfl); (case k4x9 => kernel_rfl); (case k5x9 => kernel_rfl); (case k6x9 => kernel_rfl); (case hSx9 => assumption); (case hYx9 => (refine Or.inl ⟨rfl, ?hyx9⟩; intro w hSw; (try dsimp only at hSw); go_simp; (try with_reducible rfl))); (case hQx9 => exact (fun _ _ _ h => h)); (try simp only [Act.put, List.setIfInBounds_toArray, List.set_cons_zero, List.set_cons_succ]))
        refine wpAnyL_ready (rs := [9]) (by kernel_rfl) (by simp) ?_
        refine AllReadyL.cons (o := ?o9x10) ?hi9x10 (fun K hK => ?_) AllReadyL.nil
        (case hi9x10 => (simp only [List.getElem?_toArray, List.getElem?_cons_succ, List.getElem?_cons_zero]; exact rfl))
        go_simp
        have hb0 := HBC.out.alloc HBC.out.size (.cells (xA none 0 0 none 0 0 ⟨[], [], 0, 0⟩) 75)
        have hg0 := blk_of_below HBC.out 75 (xA none 0 0 none 0 0 ⟨[], [], 0, 0⟩)
        have hge := HBC.out.size
        clear HBC
        have HBC := Lib.hid hb0; have HGX := Lib.hid hg0; have HGE := Lib.hid hge
        clear hb0 hg0 hge
        (try clear hHeld)
        refine hK.out _ _ (by (try dsimp only); exact HS.out _ HBC.out) (fun hHeld => ?_)
        clear hK K
        (try simp only [Act.put, List.setIfInBounds_toArray, List.set_cons_zero, List.set_cons_succ])
        revert hHeld HBC HGX
        generalize (World.alloc _ (.cells (xA none 0 0 none 0 0 ⟨[], [], 0, 0⟩) 75)) = WA
        intro HBC HGX hHeld
        refine wpAnyL_ready (rs := [10]) (by kernel_rfl) (by simp) ?_
        refine AllReadyL.last (o := ?o10x11) ?hi10x11 ?he10x11 (fun K hK => ?_) AllReadyL.nil
        (case hi10x11 => (simp only [List.getElem?_toArray, List.getElem?_cons_succ, List.getElem?_cons_zero]; exact rfl))
        (case he10x11 => kernel_rfl)
        have rc := HGX.out.cell; have rf := HGX.out.frozen
        have r0 := rc 0; have r1 := rc 1; have r2 := rc 2; have r3 := rc 3
        simp at r0 r1 r2 r3
        have q0 := rf 0; have q1 := rf 1; have q2 := rf 2; have q3 := rf 3
        (try simp at q0 q1 q2 q3)
        clear rc rf
        go_simp
        (try clear hHeld)
        refine hK.out _ _ ?_
        clear hK K
        (try simp only [Act.put, List.setIfInBounds_toArray, List.set_cons_zero, List.set_cons_succ])
        (refine wpAnyL_done (by kernel_rfl) ?_ _)
        go_wp2_with fail
        go_meet
        have hg0 := blk_setCells (xA none 0 0 none 0 0 ⟨[], [], v1, v2⟩).toList 0 _ [] _ (by simpa using HGX.out) rfl (by simp)
        have hg1 := below_setCells HGE.out (xA none 0 0 none 0 0 ⟨[], [], v1, v2⟩).toList 0 _ HBC.out
        exact ⟨_, v1, v2, rfl, HGE.out, hg0, ⟨rfl, rfl, by simp, by simp, ⟨HV1.out, HV1'.out⟩, ⟨HV2.out, HV2'.out⟩⟩, hg1⟩
      · skip
        go_simp
        have hb0 := HBC.out.alloc HBC.out.size (.cells (xA none 0 0 none 0 0 ⟨[], [], 0, 0⟩) 75)
        have hg0 := blk_of_below HBC.out 75 (xA none 0 0 none 0 0 ⟨[], [], 0, 0⟩)
        have hge := HBC.out.size
        clear HBC
        have HBC := Lib.hid hb0; have HGX := Lib.hid hg0; have HGE := Lib.hid hge
        clear hb0 hg0 hge
        (try clear hHeld)
        refine hK.out _ _ (by (try dsimp only); exact HS.out _ HBC.out) (fun hHeld => ?_)
        clear hK K
        (try simp only [Act.put, List.setIfInBounds_toArray, List.set_cons_zero, List.set_cons_succ])
        revert hHeld HBC HGX
        generalize (World.alloc _ (.cells (xA none 0 0 none 0 0 ⟨[], [], 0, 0⟩) 75)) = WA
        intro HBC HGX hHeld
        refine wpAnyL_ready (rs := [7]) (by kernel_rfl) (by simp) ?_
        refine AllReadyL.cons (o := ?o7x12) ?hi7x12 (fun K hK => ?_) AllReadyL.nil
        (case hi7x12 => (simp only [List.getElem?_toArray, List.getElem?_cons_succ, List.getElem?_cons_zero]; exact rfl))
        go_simp
        go_at_call 52
        refine (HPK.out _ HBC.out l.soft (by omega) 1 (by omega)).mono ?_
        rintro e w2 ⟨v2, rfl, hv2, hv2', hbn⟩
        have hb0 := HBC.out.trans (hbn.mono HBC.out.size)
        (first | (have hg0 := HGX.out.below hbn HGX.out.lt; clear HGX; have HGX := Lib.hid hg0; clear hg0) | skip)
        clear HBC
        have HBC := Lib.hid hb0; have HV2 := Lib.hid hv2; have HV2' := Lib.hid hv2'
        clear hb0 hbn hv2 hv2'
        (try go_wp2_with fail)
        (try clear hHeld)
        refine hK.out _ _ (by (try dsimp only); exact HS.out _ HBC.out) (fun hHeld => ?_)
        clear hK K
        (try simp only [Act.put, List.setIfInBounds_toArray, List.set_cons_zero, List.set_cons_succ])
        (refine wpAnyL_take (n := 0) (i := 8) (oi := ?ox13) (v := ?vx13) ?hix13 ?k1x13 ?k2x13 ?k3x13 ?k4x13 ?k5x13 ?k6x13 ?hQx13 ?hYx13 ?hSx13 ?restx13; (case hix13 => (simp only [List.getElem?_toArray, List.getElem?_cons_succ, List.getElem?_cons_zero]; exact rfl)); (case k1x13 => kernel_rfl); (case k2x13 => kernel_rfl); (case k3x13 => kernel_rfl); (case k4x13 => kernel_rfl); (case k5x13 => kernel_rfl); (case k6x13 => kernel_rfl); (case hSx13 => assumption); (case hYx13 => (refine Or.inl ⟨rfl, ?hyx13⟩; intro w hSw; (try dsimp only at hSw); go_simp; (try with_reducible rfl))); (case hQx13 => exact (fun _ _ _ h => h)); (try simp only [Act.put, List.setIfInBounds_toArray, List.set_cons_zero, List.set_cons_succ]))
        refine wpAnyL_ready (rs := [10]) (by kernel_rfl) (by simp) ?_
        refine AllReadyL.last (o := ?o10x14) ?hi10x14 ?he10x14 (fun K hK => ?_) AllReadyL.nil
        (case hi10x14 => (simp only [List.getElem?_toArray, List.getElem?_cons_succ, List.getElem?_cons_zero]; exact rfl))
        (case he10x14 => kernel_rfl)
        have rc := HGX.out.cell; have rf := HGX.out.frozen
        have r0 := rc 0; have r1 := rc 1; have r2 := rc 2; have r3 := rc 3
        simp at r0 r1 r2 r3
        have q0 := rf 0; have q1 := rf 1; have q2 := rf 2; have q3 := rf 3
        (try simp at q0 q1 q2 q3)
        clear rc rf
        go_simp
        (try clear hHeld)
        refine hK.out _ _ ?_
        clear hK K
        (try simp only [Act.put, List.setIfInBounds_toArray, List.set_cons_zero, List.set_cons_succ])
        (refine wpAnyL_done (by kernel_rfl) ?_ _)
        go_wp2_with fail
        go_meet
        have hg0 := blk_setCells (xA none 0 0 none 0 0 ⟨[], [], v1, v2⟩).toList 0 _ [] _ (by simpa using HGX.out) rfl (by simp)
        have hg1 := below_setCells HGE.out (xA none 0 0 none 0 0 ⟨[], [], v1, v2⟩).toList 0 _ HBC.out
        exact ⟨_, v1, v2, rfl, HGE.out, hg0, ⟨rfl, rfl, by simp, by simp, ⟨HV1.out, HV1'.out⟩, ⟨HV2.out, HV2'.out⟩⟩, hg1⟩
    · skip
      go_simp
      have hb0 := HBC.out.alloc HBC.out.size (.cells (xA none 0 0 none 0 0 ⟨[], [], 0, 0⟩) 75)
      have hg0 := blk_of_below HBC.out 75 (xA none 0 0 none 0 0 ⟨[], [], 0, 0⟩)
      have hge := HBC.out.size
      clear HBC
      have HBC := Lib.hid hb0; have HGX := Lib.hid hg0; have HGE := Lib.hid hge
      clear hb0 hg0 hge
      (try clear hHeld)
      refine hK.out _ _ (by (try dsimp only); exact HS.out _ HBC.out) (fun hHeld => ?_)
      clear hK K
      (try simp only [Act.put, List.setIfInBounds_toArray, List.set_cons_zero, List.set_cons_succ])
      revert hHeld HBC HGX
      generalize (World.alloc _ (.cells (xA none 0 0 none 0 0 ⟨[], [], 0, 0⟩) 75)) = WA
      intro HBC HGX hHeld
      refine wpAnyL_ready (rs := [3]) (by kernel_rfl) (by simp) ?_
      refine AllReadyL.cons (o := ?o3x15) ?hi3x15 (fun K hK => ?_) AllReadyL.nil
      (case hi3x15 => (simp only [List.getElem?_toArray, List.getElem?_cons_succ, List.getElem?_cons_zero]; exact rfl))
      go_simp
      go_at_call 52
      refine (HPK.out _ HBC.out l.start (by omega) 0 (by omega)).mono ?_
      rintro e w1 ⟨v1, rfl, hv1, hv1', hbn⟩
      have hb0 := HBC.out.trans (hbn.mono HBC.out.size)
      (first | (have hg0 := HGX.out.below hbn HGX.out.lt; clear HGX; have HGX := Lib.hid hg0; clear hg0) | skip)
      clear HBC
      have HBC := Lib.hid hb0; have HV1 := Lib.hid hv1; have HV1' := Lib.hid hv1'
      clear hb0 hbn hv1 hv1'
      (try go_wp2_with fail)
      (try clear hHeld)
      refine hK.out _ _ (by (try dsimp only); exact HS.out _ HBC.out) (fun hHeld => ?_)
      clear hK K
      (try simp only [Act.put, List.setIfInBounds_toArray, List.set_cons_zero, List.set_cons_succ])
      refine wpAnyL_ready (rs := [7]) (by kernel_rfl) (by simp) ?_
      refine AllReadyL.cons (o := ?o7x16) ?hi7x16 (fun K hK => ?_) AllReadyL.nil
      (case hi7x16 => (simp only [List.getElem?_toArray, List.getElem?_cons_succ, List.getElem?_cons_zero]; exact rfl))
      go_simp
      go_at_call 52
      refine (HPK.out _ HBC.out l.soft (by omega) 1 (by omega)).mono ?_
      rintro e w2 ⟨v2, rfl, hv2, hv2', hbn⟩
      have hb0 := HBC.out.trans (hbn.mono HBC.out.size)
      (first | (have hg0 := HGX.out.below hbn HGX.out.lt; clear HGX; have HGX := Lib.hid hg0; clear hg0) | skip)
      clear HBC
      have HBC := Lib.hid hb0; have HV2 := Lib.hid hv2; have HV2' := Lib.hid hv2'
      clear hb0 hbn hv2 hv2'
      (try go_wp2_with fail)
      (try clear hHeld)
      refine hK.out _ _ (by (try dsimp only); exact HS.out _ HBC.out) (fun hHeld => ?_)
      clear hK K
      (try simp only [Act.put, List.setIfInBounds_toArray, List.set_cons_zero, List.set_cons_succ])
      (refine wpAnyL_take (n := 0) (i := 8) (oi := ?ox17) (v := ?vx17) ?hix17 ?k1x17 ?k2x17 ?k3x17 ?k4x17 ?k5x17 ?k6x17 ?hQx17 ?hYx17 ?hSx17 ?restx17; (case hix17 => (simp only [List.getElem?_toArray, List.getElem?_cons_succ, List.getElem?_cons_zero]; exact rfl)); (case k1x17 => kernel_rfl); (case k2x17 => kernel_rfl); (case k3x17 => kernel_rfl); (case k4x17 => kernel_rfl); (case k5x17 => kernel_rfl); (case k6x17 => kernel_rfl); (case hSx17 => assumption); (case hYx17 => (refine Or.inl ⟨rfl, ?hyx17⟩; intro w hSw; (try dsimp only at hSw); go_simp; (try with_reducible rfl))); (case hQx17 => exact (fun _ _ _ h => h)); (try simp only [Act.put, List.setIfInBounds_toArray, List.set_cons_zero, List.set_cons_succ]))
      refine wpAnyL_ready (rs := [10]) (by kernel_rfl) (by simp) ?_
      refine AllReadyL.last (o := ?o10x18) ?hi10x18 ?he10x18 (fun K hK => ?_) AllReadyL.nil
      (case hi10x18 => (simp only [List.getElem?_toArray, List.getElem?_cons_succ, List.getElem?_cons_zero]; exact rfl))
      (case he10x18 => kernel_rfl)
      have rc := HGX.out.cell; have rf := HGX.out.frozen
      have r0 := rc 0; have r1 := rc 1; have r2 := rc 2; have r3 := rc 3
      simp at r0 r1 r2 r3
      have q0 := rf 0; have q1 := rf 1; have q2 := rf 2; have q3 := rf 3
      (try simp at q0 q1 q2 q3)
      clear rc rf
      go_simp
      (try clear hHeld)
      refine hK.out _ _ ?_
      clear hK K
      (try simp only [Act.put, List.setIfInBounds_toArray, List.set_cons_zero, List.set_cons_succ])
      (refine wpAnyL_done (by kernel_rfl) ?_ _)
      go_wp2_with fail
      go_meet
      have hg0 := blk_setCells (xA none 0 0 none 0 0 ⟨[], [], v1, v2⟩).toList 0 _ [] _ (by simpa using HGX.out) rfl (by simp)
      have hg1 := below_setCells HGE.out (xA none 0 0 none 0 0 ⟨[], [], v1, v2⟩).toList 0 _ HBC.out
      exact ⟨_, v1, v2, rfl, HGE.out, hg0, ⟨rfl, rfl, by simp, by simp, ⟨HV1.out, HV1'.out⟩, ⟨HV2.out, HV2'.out⟩⟩, hg1⟩
  case rest =>
    obtain ⟨g, v1, v2, rfl, hge, hbx, hpf, hbel⟩ := hcut
    obtain ⟨i0, hi0, hz0, hz1, hz2⟩ := info_parts infoInt
    have HI := Lib.hid hi0; have HZ0 := Lib.hid hz0; have HZ1 := Lib.hid hz1; have HZ2 := Lib.hid hz2
    have HT := Lib.hid (show TwoR W.heap.size wc g none 0 none 0 0 ⟨[], [], v1, v2⟩ from ⟨hbx, World.ownsRow_nil _ _ _ _, World.ownsRow_nil _ _ _ _, Apart.none _ _ _⟩)
    have HPF := Lib.hid hpf
    clear HBC
    have HBC := Lib.hid hbel
    clear hi0 hz0 hz1 hz2 hbx hpf hbel
    go_wp2_with fail
    go_loopw [6] (fun i wr => ∃ (k : Nat) (x : Rel) (FA : Option Addr) (cF : Nat) (SA : Option Addr) (cS : Nat), k ≤ nI ∧ i = .int .i64 k ∧ TwoR W.heap.size wr g FA cF SA cS k x ∧ PreF l k x ∧ Below W.heap.size W wr) (fun i _ => nI - (intOf i).toNat)
    case atStart => exact ⟨0, _, none, 0, none, 0, Nat.zero_le _, rfl, HT.out, HPF.out, HBC.out⟩
    case round =>
      obtain ⟨k, x, FA, cF, SA, cS, hk, rfl, htr, hpr, hbr⟩ := hrel
      obtain ⟨z7, z8, z9⟩ := HS9.out _ hbr
      clear HBC HT HPF
      by_cases hlt : k < nI
      · obtain ⟨b, o, r, hA, hbl, hr, e0, e1⟩ := (HH.out.infl.below HB.out).at2 hlt
        subst hA
        have hrb := HOK.out.inflow k r hr
        have hWr := hbr.size
        have y0 := htr.box.cell 0; have y1 := htr.box.cell 1
        simp at y0 y1
        have d0 := bel_keep hbr e0; have d1 := bel_keep hbr e1
        have hn1 := htr.not_low hWw; have hn2 := htr.not_low hbl; have hn3 := htr.not_box
        have HS5 := Lib.hid (fun (U : World) (hU : Fr (OwnB FA cF SA cS k) wr U) => show U.cell? ⟨w.heap.size, 7, none⟩ = some (.int .i64 l.seep.1) ∧ U.cell? ⟨w.heap.size, 8, none⟩ = some (.int .i64 l.seep.2) ∧ U.cell? ⟨w.heap.size, 9, none⟩ = some (.slice (some ⟨b, o, none⟩) nI cI) ∧ U.cell? ⟨b, o + k * 2, none⟩ = some (.int .i64 r.1) ∧ U.cell? ⟨b, o + k * 2 + 1, none⟩ = some (.int .i64 r.2) ∧ U.cell? ⟨g, 0, none⟩ = some (.slice FA k cF) ∧ U.cell? ⟨g, 1, none⟩ = some (.slice SA k cS) from
          ⟨fr_cell hU hn1 z7, fr_cell hU hn1 z8, fr_cell hU hn1 z9, fr_cell hU hn2 d0, fr_cell hU hn2 d1, fr_cell hU hn3 y0, fr_cell hU hn3 y1⟩)
        have HBC := Lib.hid hbr; have HT := Lib.hid htr; have HPR := Lib.hid hpr; have HR := Lib.hid hr
        have HFR := Lib.hid (Fr.refl (OwnB FA cF SA cS k) wr)
        have hkn : (k : Int) < (nI : Int) := by omega
        have hk0 : (0 : Int) ≤ (k : Int) := by omega
        have m1 : IntKind.i64.wrap (2 * (k : Int)) = 2 * (k : Int) := wi (by omega)
        have m2 : IntKind.i64.wrap (2 * (k : Int) + 2) = 2 * (k : Int) + 2 := wi (by omega)
        have m3 : IntKind.i64.wrap (2 * (k : Int) + 3) = 2 * (k : Int) + 3 := wi (by omega)
        have HM1 := Lib.hid m1; have HM2 := Lib.hid m2; have HM3 := Lib.hid m3
        clear m1 m2 m3 hbr htr hpr hr z7 z8 e0 e1 d0 d1 y0 y1 hn1 hn2 hn3
        go_upto_region 5 with fail
        clear z9
        have m1 := HM1.out; have m2 := HM2.out; have m3 := HM3.out
        refine wp_region_till [26] (fun U => U.cell? ⟨w.heap.size, 7, none⟩ = some (.int .i64 l.seep.1) ∧ U.cell? ⟨w.heap.size, 8, none⟩ = some (.int .i64 l.seep.2) ∧ U.cell? ⟨w.heap.size, 9, none⟩ = some (.slice (some ⟨b, o, none⟩) nI cI) ∧ U.cell? ⟨b, o + k * 2, none⟩ = some (.int .i64 r.1) ∧ U.cell? ⟨b, o + k * 2 + 1, none⟩ = some (.int .i64 r.2) ∧ U.cell? ⟨g, 0, none⟩ = some (.slice FA k cF) ∧ U.cell? ⟨g, 1, none⟩ = some (.slice SA k cS)) (by kernel_rfl) (by exact HS5.out wr.drew (HFR.out.more ((Below.refl wr.heap.size wr).drew))) (fun hHeld => ?_)
        have hb0 := HBC.out.drew
        have hf0 := HFR.out.more ((Below.refl wr.heap.size wr).drew)
        have ht0 := HT.out.below ((Below.refl wr.heap.size wr).drew)
        clear HBC HFR HT
        have HBC := Lib.hid hb0; have HFR := Lib.hid hf0; have HT := Lib.hid ht0
        clear hb0 hf0 ht0
        revert hHeld HBC HFR HT
        generalize wr.drew = W0
        intro hHeld HBC HFR HT
        (refine wpAnyL_take (n := 0) (i := 0) (oi := ?ox19) (v := ?vx19) ?hix19 ?k1x19 ?k2x19 ?k3x19 ?k4x19 ?k5x19 ?k6x19 ?hQx19 ?hYx19 ?hSx19 ?restx19; (case hix19 => (simp only [List.getElem?_toArray, List.getElem?_cons_succ, List.getElem?_cons_zero]; exact rfl)); (case k1x19 => kernel_rfl); (case k2x19 => kernel_rfl); (case k3x19 => kernel_rfl); (case k4x19 => kernel_rfl); (case k5x19 => kernel_rfl); (case k6x19 => kernel_rfl); (case hSx19 => assumption); (case hYx19 => (refine Or.inl ⟨rfl, ?hyx19⟩; intro w hSw; (try dsimp only at hSw); go_simp; (try with_reducible rfl))); (case hQx19 => exact (fun _ _ _ h => h)); (try simp only [Act.put, List.setIfInBounds_toArray, List.set_cons_zero, List.set_cons_succ]))
        (refine wpAnyL_take (n := 0) (i := 1) (oi := ?ox20) (v := ?vx20) ?hix20 ?k1x20 ?k2x20 ?k3x20 ?k4x20 ?k5x20 ?k6x20 ?hQx20 ?hYx20 ?hSx20 ?restx20; (case hix20 => (simp only [List.getElem?_toArray, List.getElem?_cons_succ, List.getElem?_cons_zero]; exact rfl)); (case k1x20 => kernel_rfl); (case k2x20 => kernel_rfl); (case k3x20 => kernel_rfl); (case k4x20 => kernel_rfl); (case k5x20 => kernel_rfl); (case k6x20 => kernel_rfl); (case hSx20 => assumption); (case hYx20 => (refine Or.inl ⟨rfl, ?hyx20⟩; intro w hSw; (try dsimp only at hSw); go_simp; (try with_reducible rfl))); (case hQx20 => exact (fun _ _ _ h => h)); (try simp only [Act.put, List.setIfInBounds_toArray, List.set_cons_zero, List.set_cons_succ]))
        (refine wpAnyL_take (n := 0) (i := 2) (oi := ?ox21) (v := ?vx21) ?hix21 ?k1x21 ?k2x21 ?k3x21 ?k4x21 ?k5x21 ?k6x21 ?hQx21 ?hYx21 ?hSx21 ?restx21; (case hix21 => (simp only [List.getElem?_toArray, List.getElem?_cons_succ, List.getElem?_cons_zero]; exact rfl)); (case k1x21 => kernel_rfl); (case k2x21 => kernel_rfl); (case k3x21 => kernel_rfl); (case k4x21 => kernel_rfl); (case k5x21 => kernel_rfl); (case k6x21 => kernel_rfl); (case hSx21 => assumption); (case hYx21 => (refine Or.inl ⟨rfl, ?hyx21⟩; intro w hSw; (try dsimp only at hSw); go_simp; (try with_reducible rfl))); (case hQx21 => exact (fun _ _ _ h => h)); (try simp only [Act.put, List.setIfInBounds_toArray, List.set_cons_zero, List.set_cons_succ]))
        (refine wpAnyL_take (n := 0) (i := 3) (oi := ?ox22) (v := ?vx22) ?hix22 ?k1x22 ?k2x22 ?k3x22 ?k4x22 ?k5x22 ?k6x22 ?hQx22 ?hYx22 ?hSx22 ?restx22; (case hix22 => (simp only [List.getElem?_toArray, List.getElem?_cons_succ, List.getElem?_cons_zero]; exact rfl)); (case k1x22 => kernel_rfl); (case k2x22 => kernel_rfl); (case k3x22 => kernel_rfl); (case k4x22 => kernel_rfl); (case k5x22 => kernel_rfl); (case k6x22 => kernel_rfl); (case hSx22 => assumption); (case hYx22 => (refine Or.inl ⟨rfl, ?hyx22⟩; intro w hSw; (try dsimp only at hSw); go_simp; (try with_reducible rfl))); (case hQx22 => exact (fun _ _ _ h => h)); (try simp only [Act.put, List.setIfInBounds_toArray, List.set_cons_zero, List.set_cons_succ]))
        (refine wpAnyL_take (n := 0) (i := 4) (oi := ?ox23) (v := ?vx23) ?hix23 ?k1x23 ?k2x23 ?k3x23 ?k4x23 ?k5x23 ?k6x23 ?hQx23 ?hYx23 ?hSx23 ?restx23; (case hix23 => (simp only [List.getElem?_toArray, List.getElem?_cons_succ, List.getElem?_cons_zero]; exact rfl)); (case k1x23 => kernel_rfl); (case k2x23 => kernel_rfl); (case k3x23 => kernel_rfl); (case k4x23 => kernel_rfl); (case k5x23 => kernel_rfl); (case k6x23 => kernel_rfl); (case hSx23 => assumption); (case hYx23 => (refine Or.inl ⟨rfl, ?hyx23⟩; intro w hSw; (try dsimp only at hSw); go_simp; (try with_reducible rfl))); (case hQx23 => exact (fun _ _ _ h => h)); (try simp only [Act.put, List.setIfInBounds_toArray, List.set_cons_zero, List.set_cons_succ]))
        (refine wpAnyL_take (n := 0) (i := 5) (oi := ?ox24) (v := ?vx24) ?hix24 ?k1x24 ?k2x24 ?k3x24 ?k4x24 ?k5x24 ?k6x24 ?hQx24 ?hYx24 ?hSx24 ?restx24; (case hix24 => (simp only [List.getElem?_toArray, List.getElem?_cons_succ, List.getElem?_cons_zero]; exact rfl)); (case k1x24 => kernel_rfl); (case k2x24 => kernel_rfl); (case k3x24 => kernel_rfl); (case k4x24 => kernel_rfl); (case k5x24 => kernel_rfl); (case k6x24 => kernel_rfl); (case hSx24 => assumption); (case hYx24 => (refine Or.inl ⟨rfl, ?hyx24⟩; intro w hSw; (try dsimp only at hSw); go_simp; (try with_reducible rfl))); (case hQx24 => exact (fun _ _ _ h => h)); (try simp only [Act.put, List.setIfInBounds_toArray, List.set_cons_zero, List.set_cons_succ]))
        (refine wpAnyL_take (n := 0) (i := 6) (oi := ?ox25) (v := ?vx25) ?hix25 ?k1x25 ?k2x25 ?k3x25 ?k4x25 ?k5x25 ?k6x25 ?hQx25 ?hYx25 ?hSx25 ?restx25; (case hix25 => (simp only [List.getElem?_toArray, List.getElem?_cons_succ, List.getElem?_cons_zero]; exact rfl)); (case k1x25 => kernel_rfl); (case k2x25 => kernel_rfl); (case k3x25 => kernel_rfl); (case k4x25 => kernel_rfl); (case k5x25 => kernel_rfl); (case k6x25 => kernel_rfl); (case hSx25 => assumption); (case hYx25 => (refine Or.inl ⟨rfl, ?hyx25⟩; intro w hSw; (try dsimp only at hSw); go_simp; (try with_reducible rfl))); (case hQx25 => exact (fun _ _ _ h => h)); (try simp only [Act.put, List.setIfInBounds_toArray, List.set_cons_zero, List.set_cons_succ]))
        (refine wpAnyL_take (n := 0) (i := 7) (oi := ?ox26) (v := ?vx26) ?hix26 ?k1x26 ?k2x26 ?k3x26 ?k4x26 ?k5x26 ?k6x26 ?hQx26 ?hYx26 ?hSx26 ?restx26; (case hix26 => (simp only [List.getElem?_toArray, List.getElem?_cons_succ, List.getElem?_cons_zero]; exact rfl)); (case k1x26 => kernel_rfl); (case k2x26 => kernel_rfl); (case k3x26 => kernel_rfl); (case k4x26 => kernel_rfl); (case k5x26 => kernel_rfl); (case k6x26 => kernel_rfl); (case hSx26 => assumption); (case hYx26 => (refine Or.inl ⟨rfl, ?hyx26⟩; intro w hSw; (try dsimp only at hSw); go_simp; (try with_reducible rfl))); (case hQx26 => exact (fun _ _ _ h => h)); (try simp only [Act.put, List.setIfInBounds_toArray, List.set_cons_zero, List.set_cons_succ]))
        (refine wpAnyL_take (n := 0) (i := 8) (oi := ?ox27) (v := ?vx27) ?hix27 ?k1x27 ?k2x27 ?k3x27 ?k4x27 ?k5x27 ?k6x27 ?hQx27 ?hYx27 ?hSx27 ?restx27; (case hix27 => (simp only [List.getElem?_toArray, List.getElem?_cons_succ, List.getElem?_cons_zero]; exact rfl)); (case k1x27 => kernel_rfl); (case k2x27 => kernel_rfl); (case k3x27 => kernel_rfl); (case k4x27 => kernel_rfl); (case k5x27 => kernel_rfl); (case k6x27 => kernel_rfl); (case hSx27 => assumption); (case hYx27 => (refine Or.inl ⟨rfl, ?hyx27⟩; intro w hSw; (try dsimp only at hSw); go_simp; (try with_reducible rfl))); (case hQx27 => exact (fun _ _ _ h => h)); (try simp only [Act.put, List.setIfInBounds_toArray, List.set_cons_zero, List.set_cons_succ]))
        (refine wpAnyL_take (n := 0) (i := 9) (oi := ?ox28) (v := ?vx28) ?hix28 ?k1x28 ?k2x28 ?k3x28 ?k4x28 ?k5x28 ?k6x28 ?hQx28 ?hYx28 ?hSx28 ?restx28; (case hix28 => (simp only [List.getElem?_toArray, List.getElem?_cons_succ, List.getElem?_cons_zero]; exact rfl)); (case k1x28 => kernel_rfl); (case k2x28 => kernel_rfl); (case k3x28 => kernel_rfl); (case k4x28 => kernel_rfl); (case k5x28 => kernel_rfl); (case k6x28 => kernel_rfl); (case hSx28 => assumption); (case hYx28 => (refine Or.inl ⟨rfl, ?hyx28⟩; intro w hSw; (try dsimp only at hSw); go_simp; (try with_reducible rfl))); (case hQx28 => exact (fun _ _ _ h => h)); (try simp only [Act.put, List.setIfInBounds_toArray, List.set_cons_zero, List.set_cons_succ]))
        (refine wpAnyL_take (n := 0) (i := 10) (oi := ?ox29) (v := ?vx29) ?hix29 ?k1x29 ?k2x29 ?k3x29 ?k4x29 ?k5x29 ?k6x29 ?hQx29 ?hYx29 ?hSx29 ?restx29; (case hix29 => (simp only [List.getElem?_toArray, List.getElem?_cons_succ, List.getElem?_cons_zero]; exact rfl)); (case k1x29 => kernel_rfl); (case k2x29 => kernel_rfl); (case k3x29 => kernel_rfl); (case k4x29 => kernel_rfl); (case k5x29 => kernel_rfl); (case k6x29 => kernel_rfl); (case hSx29 => assumption); (case hYx29 => (refine Or.inl ⟨rfl, ?hyx29⟩; intro w hSw; (try dsimp only at hSw); go_simp; (try with_reducible rfl))); (case hQx29 => exact (fun _ _ _ h => h)); (try simp only [Act.put, List.setIfInBounds_toArray, List.set_cons_zero, List.set_cons_succ]))
        (refine wpAnyL_take (n := 0) (i := 14) (oi := ?ox30) (v := ?vx30) ?hix30 ?k1x30 ?k2x30 ?k3x30 ?k4x30 ?k5x30 ?k6x30 ?hQx30 ?hYx30 ?hSx30 ?restx30; (case hix30 => (simp only [List.getElem?_toArray, List.getElem?_cons_succ, List.getElem?_cons_zero]; exact rfl)); (case k1x30 => kernel_rfl); (case k2x30 => kernel_rfl); (case k3x30 => kernel_rfl); (case k4x30 => kernel_rfl); (case k5x30 => kernel_rfl); (case k6x30 => kernel_rfl); (case hSx30 => assumption); (case hYx30 => (refine Or.inl ⟨rfl, ?hyx30⟩; intro w hSw; (try dsimp only at hSw); go_simp; (try with_reducible rfl))); (case hQx30 => exact (fun _ _ _ h => h)); (try simp only [Act.put, List.setIfInBounds_toArray, List.set_cons_zero, List.set_cons_succ]))
        (refine wpAnyL_take (n := 0) (i := 15) (oi := ?ox31) (v := ?vx31) ?hix31 ?k1x31 ?k2x31 ?k3x31 ?k4x31 ?k5x31 ?k6x31 ?hQx31 ?hYx31 ?hSx31 ?restx31; (case hix31 => (simp only [List.getElem?_toArray, List.getElem?_cons_succ, List.getElem?_cons_zero]; exact rfl)); (case k1x31 => kernel_rfl); (case k2x31 => kernel_rfl); (case k3x31 => kernel_rfl); (case k4x31 => kernel_rfl); (case k5x31 => kernel_rfl); (case k6x31 => kernel_rfl); (case hSx31 => assumption); (case hYx31 => (refine Or.inl ⟨rfl, ?hyx31⟩; intro w hSw; (try dsimp only at hSw); go_simp; (try with_reducible rfl))); (case hQx31 => exact (fun _ _ _ h => h)); (try simp only [Act.put, List.setIfInBounds_toArray, List.set_cons_zero, List.set_cons_succ]))
        (refine wpAnyL_take (n := 3) (i := 16) (oi := ?ox32) (v := ?vx32) ?hix32 ?k1x32 ?k2x32 ?k3x32 ?k4x32 ?k5x32 ?k6x32 ?hQx32 ?hYx32 ?hSx32 ?restx32; (case hix32 => (simp only [List.getElem?_toArray, List.getElem?_cons_succ, List.getElem?_cons_zero]; exact rfl)); (case k1x32 => kernel_rfl); (case k2x32 => kernel_rfl); (case k3x32 => kernel_rfl); (case k4x32 => kernel_rfl); (case k5x32 => kernel_rfl); (case k6x32 => kernel_rfl); (case hSx32 => assumption); (case hYx32 => (refine Or.inl ⟨rfl, ?hyx32⟩; intro w hSw; (try dsimp only at hSw); go_simp; (try with_reducible rfl))); (case hQx32 => exact (fun _ _ _ h => h)); (try simp only [Act.put, List.setIfInBounds_toArray, List.set_cons_zero, List.set_cons_succ]))
        (refine wpAnyL_take (n := 2) (i := 17) (oi := ?ox33) (v := ?vx33) ?hix33 ?k1x33 ?k2x33 ?k3x33 ?k4x33 ?k5x33 ?k6x33 ?hQx33 ?hYx33 ?hSx33 ?restx33; (case hix33 => (simp only [List.getElem?_toArray, List.getElem?_cons_succ, List.getElem?_cons_zero]; exact rfl)); (case k1x33 => kernel_rfl); (case k2x33 => kernel_rfl); (case k3x33 => kernel_rfl); (case k4x33 => kernel_rfl); (case k5x33 => kernel_rfl); (case k6x33 => kernel_rfl); (case hSx33 => assumption); (case hYx33 => (refine Or.inl ⟨rfl, ?hyx33⟩; intro w hSw; (try dsimp only at hSw); go_simp; (try with_reducible rfl))); (case hQx33 => exact (fun _ _ _ h => h)); (try simp only [Act.put, List.setIfInBounds_toArray, List.set_cons_zero, List.set_cons_succ]))
        (refine wpAnyL_take (n := 2) (i := 18) (oi := ?ox34) (v := ?vx34) ?hix34 ?k1x34 ?k2x34 ?k3x34 ?k4x34 ?k5x34 ?k6x34 ?hQx34 ?hYx34 ?hSx34 ?restx34; (case hix34 => (simp only [List.getElem?_toArray, List.getElem?_cons_succ, List.getElem?_cons_zero]; exact rfl)); (case k1x34 => kernel_rfl); (case k2x34 => kernel_rfl); (case k3x34 => kernel_rfl); (case k4x34 => kernel_rfl); (case k5x34 => kernel_rfl); (case k6x34 => kernel_rfl); (case hSx34 => assumption); (case hYx34 => (refine Or.inl ⟨rfl, ?hyx34⟩; intro w hSw; (try dsimp only at hSw); go_simp; (try with_reducible rfl))); (case hQx34 => exact (fun _ _ _ h => h)); (try simp only [Act.put, List.setIfInBounds_toArray, List.set_cons_zero, List.set_cons_succ]))
        (refine wpAnyL_take (n := 4) (i := 19) (oi := ?ox35) (v := ?vx35) ?hix35 ?k1x35 ?k2x35 ?k3x35 ?k4x35 ?k5x35 ?k6x35 ?hQx35 ?hYx35 ?hSx35 ?restx35; (case hix35 => (simp only [List.getElem?_toArray, List.getElem?_cons_succ, List.getElem?_cons_zero]; exact rfl)); (case k1x35 => kernel_rfl); (case k2x35 => kernel_rfl); (case k3x35 => kernel_rfl); (case k4x35 => kernel_rfl); (case k5x35 => kernel_rfl); (case k6x35 => kernel_rfl); (case hSx35 => assumption); (case hYx35 => (refine Or.inl ⟨rfl, ?hyx35⟩; intro w hSw; (try dsimp only at hSw); go_simp; (try with_reducible rfl))); (case hQx35 => exact (fun _ _ _ h => h)); (try simp only [Act.put, List.setIfInBounds_toArray, List.set_cons_zero, List.set_cons_succ]))
        (refine wpAnyL_take (n := 3) (i := 20) (oi := ?ox36) (v := ?vx36) ?hix36 ?k1x36 ?k2x36 ?k3x36 ?k4x36 ?k5x36 ?k6x36 ?hQx36 ?hYx36 ?hSx36 ?restx36; (case hix36 => (simp only [List.getElem?_toArray, List.getElem?_cons_succ, List.getElem?_cons_zero]; exact rfl)); (case k1x36 => kernel_rfl); (case k2x36 => kernel_rfl); (case k3x36 => kernel_rfl); (case k4x36 => kernel_rfl); (case k5x36 => kernel_rfl); (case k6x36 => kernel_rfl); (case hSx36 => assumption); (case hYx36 => (refine Or.inl ⟨rfl, ?hyx36⟩; intro w hSw; (try dsimp only at hSw); go_simp; (try with_reducible rfl))); (case hQx36 => exact (fun _ _ _ h => h)); (try simp only [Act.put, List.setIfInBounds_toArray, List.set_cons_zero, List.set_cons_succ]))
        (refine wpAnyL_take (n := 2) (i := 21) (oi := ?ox37) (v := ?vx37) ?hix37 ?k1x37 ?k2x37 ?k3x37 ?k4x37 ?k5x37 ?k6x37 ?hQx37 ?hYx37 ?hSx37 ?restx37; (case hix37 => (simp only [List.getElem?_toArray, List.getElem?_cons_succ, List.getElem?_cons_zero]; exact rfl)); (case k1x37 => kernel_rfl); (case k2x37 => kernel_rfl); (case k3x37 => kernel_rfl); (case k4x37 => kernel_rfl); (case k5x37 => kernel_rfl); (case k6x37 => kernel_rfl); (case hSx37 => assumption); (case hYx37 => (refine Or.inl ⟨rfl, ?hyx37⟩; intro w hSw; (try dsimp only at hSw); go_simp; (try with_reducible rfl))); (case hQx37 => exact (fun _ _ _ h => h)); (try simp only [Act.put, List.setIfInBounds_toArray, List.set_cons_zero, List.set_cons_succ]))
        refine wpAnyL_ready (rs := [11]) (by kernel_rfl) (by simp) ?_
        refine AllReadyL.cons (o := ?o11x38) ?hi11x38 (fun K hK => ?_) AllReadyL.nil
        (case hi11x38 => (simp only [List.getElem?_toArray, List.getElem?_cons_succ, List.getElem?_cons_zero]; exact rfl))
        go_simp
        go_at_call 52
        refine (HPK.out _ HBC.out r (by omega) (2 * (k : Int) + 2) (by omega)).mono ?_
        rintro e w1 ⟨v1', rfl, hv1, hv1', hbn⟩
        have hb0 := HBC.out.trans (hbn.mono HBC.out.size)
        have hf0 := HFR.out.more hbn
        have ht0 := HT.out.below hbn
        clear HBC HFR HT
        have HBC := Lib.hid hb0; have HFR := Lib.hid hf0; have HT := Lib.hid ht0
        have HV1 := Lib.hid (And.intro hv1 hv1')
        clear hb0 hf0 ht0 hbn hv1 hv1'
        (try go_wp2_with fail)
        (try clear hHeld)
        refine hK.out _ _ (by (try dsimp only); exact HS5.out _ HFR.out) (fun hHeld => ?_)
        clear hK K
        (try simp only [Act.put, List.setIfInBounds_toArray, List.set_cons_zero, List.set_cons_succ])
        refine wpAnyL_ready (rs := [12]) (by kernel_rfl) (by simp) ?_
        refine AllReadyL.cons (o := ?o12x39) ?hi12x39 (fun K hK => ?_) AllReadyL.nil
        (case hi12x39 => (simp only [List.getElem?_toArray, List.getElem?_cons_succ, List.getElem?_cons_zero]; exact rfl))
        go_simp
        have hb0 := HBC.out.alloc HBC.out.size (.cells #[.int .i64 v1'] 3)
        have hf0 := HFR.out.more ((Below.refl w1.heap.size w1).alloc (Nat.le_refl _) (.cells #[.int .i64 v1'] 3))
        clear HBC HFR
        have HBC := Lib.hid hb0; have HFR := Lib.hid hf0
        clear hb0 hf0
        (try clear hHeld)
        refine hK.out _ _ (by (try dsimp only); exact HS5.out _ HFR.out) (fun hHeld => ?_)
        clear hK K
        (try simp only [Act.put, List.setIfInBounds_toArray, List.set_cons_zero, List.set_cons_succ])
        refine wpAnyL_ready (rs := [13]) (by kernel_rfl) (by simp) ?_
        refine AllReadyL.cons (o := ?o13x40) ?hi13x40 (fun K hK => ?_) AllReadyL.nil
        (case hi13x40 => (simp only [List.getElem?_toArray, List.getElem?_cons_succ, List.getElem?_cons_zero]; exact rfl))
        refine step_append_lies _ (by rfl) _ _ _ (by rfl) W.heap.size 3 i0 _ 1 8 Try.underlying22 HI.out HZ0.out HZ1.out HZ2.out rfl (by omega) _ k (x.inflow.flatMap enc1) (by rfl) (HT.out.oF |> fun h => own_mono h ((Below.refl w1.heap.size w1).alloc (Nat.le_refl _) (.cells #[.int .i64 v1'] 3))) ⟨w1.heap.size, 0, none⟩ 1 1 [.int .i64 v1'] (by rfl) (by rfl) (World.news_of_block (cs := #[.int .i64 v1']) (t := 3) (fr := (0, 0)) (heap_alloc_new w1 _)) (by simp [Value.oneCell']) (by omega) (by unfold maxLen; omega) (by omega) (by have := HBC.out.size; simp at this ⊢; omega) (w1.heap.size + 1) (by simp) ?_
        intro gg cap w3 hown3 hgrow hat hlt3
        have hal := (Below.refl w1.heap.size w1).alloc (Nat.le_refl _) (.cells #[.int .i64 v1'] 3)
        have hgs := hgrow.size
        have hge1 := HBC.out.size
        have hoS := (own_mono HT.out.oS hal)
        have hoS3 := hoS.kept hgrow (by
          cases hq : (Value.slice SA k cS).ownBlock with
          | none => exact .inl rfl
          | some z => exact .inr fun e => HT.out.ap z e.symm hq)
        have hbx3 := (HT.out.box.alloc (.cells #[.int .i64 v1'] 3)).grown hgrow (fun e => own_blk_ne HT.out.oF HT.out.box (by decide) e.symm)
        have hap3 := HT.out.ap.grow (n' := k + 1) (c := cap) (gg := gg) HT.out.oS (hat.imp id fun e => by omega)
        have hb0 := HBC.out.grown hgrow hge1 (fun z hz => (HT.out.oF.lt z hz).1)
        have hf0 := HFR.out.step hgrow (fun z hz => .inl (.inl hz))
        have ho3 : w3.ownsRow W.heap.size 3 1 (.slice (some ⟨gg, 0, none⟩) (k + 1) cap) (k + 1) ((x.inflow ++ [v1']).flatMap enc1) := by
          rw [List.flatMap_append]; simpa [enc1] using hown3
        clear HBC HFR
        have HBC := Lib.hid hb0; have HFR := Lib.hid hf0; have HO3 := Lib.hid ho3; have HS3 := Lib.hid hoS3; have HX3 := Lib.hid hbx3; have HA3 := Lib.hid hap3
        clear hal hgs hge1 hoS hoS3 hbx3 hap3 hb0 hf0 ho3 hown3 hgrow hat HT
        (try clear hHeld)
        refine hK.out _ _ (by (try dsimp only); exact HS5.out _ HFR.out) (fun hHeld => ?_)
        clear hK K
        (try simp only [Act.put, List.setIfInBounds_toArray, List.set_cons_zero, List.set_cons_succ])
        (refine wpAnyL_take (n := 0) (i := 25) (oi := ?ox41) (v := ?vx41) ?hix41 ?k1x41 ?k2x41 ?k3x41 ?k4x41 ?k5x41 ?k6x41 ?hQx41 ?hYx41 ?hSx41 ?restx41; (case hix41 => (simp only [List.getElem?_toArray, List.getElem?_cons_succ, List.getElem?_cons_zero]; exact rfl)); (case k1x41 => kernel_rfl); (case k2x41 => kernel_rfl); (case k3x41 => kernel_rfl); (case k4x41 => kernel_rfl); (case k5x41 => kernel_rfl); (case k6x41 => kernel_rfl); (case hSx41 => assumption); (case hYx41 => (refine Or.inl ⟨rfl, ?hyx41⟩; intro w hSw; (try dsimp only at hSw); go_simp; (try with_reducible rfl))); (case hQx41 => exact (fun _ _ _ h => h)); (try simp only [Act.put, List.setIfInBounds_toArray, List.set_cons_zero, List.set_cons_succ]))
        refine wpAnyL_ready (rs := [22]) (by kernel_rfl) (by simp) ?_
        refine AllReadyL.cons (o := ?o22x42) ?hi22x42 (fun K hK => ?_) AllReadyL.nil
        (case hi22x42 => (simp only [List.getElem?_toArray, List.getElem?_cons_succ, List.getElem?_cons_zero]; exact rfl))
        go_simp
        go_at_call 52
        refine (HPK.out _ HBC.out l.seep (by omega) (2 * (k : Int) + 3) (by omega)).mono ?_
        rintro e w4 ⟨v2', rfl, hv1, hv1', hbn⟩
        have hb0 := HBC.out.trans (hbn.mono HBC.out.size)
        have hf0 := HFR.out.more hbn
        have ho0 := own_mono HO3.out hbn
        have hs0 := own_mono HS3.out hbn
        have hx0 := HX3.out.below hbn HX3.out.lt
        clear HBC HFR HO3 HS3 HX3
        have HBC := Lib.hid hb0; have HFR := Lib.hid hf0; have HO3 := Lib.hid ho0; have HS3 := Lib.hid hs0; have HX3 := Lib.hid hx0
        have HV2 := Lib.hid (And.intro hv1 hv1')
        clear hb0 hf0 ho0 hs0 hx0 hbn hv1 hv1'
        (try go_wp2_with fail)
        (try clear hHeld)
        refine hK.out _ _ (by (try dsimp only); exact HS5.out _ HFR.out) (fun hHeld => ?_)
        clear hK K
        (try simp only [Act.put, List.setIfInBounds_toArray, List.set_cons_zero, List.set_cons_succ])
        refine wpAnyL_ready (rs := [23]) (by kernel_rfl) (by simp) ?_
        refine AllReadyL.cons (o := ?o23x43) ?hi23x43 (fun K hK => ?_) AllReadyL.nil
        (case hi23x43 => (simp only [List.getElem?_toArray, List.getElem?_cons_succ, List.getElem?_cons_zero]; exact rfl))
        go_simp
        have hb0 := HBC.out.alloc HBC.out.size (.cells #[.int .i64 v2'] 3)
        have hf0 := HFR.out.more ((Below.refl w4.heap.size w4).alloc (Nat.le_refl _) (.cells #[.int .i64 v2'] 3))
        clear HBC HFR
        have HBC := Lib.hid hb0; have HFR := Lib.hid hf0
        clear hb0 hf0
        (try clear hHeld)
        refine hK.out _ _ (by (try dsimp only); exact HS5.out _ HFR.out) (fun hHeld => ?_)
        clear hK K
        (try simp only [Act.put, List.setIfInBounds_toArray, List.set_cons_zero, List.set_cons_succ])
        refine wpAnyL_ready (rs := [24]) (by kernel_rfl) (by simp) ?_
        refine AllReadyL.cons (o := ?o24x44) ?hi24x44 (fun K hK => ?_) AllReadyL.nil
        (case hi24x44 => (simp only [List.getElem?_toArray, List.getElem?_cons_succ, List.getElem?_cons_zero]; exact rfl))
        refine step_append_lies _ (by rfl) _ _ _ (by rfl) W.heap.size 3 i0 _ 1 8 Try.underlying22 HI.out HZ0.out HZ1.out HZ2.out rfl (by omega) _ k (x.seep.flatMap enc1) (by rfl) (own_mono HS3.out ((Below.refl w4.heap.size w4).alloc (Nat.le_refl _) (.cells #[.int .i64 v2'] 3))) ⟨w4.heap.size, 0, none⟩ 1 1 [.int .i64 v2'] (by rfl) (by rfl) (World.news_of_block (cs := #[.int .i64 v2']) (t := 3) (fr := (0, 0)) (heap_alloc_new w4 _)) (by simp [Value.oneCell']) (by omega) (by unfold maxLen; omega) (by omega) (by have := HBC.out.size; simp at this ⊢; omega) (w4.heap.size + 1) (by simp) ?_
        intro gs caps w5 hown5 hgrow hat hlt5
        have hal := (Below.refl w4.heap.size w4).alloc (Nat.le_refl _) (.cells #[.int .i64 v2'] 3)
        have hge1 := HBC.out.size
        have hoF := own_mono HO3.out hal
        have hoF5 := hoF.kept hgrow (by
          cases hq : (Value.slice (some ⟨gg, 0, none⟩) (k + 1) cap).ownBlock with
          | none => exact .inl rfl
          | some z => exact .inr fun e => HA3.out z hq e.symm)
        have hbx5 := (HX3.out.alloc (.cells #[.int .i64 v2'] 3)).grown hgrow (fun e => own_blk_ne HS3.out HX3.out (by decide) e.symm)
        have hap5 := (HA3.out.symm.grow (n' := k + 1) (c := caps) (gg := gs) HO3.out (hat.imp id fun e => by omega)).symm
        have hb0 := HBC.out.grown hgrow hge1 (fun z hz => (HS3.out.lt z hz).1)
        have hf0 := HFR.out.step hgrow (fun z hz => .inl (.inr hz))
        have ho5 : w5.ownsRow W.heap.size 3 1 (.slice (some ⟨gs, 0, none⟩) (k + 1) caps) (k + 1) ((x.seep ++ [v2']).flatMap enc1) := by
          rw [List.flatMap_append]; simpa [enc1] using hown5
        clear HBC HFR HO3 HS3 HX3 HA3
        have HBC := Lib.hid hb0; have HFR := Lib.hid hf0; have HO5 := Lib.hid hoF5; have HS5' := Lib.hid ho5; have HX5 := Lib.hid hbx5; have HA5 := Lib.hid hap5
        clear hal hge1 hoF hoF5 hbx5 hap5 hb0 hf0 ho5 hown5 hgrow hat
        (try clear hHeld)
        refine hK.out _ _ (by (try dsimp only); exact HS5.out _ HFR.out) (fun hHeld => ?_)
        clear hK K
        (try simp only [Act.put, List.setIfInBounds_toArray, List.set_cons_zero, List.set_cons_succ])
        refine wpAnyL_ready (rs := [26]) (by kernel_rfl) (by simp) ?_
        refine AllReadyL.last (o := ?o26x45) ?hi26x45 ?he26x45 (fun K hK => ?_) AllReadyL.nil
        (case hi26x45 => (simp only [List.getElem?_toArray, List.getElem?_cons_succ, List.getElem?_cons_zero]; exact rfl))
        (case he26x45 => kernel_rfl)
        have s0 := HX5.out.cell 0; have f0 := HX5.out.frozen 0
        have s1 := HX5.out.cell 1; have f1 := HX5.out.frozen 1
        simp at s0 s1
        go_simp
        (try clear hHeld)
        refine hK.out _ _ ?_
        clear hK K
        (try simp only [Act.put, List.setIfInBounds_toArray, List.set_cons_zero, List.set_cons_succ])
        (refine wpAnyL_free (i := 27) (oi := ?ox46) (v := ?vx46) ?hix46 ?k1x46 ?k2x46 ?k3x46 ?k4x46 ?k5x46 ?hQx46 ?hYx46 ?restx46; (case hix46 => (simp only [List.getElem?_toArray, List.getElem?_cons_succ, List.getElem?_cons_zero]; exact rfl)); (case k1x46 => kernel_rfl); (case k2x46 => kernel_rfl); (case k3x46 => kernel_rfl); (case k4x46 => kernel_rfl); (case k5x46 => kernel_rfl); (case hYx46 => (refine Or.inl ⟨rfl, ?hyx46⟩; intro w hSw; (try dsimp only at hSw); go_simp; (try with_reducible rfl))); (case hQx46 => exact (fun _ _ _ h => h)); (try simp only [Act.put, List.setIfInBounds_toArray, List.set_cons_zero, List.set_cons_succ]))
        refine wpAnyL_ready (rs := [28]) (by kernel_rfl) (by simp) ?_
        refine AllReadyL.last (o := ?o28x47) ?hi28x47 ?he28x47 (fun K hK => ?_) AllReadyL.nil
        (case hi28x47 => (simp only [List.getElem?_toArray, List.getElem?_cons_succ, List.getElem?_cons_zero]; exact rfl))
        (case he28x47 => kernel_rfl)
        go_simp
        (try clear hHeld)
        refine hK.out _ _ ?_
        clear hK K
        (try simp only [Act.put, List.setIfInBounds_toArray, List.set_cons_zero, List.set_cons_succ])
        (refine wpAnyL_done (by kernel_rfl) ?_ _)
        clear m1 m2 m3 HM1 HM2 HM3
        have hx6 := (HX5.out.set_ 0 (.slice (some ⟨gg, 0, none⟩) (k + 1) cap)).set_ 1 (.slice (some ⟨gs, 0, none⟩) (k + 1) caps)
        have hgr := only_setCell (only_setCell (World.grownBy.refl w5 (some g)) (p := ⟨g, 0, none⟩) (.inl rfl) (.slice (some ⟨gg, 0, none⟩) (k + 1) cap)) (p := ⟨g, 1, none⟩) (.inl rfl) (.slice (some ⟨gs, 0, none⟩) (k + 1) caps)
        have ho6 := HO5.out.kept hgr (.inr (own_blk_ne HO5.out HX5.out (by decide)))
        have hs6 := HS5'.out.kept hgr (.inr (own_blk_ne HS5'.out HX5.out (by decide)))
        have hb6 := (HBC.out.setCell (p := ⟨g, 0, none⟩) hge (.slice (some ⟨gg, 0, none⟩) (k + 1) cap)).setCell (p := ⟨g, 1, none⟩) hge (.slice (some ⟨gs, 0, none⟩) (k + 1) caps)
        have HT6 := Lib.hid (TwoR.mk (x := ⟨x.inflow ++ [v1'], x.seep ++ [v2'], x.start, x.soft⟩) (by simpa using hx6) ho6 hs6 HA5.out)
        have HB6 := Lib.hid hb6
        clear hx6 hgr ho6 hs6 hb6
        go_wp2_with fail
        go_roundw
        case rel => exact ⟨k + 1, _, _, _, _, _, by omega, by go_num, HT6.out, HPR.out.step HR.out HV1.out HV2.out, HB6.out⟩
        case measure => simp [intOf] <;> omega
      · obtain rfl : nI = k := by omega
        have HZ := Lib.hid (HY.out.below hbr HY.out.lt)
        have y0 := htr.box.cell 0; have y1 := htr.box.cell 1; have y2 := htr.box.cell 2; have y3 := htr.box.cell 3
        have rc := HZ.out.cell; have rf := HZ.out.frozen
        have r0 := rc 0; have r1 := rc 1; have r2 := rc 2; have r3 := rc 3
        simp at y0 y1 y2 y3 r0 r1 r2 r3
        have q0 := rf 0; have q1 := rf 1; have q2 := rf 2; have q3 := rf 3
        have hcF := own_cap htr.oF; have hcS := own_cap htr.oS
        have hWs : w.heap.size ≤ W.heap.size := HB.out.size
        have HT := Lib.hid htr; have HPR := Lib.hid hpr; have HBC := Lib.hid hbr
        clear rc rf htr hpr hbr z7 z8 HS9
        go_wp2_with fail
        have gF := own_weak (HT.out.oF.kept (grown_setCells (g := w.heap.size + 1) (xA FA nI cF SA nI cS x).toList 0 wr) (.inr (own_blk_ne HT.out.oF HZ.out (by decide)))) hWs
        have gS := own_weak (HT.out.oS.kept (grown_setCells (g := w.heap.size + 1) (xA FA nI cF SA nI cS x).toList 0 wr) (.inr (own_blk_ne HT.out.oS HZ.out (by decide)))) hWs
        have gB := below_setCells (B := w.heap.size) (g := w.heap.size + 1) (w0 := w) (by omega) (xA FA nI cF SA nI cS x).toList 0 wr (HB.out.trans (HBC.out.mono hWs))
        have hBF := blk_setCells (xA FA nI cF SA nI cS x).toList 0 wr [] _ (by simpa using HZ.out) rfl (by simp)
        simp only [xA, World.setCells, List.nil_append, Nat.reduceAdd] at hBF gF gS gB
        revert hBF gF gS gB
        generalize (World.setCell _ ⟨w.heap.size + 1, 3, none⟩ (Value.int IntKind.i64 x.soft)) = WF
        intro gF gS gB hBF
        have HG := Lib.hid (And.intro (RdX.mk (Rd.of_own enc1_len gF HPR.out.n) (Rd.of_own enc1_len gS HPR.out.m)) gB)
        have hfits : Fits l x := by
          have := HPR.out
          rw [← HIL.out] at this
          exact this.all
        clear gF gS gB
        refine bodyPost_ret (v := .agg (xA FA nI cF SA nI cS x)) (results_cell_row (g := w.heap.size + 1) Try.results49 _ _ _ _ _ _ rfl hBF Try.underlying75 rfl (by kernel_rfl)) rfl ⟨FA, cF, SA, cS, x, rfl, HG.out.1, hcF, hcS, hfits, HG.out.2⟩
end
end Go.Proofs.Ytpijmfbpdglchaa
