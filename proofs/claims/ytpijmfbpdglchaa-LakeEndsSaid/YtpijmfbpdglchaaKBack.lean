/- THE CONTRACT of the law's back: a Real after which some volume is in the lake. -/
import Derived.Test.YtpijmfbpdglchaaKBackLaw
import Derived.Test.YtpijmfbpdglchaaKRef5
import Derived.Test.YtpijmfbpdglchaaKRef4
import Derived.Test.YtpijmfbpdglchaaKAwake
namespace Go.Proofs.Ytpijmfbpdglchaa
open Go.RowKit Go.Proofs
attribute [local go_sem ↓] Go.wp_at_zero Go.wp_at_succ
theorem take_map_snoc {α β : Type} {l : List α} {f : α → β} {k : Nat} {x : α} (h : l[k]? = some x) : (l.take (k + 1)).map f = (l.take k).map f ++ [f x] := by
  rw [List.take_succ, h]; simp
theorem rch_vol {l : Lak} {ns : List Rng} (hok : LOk l) {s : Int} {h : Nat} {v : Int} (hr : Rch l ns s h v) : 0 ≤ v ∧ v ≤ 1000000 := by
  have hw := hok.weakV; have hs := hok.start
  cases h with
  | zero => have h1 := hr.1; have h2 := hr.2; omega
  | succ h =>
    obtain ⟨u, m, r', h1, h2, h3, h4, h5, h6⟩ := hr
    have := bdK_le hok
    have e : bdK l false = atI l.vols l.crest := rfl
    have : bdK l (decide (s ≤ (h : Int))) ≤ bdK l false := by cases decide (s ≤ (h : Int)) <;> first | omega | assumption
    omega
theorem low_bd {l : Lak} {ns : List Rng} (hok : LOk l) (hn : NetOk ns) {h : Nat} (hh : h ≤ ns.length) (hne : lowAt l (aftL l ns) h ≠ noneR) : 0 ≤ (lowAt l (aftL l ns) h).1 ∧ (lowAt l (aftL l ns) h).1 ≤ (lowAt l (aftL l ns) h).2 ∧ (lowAt l (aftL l ns) h).2 ≤ 1000000 := by
  have hg := (lowAt_good hok hn hh).bd hne
  have h1 := rch_vol hok ((lowAt_in hok hn hh).1 ⟨hg.2, Int.le_refl _⟩)
  exact ⟨hg.1, hg.2, h1.2⟩
theorem own_adr {w : World} {base : Nat} {e : TypeId} {size n c : Nat} {A : Option Addr} {xs : List Value} (h : w.ownsRow base e size (.slice A n c) n xs) (hn : 0 < n) : ∃ g, A = some ⟨g, 0, none⟩ ∧ base ≤ g ∧ g < w.heap.size := by
  rcases h.2 with ⟨h', h0⟩ | ⟨g', cap', cur, h', hb, hg, _⟩
  · omega
  · simp only [Value.slice.injEq] at h'
    obtain ⟨rfl, _, _⟩ := h'
    exact ⟨g', rfl, hb, (Array.getElem?_eq_some_iff.1 hg).1⟩
theorem flat1_get {F : List Int} {h : Nat} {x : Int} (hx : F[h]? = some x) : (F.flatMap enc1)[h]? = some (.int .i64 x) := by
  have := flatMap_get enc1_len F h x 0 _ hx rfl
  simpa using this
theorem flat1_set (F : List Int) (h : Nat) (i : Int) : (F.flatMap enc1).set h (.int .i64 i) = (F.set h i).flatMap enc1 := by
  induction F generalizing h with
  | nil => rfl
  | cons a F ih =>
    cases h with
    | zero => simp [enc1]
    | succ h => simpa [enc1, List.flatMap_cons] using ih h
theorem TwoR.setF {B : Nat} {w : World} {g gf : Nat} {cF : Nat} {SA : Option Addr} {cS : Nat} {k : Nat} {x : Rel} (H : TwoR B w g (some ⟨gf, 0, none⟩) cF SA cS k x) (h : Nat) (i : Int) :
    TwoR B (w.setCell ⟨gf, h, none⟩ (.int .i64 i)) g (some ⟨gf, 0, none⟩) cF SA cS k ⟨x.inflow.set h i, x.seep, x.start, x.soft⟩ := by
  have hgr := only_setCell (World.grownBy.refl w (some gf)) (p := ⟨gf, h, none⟩) (.inl rfl) (.int .i64 i)
  refine ⟨H.box.far (p := ⟨gf, h, none⟩) (fun e => own_blk_ne H.oF H.box (by decide) (by rw [e]; rfl)) _, ?_, H.oS.kept hgr (.inr (H.ap gf rfl)), H.ap⟩
  rw [← flat1_set]
  exact (H.oF.stored h (.int .i64 i)).1
theorem TwoR.setS {B : Nat} {w : World} {g gs : Nat} {cF : Nat} {FA : Option Addr} {cS : Nat} {k : Nat} {x : Rel} (H : TwoR B w g FA cF (some ⟨gs, 0, none⟩) cS k x) (h : Nat) (i : Int) :
    TwoR B (w.setCell ⟨gs, h, none⟩ (.int .i64 i)) g FA cF (some ⟨gs, 0, none⟩) cS k ⟨x.inflow, x.seep.set h i, x.start, x.soft⟩ := by
  have hgr := only_setCell (World.grownBy.refl w (some gs)) (p := ⟨gs, h, none⟩) (.inl rfl) (.int .i64 i)
  refine ⟨H.box.far (p := ⟨gs, h, none⟩) (fun e => own_blk_ne H.oS H.box (by decide) (by rw [e]; rfl)) _, H.oF.kept hgr (.inr (H.ap.symm gs rfl)), ?_, H.ap⟩
  rw [← flat1_set]
  exact (H.oS.stored h (.int .i64 i)).1
def BackP (w : World) (n : Nat) (l : Lak) (ws : List Wrk) (c : List Int) (k : Nat) (goal : Int) (e : Ending) (w' : World) : Prop :=
  ∃ FA cF SA cS x, e = .returned (.tuple #[.agg (xA FA n cF SA n cS x), .bool true]) ∧ RdX w' FA n SA n x ∧ n ≤ cF ∧ n ≤ cS ∧ Fits l x ∧ vAt ws c x (k + 1) = goal ∧ (∀ j, j ≤ k → brkB l ws c x j = false) ∧ Below w.heap.size w w'
section
variable {VA IA WA CA TA : Option Addr} {nV cV nI cI nW cW nC cC cT : Nat} {l : Lak} {ws : List Wrk} {c : List Int} {w : World} {k : Nat} {goal : Int}
set_option maxRecDepth 100000 in
set_option maxHeartbeats 8000000 in
theorem back_c (h : RdL w VA nV IA nI l) (hw : Rd encW 3 w WA nW ws) (hc : Rd enc1 1 w CA nC c) (hs : Rd encT 4 w TA nI (sttL l ws c)) (hok : LOk l) (hwk : WOk ws) (hcho : choB ws.length c = true) (hk : k < nI) (hg : Rch l (netL l ws c) l.soft.2 (k + 1) goal) :
    Calls Try.prog 48 #[.agg (lA VA nV cV IA nI cI l), .slice WA nW cW, .slice CA nC cC, .slice TA nI cT, .int .i64 k, .int .i64 goal] w (BackP w nI l ws c k goal) := by
  obtain ⟨bs, os, st0, hTA0, _⟩ := hs.atT hk
  subst hTA0
  obtain ⟨W, hW⟩ : ∃ W, W = ((w.alloc (.cells (lA VA nV cV IA nI cI l) 27)).alloc (.cells (xA none 0 0 none 0 0 ⟨[], [], 0, 0⟩) 75)) := ⟨_, rfl⟩
  have hb : Below w.heap.size w W := by rw [hW]; exact ((Below.refl _ _).alloc (Nat.le_refl _) _).alloc (by simp) _
  have hX := (Blk.new w 27 (lA VA nV cV IA nI cI l)).alloc (.cells (xA none 0 0 none 0 0 ⟨[], [], 0, 0⟩) 75)
  have hY := Blk.new (w.alloc (.cells (lA VA nV cV IA nI cI l) 27)) 75 (xA none 0 0 none 0 0 ⟨[], [], 0, 0⟩)
  simp only [World.size_alloc] at hY
  rw [← hW] at hX hY
  have hst := hok.start; have hso := hok.soft; have hse := hok.seep; have hwv := hok.weakV; have h60 := hok.h; have hil := h.infl.len
  have hnI : nI ≤ 60 := by omega
  have HB := Lib.hid hb; have HW := Lib.hid hW; have HY := Lib.hid hY; have HIL := Lib.hid hil
  have HPU := Lib.hid (fun (U : World) (hU : Below W.heap.size W U) (j : Int) => rPumped_c (cW := cW) (cC := cC) (hw.below (hb.trans (hU.mono hb.size))) (hc.below (hb.trans (hU.mono hb.size))) hwk hcho j)
  have HXL := Lib.hid (fun (U : World) (hU : Below W.heap.size W U) => blk_lA (hX.below hU hX.lt))
  have hWw : w.heap.size < W.heap.size := hX.lt
  have HH := Lib.hid (h.infl.below hb); have HST := Lib.hid (hs.below hb); have HOK := Lib.hid hok; have HWO := Lib.hid hwk; have HCO := Lib.hid hcho; have HG := Lib.hid hg; have HNK := Lib.hid (netOk hok ws c)
  clear hb hW hX hY h hw hc hs hok hil hg hwk hcho
  go_enter Try.func48, Try.ntmps48
  go_upto_region 1 with fail
  rw [← HW.out]
  obtain ⟨x0, x1, x2, x3, x4, x5, x6, x7, x8, x9⟩ := HXL.out _ (Below.refl _ _)
  go_upto_region 2 with fail
  have hBN := Blk.new W 75 (xA none 0 0 none 0 0 ⟨[], [], 0, l.soft.2⟩)
  have hBW := (Below.refl W.heap.size W).alloc (Nat.le_refl _) (.cells (xA none 0 0 none 0 0 ⟨[], [], 0, l.soft.2⟩) 75)
  obtain ⟨i0, hi0, hz0, hz1, hz2⟩ := info_parts infoInt
  have HI := Lib.hid hi0; have HZ0 := Lib.hid hz0; have HZ1 := Lib.hid hz1; have HZ2 := Lib.hid hz2
  have HT := Lib.hid (show TwoR W.heap.size _ W.heap.size none 0 none 0 0 ⟨[], [], 0, l.soft.2⟩ from ⟨hBN, World.ownsRow_nil _ _ _ _, World.ownsRow_nil _ _ _ _, Apart.none _ _ _⟩)
  have HBC := Lib.hid hBW
  obtain ⟨g, hgW⟩ : ∃ g, g = W.heap.size := ⟨_, rfl⟩
  have HGW := Lib.hid hgW
  clear hBN hBW hi0 hz0 hz1 hz2 x0 x1 x2 x3 x4 x5 x6 x7 x8 x9
  rw [show #[Value.slice none 0 0, Value.slice none 0 0, Value.int IntKind.i64 0, Value.int IntKind.i64 l.soft.2] = xA none 0 0 none 0 0 ⟨[], [], 0, l.soft.2⟩ from rfl]
  revert HT HBC
  generalize (W.alloc (Obj.cells (xA none 0 0 none 0 0 ⟨[], [], 0, l.soft.2⟩) 75)) = W2
  intro HT HBC
  rw [← hgW] at HT ⊢
  clear hgW
  obtain ⟨x0, x1, x2, x3, x4, x5, x6, x7, x8, x9⟩ := HXL.out _ HBC.out
  go_wp2_with fail
  go_loopw [15] (fun i wr => ∃ (j : Nat) (FA : Option Addr) (cF : Nat) (SA : Option Addr) (cS : Nat), j ≤ nI ∧ i = .int .i64 j ∧ TwoR g wr g FA cF SA cS j ⟨(l.inflow.take j).map (·.1), (l.inflow.take j).map (fun _ => l.seep.2), 0, l.soft.2⟩ ∧ Below W.heap.size W wr) (fun i _ => nI - (intOf i).toNat)
  case atStart => exact ⟨0, none, 0, none, 0, Nat.zero_le _, rfl, by simpa using HT.out, HBC.out⟩
  case round =>
    obtain ⟨j, FA, cF, SA, cS, hj, rfl, htr, hbr⟩ := hrel
    clear HBC HT x0 x1 x2 x3 x4 x5 x6 x7 x8 x9
    obtain ⟨z0, z1, z2, z3, z4, z5, z6, z7, z8, z9⟩ := HXL.out _ hbr
    by_cases hlt : j < nI
    · -- [A
      obtain ⟨b, o, r, hA, hbl, hr, e0, e1⟩ := HH.out.at2 hlt
      have hIA : IA = some ⟨b, o, none⟩ := hA
      have hrb := HOK.out.inflow j r hr
      have hWr := hbr.size
      have y0 := htr.box.cell 0; have y1 := htr.box.cell 1
      simp at y0 y1
      have d0 := bel_keep hbr e0; have d1 := bel_keep hbr e1
      have hgg := HGW.out
      have hn1 := htr.not_low (b := w.heap.size) (by omega); have hn2 := htr.not_low (b := b) (by omega); have hn3 := htr.not_box
      rw [hIA] at z9
      have HS5 := Lib.hid (fun (U : World) (hU : Fr (OwnB FA cF SA cS j) wr U) => show U.cell? ⟨w.heap.size, 8, none⟩ = some (.int .i64 l.seep.2) ∧ U.cell? ⟨w.heap.size, 9, none⟩ = some (.slice (some ⟨b, o, none⟩) nI cI) ∧ U.cell? ⟨b, o + j * 2, none⟩ = some (.int .i64 r.1) ∧ U.cell? ⟨g, 0, none⟩ = some (.slice FA j cF) ∧ U.cell? ⟨g, 1, none⟩ = some (.slice SA j cS) from
        ⟨fr_cell hU hn1 z8, fr_cell hU hn1 z9, fr_cell hU hn2 d0, fr_cell hU hn3 y0, fr_cell hU hn3 y1⟩)
      have HBC := Lib.hid hbr; have HT := Lib.hid htr
      have HR1 := Lib.hid (take_map_snoc (f := (·.1)) hr); have HR2 := Lib.hid (take_map_snoc (f := fun _ : Rng => l.seep.2) hr)
      have HFR := Lib.hid (Fr.refl (OwnB FA cF SA cS j) wr)
      have hkn : (j : Int) < (nI : Int) := by omega
      have hk0 : (0 : Int) ≤ (j : Int) := by omega
      have HGE := Lib.hid (show W.heap.size ≤ g by omega)
      clear hbr htr hr z0 z1 z2 z3 z4 z5 z6 z7 z8 e0 e1 d0 d1 y0 y1 hn1 hn2 hn3 hgg hA hIA
      go_upto_region 5 with fail
      clear z9
      have hXb := HT.out.box; have hXF := HT.out.oF; have hXS := HT.out.oS; have hXA := HT.out.ap
      simp only at hXF hXS
      have HX := Lib.hid hXb; have HF := Lib.hid hXF; have HS := Lib.hid hXS; have HAP := Lib.hid hXA
      obtain ⟨FL, hFL⟩ : ∃ FL, FL = (l.inflow.take j).map (·.1) := ⟨_, rfl⟩
      obtain ⟨SL, hSL⟩ : ∃ SL, SL = (l.inflow.take j).map (fun _ : Rng => l.seep.2) := ⟨_, rfl⟩
      rw [← hFL] at HX HF HR1
      rw [← hSL] at HX HS HR2
      clear hXb hXF hXS hXA HT hFL hSL
      refine wp_region_till [18] (fun U => U.cell? ⟨w.heap.size, 8, none⟩ = some (.int .i64 l.seep.2) ∧ U.cell? ⟨w.heap.size, 9, none⟩ = some (.slice (some ⟨b, o, none⟩) nI cI) ∧ U.cell? ⟨b, o + j * 2, none⟩ = some (.int .i64 r.1) ∧ U.cell? ⟨g, 0, none⟩ = some (.slice FA j cF) ∧ U.cell? ⟨g, 1, none⟩ = some (.slice SA j cS)) (by kernel_rfl) (by exact HS5.out wr.drew (HFR.out.more ((Below.refl wr.heap.size wr).drew))) (fun hHeld => ?_)
      have hb9 := (Below.refl wr.heap.size wr).drew
      have t0 := below_tr HBC.out hb9; have t1 := HFR.out.more hb9; have t2 := HX.out.below hb9 HX.out.lt; have t3 := own_mono HF.out hb9; have t4 := own_mono HS.out hb9
      clear HBC HFR HX HF HS
      have HBC := Lib.hid t0; have HFR := Lib.hid t1; have HX := Lib.hid t2; have HF := Lib.hid t3; have HS := Lib.hid t4
      clear t0 t1 t2 t3 t4
      clear hb9
      revert hHeld HBC HFR HX HF HS
      generalize wr.drew = w0
      intro hHeld HBC HFR HX HF HS
      (refine wpAnyL_take (n := 0) (i := 0) (oi := ?ox1) (v := ?vx1) ?hix1 ?k1x1 ?k2x1 ?k3x1 ?k4x1 ?k5x1 ?k6x1 ?hQx1 ?hYx1 ?hSx1 ?restx1; (case hix1 => (simp only [List.getElem?_toArray, List.getElem?_cons_succ, List.getElem?_cons_zero]; exact rfl)); (case k1x1 => kernel_rfl); (case k2x1 => kernel_rfl); (case k3x1 => kernel_rfl); (case k4x1 => kernel_rfl); (case k5x1 => kernel_rfl); (case k6x1 => kernel_rfl); (case hSx1 => assumption); (case hYx1 => (refine Or.inl ⟨rfl, ?hyx1⟩; intro w hSw; (try dsimp only at hSw); go_simp; (try with_reducible rfl))); (case hQx1 => exact (fun _ _ _ h => h)); (try simp only [Act.put, List.setIfInBounds_toArray, List.set_cons_zero, List.set_cons_succ]))
      (refine wpAnyL_take (n := 0) (i := 1) (oi := ?ox2) (v := ?vx2) ?hix2 ?k1x2 ?k2x2 ?k3x2 ?k4x2 ?k5x2 ?k6x2 ?hQx2 ?hYx2 ?hSx2 ?restx2; (case hix2 => (simp only [List.getElem?_toArray, List.getElem?_cons_succ, List.getElem?_cons_zero]; exact rfl)); (case k1x2 => kernel_rfl); (case k2x2 => kernel_rfl); (case k3x2 => kernel_rfl); (case k4x2 => kernel_rfl); (case k5x2 => kernel_rfl); (case k6x2 => kernel_rfl); (case hSx2 => assumption); (case hYx2 => (refine Or.inl ⟨rfl, ?hyx2⟩; intro w hSw; (try dsimp only at hSw); go_simp; (try with_reducible rfl))); (case hQx2 => exact (fun _ _ _ h => h)); (try simp only [Act.put, List.setIfInBounds_toArray, List.set_cons_zero, List.set_cons_succ]))
      (refine wpAnyL_take (n := 0) (i := 2) (oi := ?ox3) (v := ?vx3) ?hix3 ?k1x3 ?k2x3 ?k3x3 ?k4x3 ?k5x3 ?k6x3 ?hQx3 ?hYx3 ?hSx3 ?restx3; (case hix3 => (simp only [List.getElem?_toArray, List.getElem?_cons_succ, List.getElem?_cons_zero]; exact rfl)); (case k1x3 => kernel_rfl); (case k2x3 => kernel_rfl); (case k3x3 => kernel_rfl); (case k4x3 => kernel_rfl); (case k5x3 => kernel_rfl); (case k6x3 => kernel_rfl); (case hSx3 => assumption); (case hYx3 => (refine Or.inl ⟨rfl, ?hyx3⟩; intro w hSw; (try dsimp only at hSw); go_simp; (try with_reducible rfl))); (case hQx3 => exact (fun _ _ _ h => h)); (try simp only [Act.put, List.setIfInBounds_toArray, List.set_cons_zero, List.set_cons_succ]))
      (refine wpAnyL_take (n := 0) (i := 3) (oi := ?ox4) (v := ?vx4) ?hix4 ?k1x4 ?k2x4 ?k3x4 ?k4x4 ?k5x4 ?k6x4 ?hQx4 ?hYx4 ?hSx4 ?restx4; (case hix4 => (simp only [List.getElem?_toArray, List.getElem?_cons_succ, List.getElem?_cons_zero]; exact rfl)); (case k1x4 => kernel_rfl); (case k2x4 => kernel_rfl); (case k3x4 => kernel_rfl); (case k4x4 => kernel_rfl); (case k5x4 => kernel_rfl); (case k6x4 => kernel_rfl); (case hSx4 => assumption); (case hYx4 => (refine Or.inl ⟨rfl, ?hyx4⟩; intro w hSw; (try dsimp only at hSw); go_simp; (try with_reducible rfl))); (case hQx4 => exact (fun _ _ _ h => h)); (try simp only [Act.put, List.setIfInBounds_toArray, List.set_cons_zero, List.set_cons_succ]))
      (refine wpAnyL_take (n := 0) (i := 4) (oi := ?ox5) (v := ?vx5) ?hix5 ?k1x5 ?k2x5 ?k3x5 ?k4x5 ?k5x5 ?k6x5 ?hQx5 ?hYx5 ?hSx5 ?restx5; (case hix5 => (simp only [List.getElem?_toArray, List.getElem?_cons_succ, List.getElem?_cons_zero]; exact rfl)); (case k1x5 => kernel_rfl); (case k2x5 => kernel_rfl); (case k3x5 => kernel_rfl); (case k4x5 => kernel_rfl); (case k5x5 => kernel_rfl); (case k6x5 => kernel_rfl); (case hSx5 => assumption); (case hYx5 => (refine Or.inl ⟨rfl, ?hyx5⟩; intro w hSw; (try dsimp only at hSw); go_simp; (try with_reducible rfl))); (case hQx5 => exact (fun _ _ _ h => h)); (try simp only [Act.put, List.setIfInBounds_toArray, List.set_cons_zero, List.set_cons_succ]))
      (refine wpAnyL_take (n := 0) (i := 5) (oi := ?ox6) (v := ?vx6) ?hix6 ?k1x6 ?k2x6 ?k3x6 ?k4x6 ?k5x6 ?k6x6 ?hQx6 ?hYx6 ?hSx6 ?restx6; (case hix6 => (simp only [List.getElem?_toArray, List.getElem?_cons_succ, List.getElem?_cons_zero]; exact rfl)); (case k1x6 => kernel_rfl); (case k2x6 => kernel_rfl); (case k3x6 => kernel_rfl); (case k4x6 => kernel_rfl); (case k5x6 => kernel_rfl); (case k6x6 => kernel_rfl); (case hSx6 => assumption); (case hYx6 => (refine Or.inl ⟨rfl, ?hyx6⟩; intro w hSw; (try dsimp only at hSw); go_simp; (try with_reducible rfl))); (case hQx6 => exact (fun _ _ _ h => h)); (try simp only [Act.put, List.setIfInBounds_toArray, List.set_cons_zero, List.set_cons_succ]))
      (refine wpAnyL_take (n := 0) (i := 6) (oi := ?ox7) (v := ?vx7) ?hix7 ?k1x7 ?k2x7 ?k3x7 ?k4x7 ?k5x7 ?k6x7 ?hQx7 ?hYx7 ?hSx7 ?restx7; (case hix7 => (simp only [List.getElem?_toArray, List.getElem?_cons_succ, List.getElem?_cons_zero]; exact rfl)); (case k1x7 => kernel_rfl); (case k2x7 => kernel_rfl); (case k3x7 => kernel_rfl); (case k4x7 => kernel_rfl); (case k5x7 => kernel_rfl); (case k6x7 => kernel_rfl); (case hSx7 => assumption); (case hYx7 => (refine Or.inl ⟨rfl, ?hyx7⟩; intro w hSw; (try dsimp only at hSw); go_simp; (try with_reducible rfl))); (case hQx7 => exact (fun _ _ _ h => h)); (try simp only [Act.put, List.setIfInBounds_toArray, List.set_cons_zero, List.set_cons_succ]))
      (refine wpAnyL_take (n := 0) (i := 7) (oi := ?ox8) (v := ?vx8) ?hix8 ?k1x8 ?k2x8 ?k3x8 ?k4x8 ?k5x8 ?k6x8 ?hQx8 ?hYx8 ?hSx8 ?restx8; (case hix8 => (simp only [List.getElem?_toArray, List.getElem?_cons_succ, List.getElem?_cons_zero]; exact rfl)); (case k1x8 => kernel_rfl); (case k2x8 => kernel_rfl); (case k3x8 => kernel_rfl); (case k4x8 => kernel_rfl); (case k5x8 => kernel_rfl); (case k6x8 => kernel_rfl); (case hSx8 => assumption); (case hYx8 => (refine Or.inl ⟨rfl, ?hyx8⟩; intro w hSw; (try dsimp only at hSw); go_simp; (try with_reducible rfl))); (case hQx8 => exact (fun _ _ _ h => h)); (try simp only [Act.put, List.setIfInBounds_toArray, List.set_cons_zero, List.set_cons_succ]))
      (refine wpAnyL_take (n := 0) (i := 10) (oi := ?ox9) (v := ?vx9) ?hix9 ?k1x9 ?k2x9 ?k3x9 ?k4x9 ?k5x9 ?k6x9 ?hQx9 ?hYx9 ?hSx9 ?restx9; (case hix9 => (simp only [List.getElem?_toArray, List.getElem?_cons_succ, List.getElem?_cons_zero]; exact rfl)); (case k1x9 => kernel_rfl); (case k2x9 => kernel_rfl); (case k3x9 => kernel_rfl); (case k4x9 => kernel_rfl); (case k5x9 => kernel_rfl); (case k6x9 => kernel_rfl); (case hSx9 => assumption); (case hYx9 => (refine Or.inl ⟨rfl, ?hyx9⟩; intro w hSw; (try dsimp only at hSw); go_simp; (try with_reducible rfl))); (case hQx9 => exact (fun _ _ _ h => h)); (try simp only [Act.put, List.setIfInBounds_toArray, List.set_cons_zero, List.set_cons_succ]))
      (refine wpAnyL_take (n := 0) (i := 11) (oi := ?ox10) (v := ?vx10) ?hix10 ?k1x10 ?k2x10 ?k3x10 ?k4x10 ?k5x10 ?k6x10 ?hQx10 ?hYx10 ?hSx10 ?restx10; (case hix10 => (simp only [List.getElem?_toArray, List.getElem?_cons_succ, List.getElem?_cons_zero]; exact rfl)); (case k1x10 => kernel_rfl); (case k2x10 => kernel_rfl); (case k3x10 => kernel_rfl); (case k4x10 => kernel_rfl); (case k5x10 => kernel_rfl); (case k6x10 => kernel_rfl); (case hSx10 => assumption); (case hYx10 => (refine Or.inl ⟨rfl, ?hyx10⟩; intro w hSw; (try dsimp only at hSw); go_simp; (try with_reducible rfl))); (case hQx10 => exact (fun _ _ _ h => h)); (try simp only [Act.put, List.setIfInBounds_toArray, List.set_cons_zero, List.set_cons_succ]))
      (refine wpAnyL_take (n := 4) (i := 12) (oi := ?ox11) (v := ?vx11) ?hix11 ?k1x11 ?k2x11 ?k3x11 ?k4x11 ?k5x11 ?k6x11 ?hQx11 ?hYx11 ?hSx11 ?restx11; (case hix11 => (simp only [List.getElem?_toArray, List.getElem?_cons_succ, List.getElem?_cons_zero]; exact rfl)); (case k1x11 => kernel_rfl); (case k2x11 => kernel_rfl); (case k3x11 => kernel_rfl); (case k4x11 => kernel_rfl); (case k5x11 => kernel_rfl); (case k6x11 => kernel_rfl); (case hSx11 => assumption); (case hYx11 => (refine Or.inl ⟨rfl, ?hyx11⟩; intro w hSw; (try dsimp only at hSw); go_simp; (try with_reducible rfl))); (case hQx11 => exact (fun _ _ _ h => h)); (try simp only [Act.put, List.setIfInBounds_toArray, List.set_cons_zero, List.set_cons_succ]))
      (refine wpAnyL_take (n := 3) (i := 13) (oi := ?ox12) (v := ?vx12) ?hix12 ?k1x12 ?k2x12 ?k3x12 ?k4x12 ?k5x12 ?k6x12 ?hQx12 ?hYx12 ?hSx12 ?restx12; (case hix12 => (simp only [List.getElem?_toArray, List.getElem?_cons_succ, List.getElem?_cons_zero]; exact rfl)); (case k1x12 => kernel_rfl); (case k2x12 => kernel_rfl); (case k3x12 => kernel_rfl); (case k4x12 => kernel_rfl); (case k5x12 => kernel_rfl); (case k6x12 => kernel_rfl); (case hSx12 => assumption); (case hYx12 => (refine Or.inl ⟨rfl, ?hyx12⟩; intro w hSw; (try dsimp only at hSw); go_simp; (try with_reducible rfl))); (case hQx12 => exact (fun _ _ _ h => h)); (try simp only [Act.put, List.setIfInBounds_toArray, List.set_cons_zero, List.set_cons_succ]))
      (refine wpAnyL_take (n := 2) (i := 14) (oi := ?ox13) (v := ?vx13) ?hix13 ?k1x13 ?k2x13 ?k3x13 ?k4x13 ?k5x13 ?k6x13 ?hQx13 ?hYx13 ?hSx13 ?restx13; (case hix13 => (simp only [List.getElem?_toArray, List.getElem?_cons_succ, List.getElem?_cons_zero]; exact rfl)); (case k1x13 => kernel_rfl); (case k2x13 => kernel_rfl); (case k3x13 => kernel_rfl); (case k4x13 => kernel_rfl); (case k5x13 => kernel_rfl); (case k6x13 => kernel_rfl); (case hSx13 => assumption); (case hYx13 => (refine Or.inl ⟨rfl, ?hyx13⟩; intro w hSw; (try dsimp only at hSw); go_simp; (try with_reducible rfl))); (case hQx13 => exact (fun _ _ _ h => h)); (try simp only [Act.put, List.setIfInBounds_toArray, List.set_cons_zero, List.set_cons_succ]))
      refine wpAnyL_ready (rs := [8, 15]) (by kernel_rfl) (by simp) ?_
      refine AllReadyL.cons (o := ?o8x14) ?hi8x14 (fun K hK => ?_) (AllReadyL.cons (o := ?o15x14) ?hi15x14 (fun K hK => ?_) AllReadyL.nil)
      (case hi8x14 => (simp only [List.getElem?_toArray, List.getElem?_cons_succ, List.getElem?_cons_zero]; exact rfl))
      (case hi15x14 => (simp only [List.getElem?_toArray, List.getElem?_cons_succ, List.getElem?_cons_zero]; exact rfl))
      · skip
        go_simp
        have hal := (Below.refl w0.heap.size w0).alloc (Nat.le_refl _) (.cells #[.int .i64 r.1] 3)
        have hn := Blk.new w0 3 #[.int .i64 r.1]
        have t0 := below_tr HBC.out hal; have t1 := HFR.out.more hal; have t2 := HX.out.below hal HX.out.lt; have t3 := own_mono HF.out hal; have t4 := own_mono HS.out hal
        clear HBC HFR HX HF HS
        have HBC := Lib.hid t0; have HFR := Lib.hid t1; have HX := Lib.hid t2; have HF := Lib.hid t3; have HS := Lib.hid t4
        clear t0 t1 t2 t3 t4
        have HA8 := Lib.hid hn
        clear hal hn
        (try clear hHeld)
        refine hK.out _ _ (by (try dsimp only); exact HS5.out _ HFR.out) (fun hHeld => ?_)
        clear hK K
        (try simp only [Act.put, List.setIfInBounds_toArray, List.set_cons_zero, List.set_cons_succ])
        revert hHeld HBC HFR HX HF HS HA8
        generalize hgA : w0.heap.size = gA
        generalize (World.alloc w0 (.cells #[.int .i64 r.1] 3)) = w0
        intro HBC HFR HX HF HS HA8 hHeld
        clear hgA
        refine wpAnyL_ready (rs := [9, 15]) (by kernel_rfl) (by simp) ?_
        refine AllReadyL.cons (o := ?o9x15) ?hi9x15 (fun K hK => ?_) (AllReadyL.cons (o := ?o15x15) ?hi15x15 (fun K hK => ?_) AllReadyL.nil)
        (case hi9x15 => (simp only [List.getElem?_toArray, List.getElem?_cons_succ, List.getElem?_cons_zero]; exact rfl))
        (case hi15x15 => (simp only [List.getElem?_toArray, List.getElem?_cons_succ, List.getElem?_cons_zero]; exact rfl))
        · skip
          refine step_append_lies _ (by rfl) _ _ _ (by rfl) g 3 i0 _ 1 8 Try.underlying22 HI.out HZ0.out HZ1.out HZ2.out rfl (by omega) _ j (FL.flatMap enc1) (by rfl) HF.out ⟨gA, 0, none⟩ 1 1 [.int .i64 r.1] (by rfl) (by rfl) (World.news_of_block (cs := #[.int .i64 r.1]) (t := 3) (fr := (0, 0)) HA8.out) (by simp [Value.oneCell']) (by omega) (by unfold maxLen; omega) (by omega) (by have := HX.out.lt; omega) _ rfl ?_
          intro gF capF w3 hown3 hgrow hat hlt3
          have hge1 := HBC.out.size
          have hoS3 := HS.out.kept hgrow (by
            cases hq : (Value.slice SA j cS).ownBlock with
            | none => exact .inl rfl
            | some z => exact .inr fun e => HAP.out z e.symm hq)
          have hbx3 := HX.out.grown hgrow (fun e => own_blk_ne HF.out HX.out (by decide) e.symm)
          have hap3 := HAP.out.grow (n' := j + 1) (c := capF) (gg := gF) HS.out (hat.imp id fun e => by omega)
          have hb0 := HBC.out.grown hgrow hge1 (fun z hz => (by have := (HF.out.lt z hz).1; have := HGE.out; omega))
          have hf0 := HFR.out.step hgrow (fun z hz => .inl (.inl hz))
          have ho3 : w3.ownsRow g 3 1 (.slice (some ⟨gF, 0, none⟩) (j + 1) capF) (j + 1) ((FL ++ [r.1]).flatMap enc1) := by
            rw [List.flatMap_append]; simpa [enc1] using hown3
          (first | (have hac := HA15.out.grown hgrow (fun e => HNF.out _ e.symm rfl); clear HA15; have HA15 := Lib.hid hac; clear hac HNF) | skip)
          clear HBC HFR HF HS HX HAP
          clear HA8
          have HBC := Lib.hid hb0; have HFR := Lib.hid hf0; have HF := Lib.hid ho3; have HS := Lib.hid hoS3; have HX := Lib.hid hbx3; have HAP := Lib.hid hap3
          clear hge1 hoS3 hbx3 hap3 hb0 hf0 ho3 hown3 hgrow hat hlt3
          (try clear hHeld)
          refine hK.out _ _ (by (try dsimp only); exact HS5.out _ HFR.out) (fun hHeld => ?_)
          clear hK K
          (try simp only [Act.put, List.setIfInBounds_toArray, List.set_cons_zero, List.set_cons_succ])
          (refine wpAnyL_take (n := 0) (i := 17) (oi := ?ox16) (v := ?vx16) ?hix16 ?k1x16 ?k2x16 ?k3x16 ?k4x16 ?k5x16 ?k6x16 ?hQx16 ?hYx16 ?hSx16 ?restx16; (case hix16 => (simp only [List.getElem?_toArray, List.getElem?_cons_succ, List.getElem?_cons_zero]; exact rfl)); (case k1x16 => kernel_rfl); (case k2x16 => kernel_rfl); (case k3x16 => kernel_rfl); (case k4x16 => kernel_rfl); (case k5x16 => kernel_rfl); (case k6x16 => kernel_rfl); (case hSx16 => assumption); (case hYx16 => (refine Or.inl ⟨rfl, ?hyx16⟩; intro w hSw; (try dsimp only at hSw); go_simp; (try with_reducible rfl))); (case hQx16 => exact (fun _ _ _ h => h)); (try simp only [Act.put, List.setIfInBounds_toArray, List.set_cons_zero, List.set_cons_succ]))
          refine wpAnyL_ready (rs := [15]) (by kernel_rfl) (by simp) ?_
          refine AllReadyL.cons (o := ?o15x17) ?hi15x17 (fun K hK => ?_) AllReadyL.nil
          (case hi15x17 => (simp only [List.getElem?_toArray, List.getElem?_cons_succ, List.getElem?_cons_zero]; exact rfl))
          go_simp
          have hal := (Below.refl w3.heap.size w3).alloc (Nat.le_refl _) (.cells #[.int .i64 l.seep.2] 3)
          have hn := Blk.new w3 3 #[.int .i64 l.seep.2]
          have hnf := fun z hz => Nat.ne_of_lt (own_block_lt HF.out (g := z) hz)
          have t0 := below_tr HBC.out hal; have t1 := HFR.out.more hal; have t2 := HX.out.below hal HX.out.lt; have t3 := own_mono HF.out hal; have t4 := own_mono HS.out hal
          clear HBC HFR HX HF HS
          have HBC := Lib.hid t0; have HFR := Lib.hid t1; have HX := Lib.hid t2; have HF := Lib.hid t3; have HS := Lib.hid t4
          clear t0 t1 t2 t3 t4
          have HA15 := Lib.hid hn
          clear hal hn
          (try clear hHeld)
          refine hK.out _ _ (by (try dsimp only); exact HS5.out _ HFR.out) (fun hHeld => ?_)
          clear hK K
          (try simp only [Act.put, List.setIfInBounds_toArray, List.set_cons_zero, List.set_cons_succ])
          revert hHeld HBC HFR HX HF HS HA15
          generalize hgC : w3.heap.size = gC
          generalize (World.alloc w3 (.cells #[.int .i64 l.seep.2] 3)) = w0
          intro HBC HFR HX HF HS HA15 hHeld
          have HNF := Lib.hid (fun z hz => hgC ▸ hnf z hz)
          clear hgC hnf
          refine wpAnyL_ready (rs := [16]) (by kernel_rfl) (by simp) ?_
          refine AllReadyL.cons (o := ?o16x18) ?hi16x18 (fun K hK => ?_) AllReadyL.nil
          (case hi16x18 => (simp only [List.getElem?_toArray, List.getElem?_cons_succ, List.getElem?_cons_zero]; exact rfl))
          refine step_append_lies _ (by rfl) _ _ _ (by rfl) g 3 i0 _ 1 8 Try.underlying22 HI.out HZ0.out HZ1.out HZ2.out rfl (by omega) _ j (SL.flatMap enc1) (by rfl) HS.out ⟨gC, 0, none⟩ 1 1 [.int .i64 l.seep.2] (by rfl) (by rfl) (World.news_of_block (cs := #[.int .i64 l.seep.2]) (t := 3) (fr := (0, 0)) HA15.out) (by simp [Value.oneCell']) (by omega) (by unfold maxLen; omega) (by omega) (by have := HX.out.lt; omega) _ rfl ?_
          intro gs caps w5 hown5 hgrow hat hlt5
          have hge1 := HBC.out.size
          have hoF5 := HF.out.kept hgrow (by
            cases hq : (Value.slice (some ⟨gF, 0, none⟩) (j + 1) capF).ownBlock with
            | none => exact .inl rfl
            | some z => exact .inr fun e => HAP.out z hq e.symm)
          have hbx5 := HX.out.grown hgrow (fun e => own_blk_ne HS.out HX.out (by decide) e.symm)
          have hap5 := (HAP.out.symm.grow (n' := j + 1) (c := caps) (gg := gs) HF.out (hat.imp id fun e => by omega)).symm
          have hb0 := HBC.out.grown hgrow hge1 (fun z hz => (by have := (HS.out.lt z hz).1; have := HGE.out; omega))
          have hf0 := HFR.out.step hgrow (fun z hz => .inl (.inr hz))
          have ho5 : w5.ownsRow g 3 1 (.slice (some ⟨gs, 0, none⟩) (j + 1) caps) (j + 1) ((SL ++ [l.seep.2]).flatMap enc1) := by
            rw [List.flatMap_append]; simpa [enc1] using hown5
          clear HBC HFR HF HS HX HAP
          clear HA15
          have HBC := Lib.hid hb0; have HFR := Lib.hid hf0; have HF := Lib.hid hoF5; have HS := Lib.hid ho5; have HX := Lib.hid hbx5; have HAP := Lib.hid hap5
          clear hge1 hoF5 hbx5 hap5 hb0 hf0 ho5 hown5 hgrow hat hlt5
          (try clear hHeld)
          refine hK.out _ _ (by (try dsimp only); exact HS5.out _ HFR.out) (fun hHeld => ?_)
          clear hK K
          (try simp only [Act.put, List.setIfInBounds_toArray, List.set_cons_zero, List.set_cons_succ])
          refine wpAnyL_ready (rs := [18]) (by kernel_rfl) (by simp) ?_
          refine AllReadyL.last (o := ?o18x19) ?hi18x19 ?he18x19 (fun K hK => ?_) AllReadyL.nil
          (case hi18x19 => (simp only [List.getElem?_toArray, List.getElem?_cons_succ, List.getElem?_cons_zero]; exact rfl))
          (case he18x19 => kernel_rfl)
          have s0 := HX.out.cell 0; have f0 := HX.out.frozen 0
          have s1 := HX.out.cell 1; have f1 := HX.out.frozen 1
          simp at s0 s1
          go_simp
          (try clear hHeld)
          refine hK.out _ _ ?_
          clear hK K
          (try simp only [Act.put, List.setIfInBounds_toArray, List.set_cons_zero, List.set_cons_succ])
          (refine wpAnyL_free (i := 19) (oi := ?ox20) (v := ?vx20) ?hix20 ?k1x20 ?k2x20 ?k3x20 ?k4x20 ?k5x20 ?hQx20 ?hYx20 ?restx20; (case hix20 => (simp only [List.getElem?_toArray, List.getElem?_cons_succ, List.getElem?_cons_zero]; exact rfl)); (case k1x20 => kernel_rfl); (case k2x20 => kernel_rfl); (case k3x20 => kernel_rfl); (case k4x20 => kernel_rfl); (case k5x20 => kernel_rfl); (case hYx20 => (refine Or.inl ⟨rfl, ?hyx20⟩; intro w hSw; (try dsimp only at hSw); go_simp; (try with_reducible rfl))); (case hQx20 => exact (fun _ _ _ h => h)); (try simp only [Act.put, List.setIfInBounds_toArray, List.set_cons_zero, List.set_cons_succ]))
          refine wpAnyL_ready (rs := [20]) (by kernel_rfl) (by simp) ?_
          refine AllReadyL.last (o := ?o20x21) ?hi20x21 ?he20x21 (fun K hK => ?_) AllReadyL.nil
          (case hi20x21 => (simp only [List.getElem?_toArray, List.getElem?_cons_succ, List.getElem?_cons_zero]; exact rfl))
          (case he20x21 => kernel_rfl)
          go_simp
          (try clear hHeld)
          refine hK.out _ _ ?_
          clear hK K
          (try simp only [Act.put, List.setIfInBounds_toArray, List.set_cons_zero, List.set_cons_succ])
          (refine wpAnyL_done (by kernel_rfl) ?_ _)
          have hx6 := (HX.out.set_ 0 (.slice (some ⟨gF, 0, none⟩) (j + 1) capF)).set_ 1 (.slice (some ⟨gs, 0, none⟩) (j + 1) caps)
          have hgr := only_setCell (only_setCell (World.grownBy.refl w5 (some g)) (p := ⟨g, 0, none⟩) (.inl rfl) (.slice (some ⟨gF, 0, none⟩) (j + 1) capF)) (p := ⟨g, 1, none⟩) (.inl rfl) (.slice (some ⟨gs, 0, none⟩) (j + 1) caps)
          have ho6 := HF.out.kept hgr (.inr (own_blk_ne HF.out HX.out (by decide)))
          have hs6 := HS.out.kept hgr (.inr (own_blk_ne HS.out HX.out (by decide)))
          have hge := HGE.out
          have hb6 := (HBC.out.setCell (p := ⟨g, 0, none⟩) hge (.slice (some ⟨gF, 0, none⟩) (j + 1) capF)).setCell (p := ⟨g, 1, none⟩) hge (.slice (some ⟨gs, 0, none⟩) (j + 1) caps)
          have HT6 := Lib.hid (TwoR.mk (x := ⟨FL ++ [r.1], SL ++ [l.seep.2], 0, l.soft.2⟩) (by simpa using hx6) ho6 hs6 HAP.out)
          have HB6 := Lib.hid hb6
          clear hx6 hgr ho6 hs6 hb6
          go_wp2_with fail
          go_roundw
          case rel => exact ⟨j + 1, _, _, _, _, by omega, by go_num, by rw [HR1.out, HR2.out]; exact HT6.out, HB6.out⟩
          case measure => simp [intOf] <;> omega
        · skip
          go_simp
          have hal := (Below.refl w0.heap.size w0).alloc (Nat.le_refl _) (.cells #[.int .i64 l.seep.2] 3)
          have hn := Blk.new w0 3 #[.int .i64 l.seep.2]
          have hnf := fun z hz => Nat.ne_of_lt (own_block_lt HF.out (g := z) hz)
          have t0 := below_tr HBC.out hal; have t1 := HFR.out.more hal; have t2 := HX.out.below hal HX.out.lt; have t3 := own_mono HF.out hal; have t4 := own_mono HS.out hal; have t5 := HA8.out.below hal HA8.out.lt
          clear HBC HFR HX HF HS HA8
          have HBC := Lib.hid t0; have HFR := Lib.hid t1; have HX := Lib.hid t2; have HF := Lib.hid t3; have HS := Lib.hid t4; have HA8 := Lib.hid t5
          clear t0 t1 t2 t3 t4 t5
          have HA15 := Lib.hid hn
          clear hal hn
          (try clear hHeld)
          refine hK.out _ _ (by (try dsimp only); exact HS5.out _ HFR.out) (fun hHeld => ?_)
          clear hK K
          (try simp only [Act.put, List.setIfInBounds_toArray, List.set_cons_zero, List.set_cons_succ])
          revert hHeld HBC HFR HX HF HS HA8 HA15
          generalize hgC : w0.heap.size = gC
          generalize (World.alloc w0 (.cells #[.int .i64 l.seep.2] 3)) = w0
          intro HBC HFR HX HF HS HA8 HA15 hHeld
          have HNF := Lib.hid (fun z hz => hgC ▸ hnf z hz)
          clear hgC hnf
          refine wpAnyL_ready (rs := [9]) (by kernel_rfl) (by simp) ?_
          refine AllReadyL.cons (o := ?o9x22) ?hi9x22 (fun K hK => ?_) AllReadyL.nil
          (case hi9x22 => (simp only [List.getElem?_toArray, List.getElem?_cons_succ, List.getElem?_cons_zero]; exact rfl))
          refine step_append_lies _ (by rfl) _ _ _ (by rfl) g 3 i0 _ 1 8 Try.underlying22 HI.out HZ0.out HZ1.out HZ2.out rfl (by omega) _ j (FL.flatMap enc1) (by rfl) HF.out ⟨gA, 0, none⟩ 1 1 [.int .i64 r.1] (by rfl) (by rfl) (World.news_of_block (cs := #[.int .i64 r.1]) (t := 3) (fr := (0, 0)) HA8.out) (by simp [Value.oneCell']) (by omega) (by unfold maxLen; omega) (by omega) (by have := HX.out.lt; omega) _ rfl ?_
          intro gF capF w3 hown3 hgrow hat hlt3
          have hge1 := HBC.out.size
          have hoS3 := HS.out.kept hgrow (by
            cases hq : (Value.slice SA j cS).ownBlock with
            | none => exact .inl rfl
            | some z => exact .inr fun e => HAP.out z e.symm hq)
          have hbx3 := HX.out.grown hgrow (fun e => own_blk_ne HF.out HX.out (by decide) e.symm)
          have hap3 := HAP.out.grow (n' := j + 1) (c := capF) (gg := gF) HS.out (hat.imp id fun e => by omega)
          have hb0 := HBC.out.grown hgrow hge1 (fun z hz => (by have := (HF.out.lt z hz).1; have := HGE.out; omega))
          have hf0 := HFR.out.step hgrow (fun z hz => .inl (.inl hz))
          have ho3 : w3.ownsRow g 3 1 (.slice (some ⟨gF, 0, none⟩) (j + 1) capF) (j + 1) ((FL ++ [r.1]).flatMap enc1) := by
            rw [List.flatMap_append]; simpa [enc1] using hown3
          (first | (have hac := HA15.out.grown hgrow (fun e => HNF.out _ e.symm rfl); clear HA15; have HA15 := Lib.hid hac; clear hac HNF) | skip)
          clear HBC HFR HF HS HX HAP
          clear HA8
          have HBC := Lib.hid hb0; have HFR := Lib.hid hf0; have HF := Lib.hid ho3; have HS := Lib.hid hoS3; have HX := Lib.hid hbx3; have HAP := Lib.hid hap3
          clear hge1 hoS3 hbx3 hap3 hb0 hf0 ho3 hown3 hgrow hat hlt3
          (try clear hHeld)
          refine hK.out _ _ (by (try dsimp only); exact HS5.out _ HFR.out) (fun hHeld => ?_)
          clear hK K
          (try simp only [Act.put, List.setIfInBounds_toArray, List.set_cons_zero, List.set_cons_succ])
          (refine wpAnyL_take (n := 0) (i := 17) (oi := ?ox23) (v := ?vx23) ?hix23 ?k1x23 ?k2x23 ?k3x23 ?k4x23 ?k5x23 ?k6x23 ?hQx23 ?hYx23 ?hSx23 ?restx23; (case hix23 => (simp only [List.getElem?_toArray, List.getElem?_cons_succ, List.getElem?_cons_zero]; exact rfl)); (case k1x23 => kernel_rfl); (case k2x23 => kernel_rfl); (case k3x23 => kernel_rfl); (case k4x23 => kernel_rfl); (case k5x23 => kernel_rfl); (case k6x23 => kernel_rfl); (case hSx23 => assumption); (case hYx23 => (refine Or.inl ⟨rfl, ?hyx23⟩; intro w hSw; (try dsimp only at hSw); go_simp; (try with_reducible rfl))); (case hQx23 => exact (fun _ _ _ h => h)); (try simp only [Act.put, List.setIfInBounds_toArray, List.set_cons_zero, List.set_cons_succ]))
          refine wpAnyL_ready (rs := [16]) (by kernel_rfl) (by simp) ?_
          refine AllReadyL.cons (o := ?o16x24) ?hi16x24 (fun K hK => ?_) AllReadyL.nil
          (case hi16x24 => (simp only [List.getElem?_toArray, List.getElem?_cons_succ, List.getElem?_cons_zero]; exact rfl))
          refine step_append_lies _ (by rfl) _ _ _ (by rfl) g 3 i0 _ 1 8 Try.underlying22 HI.out HZ0.out HZ1.out HZ2.out rfl (by omega) _ j (SL.flatMap enc1) (by rfl) HS.out ⟨gC, 0, none⟩ 1 1 [.int .i64 l.seep.2] (by rfl) (by rfl) (World.news_of_block (cs := #[.int .i64 l.seep.2]) (t := 3) (fr := (0, 0)) HA15.out) (by simp [Value.oneCell']) (by omega) (by unfold maxLen; omega) (by omega) (by have := HX.out.lt; omega) _ rfl ?_
          intro gs caps w5 hown5 hgrow hat hlt5
          have hge1 := HBC.out.size
          have hoF5 := HF.out.kept hgrow (by
            cases hq : (Value.slice (some ⟨gF, 0, none⟩) (j + 1) capF).ownBlock with
            | none => exact .inl rfl
            | some z => exact .inr fun e => HAP.out z hq e.symm)
          have hbx5 := HX.out.grown hgrow (fun e => own_blk_ne HS.out HX.out (by decide) e.symm)
          have hap5 := (HAP.out.symm.grow (n' := j + 1) (c := caps) (gg := gs) HF.out (hat.imp id fun e => by omega)).symm
          have hb0 := HBC.out.grown hgrow hge1 (fun z hz => (by have := (HS.out.lt z hz).1; have := HGE.out; omega))
          have hf0 := HFR.out.step hgrow (fun z hz => .inl (.inr hz))
          have ho5 : w5.ownsRow g 3 1 (.slice (some ⟨gs, 0, none⟩) (j + 1) caps) (j + 1) ((SL ++ [l.seep.2]).flatMap enc1) := by
            rw [List.flatMap_append]; simpa [enc1] using hown5
          clear HBC HFR HF HS HX HAP
          clear HA15
          have HBC := Lib.hid hb0; have HFR := Lib.hid hf0; have HF := Lib.hid hoF5; have HS := Lib.hid ho5; have HX := Lib.hid hbx5; have HAP := Lib.hid hap5
          clear hge1 hoF5 hbx5 hap5 hb0 hf0 ho5 hown5 hgrow hat hlt5
          (try clear hHeld)
          refine hK.out _ _ (by (try dsimp only); exact HS5.out _ HFR.out) (fun hHeld => ?_)
          clear hK K
          (try simp only [Act.put, List.setIfInBounds_toArray, List.set_cons_zero, List.set_cons_succ])
          refine wpAnyL_ready (rs := [18]) (by kernel_rfl) (by simp) ?_
          refine AllReadyL.last (o := ?o18x25) ?hi18x25 ?he18x25 (fun K hK => ?_) AllReadyL.nil
          (case hi18x25 => (simp only [List.getElem?_toArray, List.getElem?_cons_succ, List.getElem?_cons_zero]; exact rfl))
          (case he18x25 => kernel_rfl)
          have s0 := HX.out.cell 0; have f0 := HX.out.frozen 0
          have s1 := HX.out.cell 1; have f1 := HX.out.frozen 1
          simp at s0 s1
          go_simp
          (try clear hHeld)
          refine hK.out _ _ ?_
          clear hK K
          (try simp only [Act.put, List.setIfInBounds_toArray, List.set_cons_zero, List.set_cons_succ])
          (refine wpAnyL_free (i := 19) (oi := ?ox26) (v := ?vx26) ?hix26 ?k1x26 ?k2x26 ?k3x26 ?k4x26 ?k5x26 ?hQx26 ?hYx26 ?restx26; (case hix26 => (simp only [List.getElem?_toArray, List.getElem?_cons_succ, List.getElem?_cons_zero]; exact rfl)); (case k1x26 => kernel_rfl); (case k2x26 => kernel_rfl); (case k3x26 => kernel_rfl); (case k4x26 => kernel_rfl); (case k5x26 => kernel_rfl); (case hYx26 => (refine Or.inl ⟨rfl, ?hyx26⟩; intro w hSw; (try dsimp only at hSw); go_simp; (try with_reducible rfl))); (case hQx26 => exact (fun _ _ _ h => h)); (try simp only [Act.put, List.setIfInBounds_toArray, List.set_cons_zero, List.set_cons_succ]))
          refine wpAnyL_ready (rs := [20]) (by kernel_rfl) (by simp) ?_
          refine AllReadyL.last (o := ?o20x27) ?hi20x27 ?he20x27 (fun K hK => ?_) AllReadyL.nil
          (case hi20x27 => (simp only [List.getElem?_toArray, List.getElem?_cons_succ, List.getElem?_cons_zero]; exact rfl))
          (case he20x27 => kernel_rfl)
          go_simp
          (try clear hHeld)
          refine hK.out _ _ ?_
          clear hK K
          (try simp only [Act.put, List.setIfInBounds_toArray, List.set_cons_zero, List.set_cons_succ])
          (refine wpAnyL_done (by kernel_rfl) ?_ _)
          have hx6 := (HX.out.set_ 0 (.slice (some ⟨gF, 0, none⟩) (j + 1) capF)).set_ 1 (.slice (some ⟨gs, 0, none⟩) (j + 1) caps)
          have hgr := only_setCell (only_setCell (World.grownBy.refl w5 (some g)) (p := ⟨g, 0, none⟩) (.inl rfl) (.slice (some ⟨gF, 0, none⟩) (j + 1) capF)) (p := ⟨g, 1, none⟩) (.inl rfl) (.slice (some ⟨gs, 0, none⟩) (j + 1) caps)
          have ho6 := HF.out.kept hgr (.inr (own_blk_ne HF.out HX.out (by decide)))
          have hs6 := HS.out.kept hgr (.inr (own_blk_ne HS.out HX.out (by decide)))
          have hge := HGE.out
          have hb6 := (HBC.out.setCell (p := ⟨g, 0, none⟩) hge (.slice (some ⟨gF, 0, none⟩) (j + 1) capF)).setCell (p := ⟨g, 1, none⟩) hge (.slice (some ⟨gs, 0, none⟩) (j + 1) caps)
          have HT6 := Lib.hid (TwoR.mk (x := ⟨FL ++ [r.1], SL ++ [l.seep.2], 0, l.soft.2⟩) (by simpa using hx6) ho6 hs6 HAP.out)
          have HB6 := Lib.hid hb6
          clear hx6 hgr ho6 hs6 hb6
          go_wp2_with fail
          go_roundw
          case rel => exact ⟨j + 1, _, _, _, _, by omega, by go_num, by rw [HR1.out, HR2.out]; exact HT6.out, HB6.out⟩
          case measure => simp [intOf] <;> omega
      · skip
        go_simp
        have hal := (Below.refl w0.heap.size w0).alloc (Nat.le_refl _) (.cells #[.int .i64 l.seep.2] 3)
        have hn := Blk.new w0 3 #[.int .i64 l.seep.2]
        have hnf := fun z hz => Nat.ne_of_lt (own_block_lt HF.out (g := z) hz)
        have t0 := below_tr HBC.out hal; have t1 := HFR.out.more hal; have t2 := HX.out.below hal HX.out.lt; have t3 := own_mono HF.out hal; have t4 := own_mono HS.out hal
        clear HBC HFR HX HF HS
        have HBC := Lib.hid t0; have HFR := Lib.hid t1; have HX := Lib.hid t2; have HF := Lib.hid t3; have HS := Lib.hid t4
        clear t0 t1 t2 t3 t4
        have HA15 := Lib.hid hn
        clear hal hn
        (try clear hHeld)
        refine hK.out _ _ (by (try dsimp only); exact HS5.out _ HFR.out) (fun hHeld => ?_)
        clear hK K
        (try simp only [Act.put, List.setIfInBounds_toArray, List.set_cons_zero, List.set_cons_succ])
        revert hHeld HBC HFR HX HF HS HA15
        generalize hgC : w0.heap.size = gC
        generalize (World.alloc w0 (.cells #[.int .i64 l.seep.2] 3)) = w0
        intro HBC HFR HX HF HS HA15 hHeld
        have HNF := Lib.hid (fun z hz => hgC ▸ hnf z hz)
        clear hgC hnf
        refine wpAnyL_ready (rs := [8]) (by kernel_rfl) (by simp) ?_
        refine AllReadyL.cons (o := ?o8x28) ?hi8x28 (fun K hK => ?_) AllReadyL.nil
        (case hi8x28 => (simp only [List.getElem?_toArray, List.getElem?_cons_succ, List.getElem?_cons_zero]; exact rfl))
        go_simp
        have hal := (Below.refl w0.heap.size w0).alloc (Nat.le_refl _) (.cells #[.int .i64 r.1] 3)
        have hn := Blk.new w0 3 #[.int .i64 r.1]
        have t0 := below_tr HBC.out hal; have t1 := HFR.out.more hal; have t2 := HX.out.below hal HX.out.lt; have t3 := own_mono HF.out hal; have t4 := own_mono HS.out hal; have t5 := HA15.out.below hal HA15.out.lt
        clear HBC HFR HX HF HS HA15
        have HBC := Lib.hid t0; have HFR := Lib.hid t1; have HX := Lib.hid t2; have HF := Lib.hid t3; have HS := Lib.hid t4; have HA15 := Lib.hid t5
        clear t0 t1 t2 t3 t4 t5
        have HA8 := Lib.hid hn
        clear hal hn
        (try clear hHeld)
        refine hK.out _ _ (by (try dsimp only); exact HS5.out _ HFR.out) (fun hHeld => ?_)
        clear hK K
        (try simp only [Act.put, List.setIfInBounds_toArray, List.set_cons_zero, List.set_cons_succ])
        revert hHeld HBC HFR HX HF HS HA15 HA8
        generalize hgA : w0.heap.size = gA
        generalize (World.alloc w0 (.cells #[.int .i64 r.1] 3)) = w0
        intro HBC HFR HX HF HS HA15 HA8 hHeld
        clear hgA
        refine wpAnyL_ready (rs := [9]) (by kernel_rfl) (by simp) ?_
        refine AllReadyL.cons (o := ?o9x29) ?hi9x29 (fun K hK => ?_) AllReadyL.nil
        (case hi9x29 => (simp only [List.getElem?_toArray, List.getElem?_cons_succ, List.getElem?_cons_zero]; exact rfl))
        refine step_append_lies _ (by rfl) _ _ _ (by rfl) g 3 i0 _ 1 8 Try.underlying22 HI.out HZ0.out HZ1.out HZ2.out rfl (by omega) _ j (FL.flatMap enc1) (by rfl) HF.out ⟨gA, 0, none⟩ 1 1 [.int .i64 r.1] (by rfl) (by rfl) (World.news_of_block (cs := #[.int .i64 r.1]) (t := 3) (fr := (0, 0)) HA8.out) (by simp [Value.oneCell']) (by omega) (by unfold maxLen; omega) (by omega) (by have := HX.out.lt; omega) _ rfl ?_
        intro gF capF w3 hown3 hgrow hat hlt3
        have hge1 := HBC.out.size
        have hoS3 := HS.out.kept hgrow (by
          cases hq : (Value.slice SA j cS).ownBlock with
          | none => exact .inl rfl
          | some z => exact .inr fun e => HAP.out z e.symm hq)
        have hbx3 := HX.out.grown hgrow (fun e => own_blk_ne HF.out HX.out (by decide) e.symm)
        have hap3 := HAP.out.grow (n' := j + 1) (c := capF) (gg := gF) HS.out (hat.imp id fun e => by omega)
        have hb0 := HBC.out.grown hgrow hge1 (fun z hz => (by have := (HF.out.lt z hz).1; have := HGE.out; omega))
        have hf0 := HFR.out.step hgrow (fun z hz => .inl (.inl hz))
        have ho3 : w3.ownsRow g 3 1 (.slice (some ⟨gF, 0, none⟩) (j + 1) capF) (j + 1) ((FL ++ [r.1]).flatMap enc1) := by
          rw [List.flatMap_append]; simpa [enc1] using hown3
        (first | (have hac := HA15.out.grown hgrow (fun e => HNF.out _ e.symm rfl); clear HA15; have HA15 := Lib.hid hac; clear hac HNF) | skip)
        clear HBC HFR HF HS HX HAP
        clear HA8
        have HBC := Lib.hid hb0; have HFR := Lib.hid hf0; have HF := Lib.hid ho3; have HS := Lib.hid hoS3; have HX := Lib.hid hbx3; have HAP := Lib.hid hap3
        clear hge1 hoS3 hbx3 hap3 hb0 hf0 ho3 hown3 hgrow hat hlt3
        (try clear hHeld)
        refine hK.out _ _ (by (try dsimp only); exact HS5.out _ HFR.out) (fun hHeld => ?_)
        clear hK K
        (try simp only [Act.put, List.setIfInBounds_toArray, List.set_cons_zero, List.set_cons_succ])
        (refine wpAnyL_take (n := 0) (i := 17) (oi := ?ox30) (v := ?vx30) ?hix30 ?k1x30 ?k2x30 ?k3x30 ?k4x30 ?k5x30 ?k6x30 ?hQx30 ?hYx30 ?hSx30 ?restx30; (case hix30 => (simp only [List.getElem?_toArray, List.getElem?_cons_succ, List.getElem?_cons_zero]; exact rfl)); (case k1x30 => kernel_rfl); (case k2x30 => kernel_rfl); (case k3x30 => kernel_rfl); (case k4x30 => kernel_rfl); (case k5x30 => kernel_rfl); (case k6x30 => kernel_rfl); (case hSx30 => assumption); (case hYx30 => (refine Or.inl ⟨rfl, ?hyx30⟩; intro w hSw; (try dsimp only at hSw); go_simp; (try with_reducible rfl))); (case hQx30 => exact (fun _ _ _ h => h)); (try simp only [Act.put, List.setIfInBounds_toArray, List.set_cons_zero, List.set_cons_succ]))
        refine wpAnyL_ready (rs := [16]) (by kernel_rfl) (by simp) ?_
        refine AllReadyL.cons (o := ?o16x31) ?hi16x31 (fun K hK => ?_) AllReadyL.nil
        (case hi16x31 => (simp only [List.getElem?_toArray, List.getElem?_cons_succ, List.getElem?_cons_zero]; exact rfl))
        refine step_append_lies _ (by rfl) _ _ _ (by rfl) g 3 i0 _ 1 8 Try.underlying22 HI.out HZ0.out HZ1.out HZ2.out rfl (by omega) _ j (SL.flatMap enc1) (by rfl) HS.out ⟨gC, 0, none⟩ 1 1 [.int .i64 l.seep.2] (by rfl) (by rfl) (World.news_of_block (cs := #[.int .i64 l.seep.2]) (t := 3) (fr := (0, 0)) HA15.out) (by simp [Value.oneCell']) (by omega) (by unfold maxLen; omega) (by omega) (by have := HX.out.lt; omega) _ rfl ?_
        intro gs caps w5 hown5 hgrow hat hlt5
        have hge1 := HBC.out.size
        have hoF5 := HF.out.kept hgrow (by
          cases hq : (Value.slice (some ⟨gF, 0, none⟩) (j + 1) capF).ownBlock with
          | none => exact .inl rfl
          | some z => exact .inr fun e => HAP.out z hq e.symm)
        have hbx5 := HX.out.grown hgrow (fun e => own_blk_ne HS.out HX.out (by decide) e.symm)
        have hap5 := (HAP.out.symm.grow (n' := j + 1) (c := caps) (gg := gs) HF.out (hat.imp id fun e => by omega)).symm
        have hb0 := HBC.out.grown hgrow hge1 (fun z hz => (by have := (HS.out.lt z hz).1; have := HGE.out; omega))
        have hf0 := HFR.out.step hgrow (fun z hz => .inl (.inr hz))
        have ho5 : w5.ownsRow g 3 1 (.slice (some ⟨gs, 0, none⟩) (j + 1) caps) (j + 1) ((SL ++ [l.seep.2]).flatMap enc1) := by
          rw [List.flatMap_append]; simpa [enc1] using hown5
        clear HBC HFR HF HS HX HAP
        clear HA15
        have HBC := Lib.hid hb0; have HFR := Lib.hid hf0; have HF := Lib.hid hoF5; have HS := Lib.hid ho5; have HX := Lib.hid hbx5; have HAP := Lib.hid hap5
        clear hge1 hoF5 hbx5 hap5 hb0 hf0 ho5 hown5 hgrow hat hlt5
        (try clear hHeld)
        refine hK.out _ _ (by (try dsimp only); exact HS5.out _ HFR.out) (fun hHeld => ?_)
        clear hK K
        (try simp only [Act.put, List.setIfInBounds_toArray, List.set_cons_zero, List.set_cons_succ])
        refine wpAnyL_ready (rs := [18]) (by kernel_rfl) (by simp) ?_
        refine AllReadyL.last (o := ?o18x32) ?hi18x32 ?he18x32 (fun K hK => ?_) AllReadyL.nil
        (case hi18x32 => (simp only [List.getElem?_toArray, List.getElem?_cons_succ, List.getElem?_cons_zero]; exact rfl))
        (case he18x32 => kernel_rfl)
        have s0 := HX.out.cell 0; have f0 := HX.out.frozen 0
        have s1 := HX.out.cell 1; have f1 := HX.out.frozen 1
        simp at s0 s1
        go_simp
        (try clear hHeld)
        refine hK.out _ _ ?_
        clear hK K
        (try simp only [Act.put, List.setIfInBounds_toArray, List.set_cons_zero, List.set_cons_succ])
        (refine wpAnyL_free (i := 19) (oi := ?ox33) (v := ?vx33) ?hix33 ?k1x33 ?k2x33 ?k3x33 ?k4x33 ?k5x33 ?hQx33 ?hYx33 ?restx33; (case hix33 => (simp only [List.getElem?_toArray, List.getElem?_cons_succ, List.getElem?_cons_zero]; exact rfl)); (case k1x33 => kernel_rfl); (case k2x33 => kernel_rfl); (case k3x33 => kernel_rfl); (case k4x33 => kernel_rfl); (case k5x33 => kernel_rfl); (case hYx33 => (refine Or.inl ⟨rfl, ?hyx33⟩; intro w hSw; (try dsimp only at hSw); go_simp; (try with_reducible rfl))); (case hQx33 => exact (fun _ _ _ h => h)); (try simp only [Act.put, List.setIfInBounds_toArray, List.set_cons_zero, List.set_cons_succ]))
        refine wpAnyL_ready (rs := [20]) (by kernel_rfl) (by simp) ?_
        refine AllReadyL.last (o := ?o20x34) ?hi20x34 ?he20x34 (fun K hK => ?_) AllReadyL.nil
        (case hi20x34 => (simp only [List.getElem?_toArray, List.getElem?_cons_succ, List.getElem?_cons_zero]; exact rfl))
        (case he20x34 => kernel_rfl)
        go_simp
        (try clear hHeld)
        refine hK.out _ _ ?_
        clear hK K
        (try simp only [Act.put, List.setIfInBounds_toArray, List.set_cons_zero, List.set_cons_succ])
        (refine wpAnyL_done (by kernel_rfl) ?_ _)
        have hx6 := (HX.out.set_ 0 (.slice (some ⟨gF, 0, none⟩) (j + 1) capF)).set_ 1 (.slice (some ⟨gs, 0, none⟩) (j + 1) caps)
        have hgr := only_setCell (only_setCell (World.grownBy.refl w5 (some g)) (p := ⟨g, 0, none⟩) (.inl rfl) (.slice (some ⟨gF, 0, none⟩) (j + 1) capF)) (p := ⟨g, 1, none⟩) (.inl rfl) (.slice (some ⟨gs, 0, none⟩) (j + 1) caps)
        have ho6 := HF.out.kept hgr (.inr (own_blk_ne HF.out HX.out (by decide)))
        have hs6 := HS.out.kept hgr (.inr (own_blk_ne HS.out HX.out (by decide)))
        have hge := HGE.out
        have hb6 := (HBC.out.setCell (p := ⟨g, 0, none⟩) hge (.slice (some ⟨gF, 0, none⟩) (j + 1) capF)).setCell (p := ⟨g, 1, none⟩) hge (.slice (some ⟨gs, 0, none⟩) (j + 1) caps)
        have HT6 := Lib.hid (TwoR.mk (x := ⟨FL ++ [r.1], SL ++ [l.seep.2], 0, l.soft.2⟩) (by simpa using hx6) ho6 hs6 HAP.out)
        have HB6 := Lib.hid hb6
        clear hx6 hgr ho6 hs6 hb6
        go_wp2_with fail
        go_roundw
        case rel => exact ⟨j + 1, _, _, _, _, by omega, by go_num, by rw [HR1.out, HR2.out]; exact HT6.out, HB6.out⟩
        case measure => simp [intOf] <;> omega
      -- A]
    · obtain rfl : nI = j := by omega
      rw [List.take_of_length_le (by rw [HIL.out]; exact Nat.le_refl _)] at htr
      have hbi := BackI.start HG.out HOK.out rfl rfl
      have HCF := Lib.hid (own_cap htr.oF); have HCS := Lib.hid (own_cap htr.oS)
      obtain ⟨gf, hFA, hgf0, _⟩ := own_adr htr.oF (by omega)
      subst hFA
      obtain ⟨gs, hSA, hgs0, _⟩ := own_adr htr.oS (by omega)
      subst hSA
      have HT := Lib.hid htr; have HBI := Lib.hid hbi; have HBC := Lib.hid hbr
      clear htr hbi hbr hlt hj
      go_wp2_with fail
      have hk1 : ((k + 1 : Nat) : Int) - 1 = (k : Int) := by omega
      go_loopw [16, 17] (fun vv i wr => ∃ (j : Nat) (F S : List Int) (v : Int), j ≤ k + 1 ∧ i = .int .i64 ((j : Int) - 1) ∧ vv = .int .i64 v ∧ TwoR g wr g (some ⟨gf, 0, none⟩) cF (some ⟨gs, 0, none⟩) cS nI ⟨F, S, 0, l.soft.2⟩ ∧ BackI l ws c k goal j F S v ∧ Below W.heap.size W wr) (fun _ i _ => (intOf i + 1).toNat)
      case atStart => exact ⟨k + 1, _, _, goal, Nat.le_refl _, by rw [hk1], rfl, HT.out, HBI.out, HBC.out⟩
      case round =>
        obtain ⟨j, F, S, v, hj, rfl, rfl, htr, hbi, hbr⟩ := hrel
        clear HBC HT HBI hk1 z0 z1 z2 z3 z4 z5 z6 z7 z8 z9
        obtain ⟨z0, z1, z2, z3, z4, z5, z6, z7, z8, z9⟩ := HXL.out _ hbr
        rcases Nat.eq_zero_or_pos j with hj0 | hj0
        · subst hj0
          rw [show (((0 : Nat) : Int) - 1) = -1 from rfl]
          have hall := hbi.all HOK.out
          have y0 := htr.box.cell 0; have y1 := htr.box.cell 1; have y2 := htr.box.cell 2; have y3 := htr.box.cell 3
          have f2 := htr.box.frozen 2
          have HZ := Lib.hid (HY.out.below hbr HY.out.lt)
          have rc := HZ.out.cell; have rf := HZ.out.frozen
          have r0 := rc 0; have r1 := rc 1; have r2 := rc 2; have r3 := rc 3
          simp at y0 y1 y2 y3 r0 r1 r2 r3
          have q0 := rf 0; have q1 := rf 1; have q2 := rf 2; have q3 := rf 3
          have HT := Lib.hid htr; have HBC := Lib.hid hbr; have HAL := Lib.hid hall
          have hgg : W.heap.size ≤ g := by have := HGW.out; omega
          have hyl := HY.out.lt
          have hne : ¬ g = w.heap.size + 1 := by omega
          clear rc rf htr hbr hbi hall z0 z1 z2 z3 z4 z5 z6 z7 z8 z9 hj
          go_wp2_with fail
          have hWs : w.heap.size ≤ W.heap.size := HB.out.size
          have hbx1 := (HT.out.box.set_ 2 (.int .i64 v))
          have hgr1 := only_setCell (World.grownBy.refl wr (some g)) (p := ⟨g, 2, none⟩) (.inl rfl) (.int .i64 v)
          have oF1 := HT.out.oF.kept hgr1 (.inr (own_blk_ne HT.out.oF HT.out.box (by decide)))
          have oS1 := HT.out.oS.kept hgr1 (.inr (own_blk_ne HT.out.oS HT.out.box (by decide)))
          have hz1 := HZ.out.far (p := ⟨g, 2, none⟩) (by simp; omega) (.int .i64 v)
          have hb1 := (HB.out.trans (HBC.out.mono hWs)).setCell (p := ⟨g, 2, none⟩) (by simp; omega) (.int .i64 v)
          have gF := own_weak (oF1.kept (grown_setCells (g := w.heap.size + 1) (xA (some ⟨gf, 0, none⟩) nI cF (some ⟨gs, 0, none⟩) nI cS ⟨F, S, v, l.soft.2⟩).toList 0 _) (.inr (own_blk_ne oF1 hz1 (by decide)))) (show w.heap.size ≤ g by omega)
          have gS := own_weak (oS1.kept (grown_setCells (g := w.heap.size + 1) (xA (some ⟨gf, 0, none⟩) nI cF (some ⟨gs, 0, none⟩) nI cS ⟨F, S, v, l.soft.2⟩).toList 0 _) (.inr (own_blk_ne oS1 hz1 (by decide)))) (show w.heap.size ≤ g by omega)
          have gB := below_setCells (B := w.heap.size) (g := w.heap.size + 1) (w0 := w) (by omega) (xA (some ⟨gf, 0, none⟩) nI cF (some ⟨gs, 0, none⟩) nI cS ⟨F, S, v, l.soft.2⟩).toList 0 _ hb1
          have hBF := blk_setCells (xA (some ⟨gf, 0, none⟩) nI cF (some ⟨gs, 0, none⟩) nI cS ⟨F, S, v, l.soft.2⟩).toList 0 _ [] _ (by simpa using hz1) rfl (by simp)
          simp only [xA, World.setCells, List.nil_append, Nat.reduceAdd] at hBF gF gS gB
          revert hBF gF gS gB
          generalize (World.setCell _ ⟨w.heap.size + 1, 3, none⟩ (Value.int IntKind.i64 l.soft.2)) = WF
          intro gF gS gB hBF
          have c0 := hBF.cell 0; have c1 := hBF.cell 1; have c2 := hBF.cell 2; have c3 := hBF.cell 3
          simp at c0 c1 c2 c3
          have HG2 := Lib.hid (And.intro (RdX.mk (x := ⟨F, S, v, l.soft.2⟩) (Rd.of_own enc1_len gF (HAL.out.1.n.trans HIL.out)) (Rd.of_own enc1_len gS (HAL.out.1.m.trans HIL.out))) gB)
          exact bodyPost_ret (v := .tuple #[.agg (xA (some ⟨gf, 0, none⟩) nI cF (some ⟨gs, 0, none⟩) nI cS ⟨F, S, v, l.soft.2⟩), .bool true]) (by simp [results, Try.results48, go_sem, c0, c1, c2, c3]) rfl ⟨_, cF, _, cS, _, rfl, HG2.out.1, HCF.out, HCS.out, HAL.out.1, HAL.out.2.1, HAL.out.2.2, HG2.out.2⟩
        · obtain ⟨h, rfl⟩ : ∃ h, j = h + 1 := ⟨j - 1, by omega⟩
          have hh1 : ((h + 1 : Nat) : Int) - 1 = (h : Int) := by omega
          rw [hh1]
          have hhn : h < nI := by omega
          obtain ⟨W5, hW5⟩ : ∃ W5, W5 = wr := ⟨_, rfl⟩
          rw [← hW5] at htr hbr z0 z1 z2 z3 z4 z5 z6 z7 z8 z9 ⊢
          clear hW5 hh1
          obtain ⟨b, o, r, hA, hbl, hr, e0, e1⟩ := HH.out.at2 hhn
          have hrb := HOK.out.inflow h r hr
          obtain ⟨L, hL⟩ : ∃ L, L = lowAt l (aftL l (netL l ws c)) h := ⟨_, rfl⟩
          obtain ⟨O, hO⟩ : ∃ O, O = outAt ws c (h : Int) := ⟨_, rfl⟩
          obtain ⟨bb, hbb⟩ : ∃ bb, bb = min L.2 (v - (r.1 - l.seep.2 - O)) := ⟨_, rfl⟩
          obtain ⟨n, hn⟩ : ∃ n, n = if v = 0 then min (v - bb) (r.2 - l.seep.1 - O) else v - bb := ⟨_, rfl⟩
          obtain ⟨i, hi⟩ : ∃ i, i = min r.2 (n + O + l.seep.2) := ⟨_, rfl⟩
          obtain ⟨sp, hsp⟩ : ∃ sp, sp = i - n - O := ⟨_, rfl⟩
          obtain ⟨p1, p2, p3, p4⟩ := hbi.step HOK.out (show h ≤ k by omega) hr (b := bb) (n := n) (i := i) (s := sp) (by rw [hbb, hL, hO]) (by rw [hn, hO]) (by rw [hi, hO]) (by rw [hsp, hO])
          have hob := outAt_bd HWO.out HCO.out (h : Int)
          have hvb := rch_vol HOK.out hbi.rch
          have hlb := low_bd HOK.out HNK.out (h := h) (by rw [netL_len]; have := HIL.out; omega) p1
          have hbv := rch_vol HOK.out p4.rch
          rw [← hL] at p1 p2 hlb
          rw [← hO] at hob p3
          have HPK := Lib.hid (fun (U : World) (hU : Below W.heap.size W U) => HPU.out U hU (h : Int))
          rw [← hO] at HPK
          have hnb : -100000000 ≤ n ∧ n ≤ 100000000 := by rw [hn]; split <;> omega
          have hib : 0 ≤ i ∧ i ≤ 1000000 := by omega
          have HL := Lib.hid hL; have HP4 := Lib.hid p4; have HP1 := Lib.hid p1; have HBB := Lib.hid hbb; have HN := Lib.hid hn; have HI2 := Lib.hid hi; have HSP := Lib.hid hsp; have HBR := Lib.hid hbr; have HT := Lib.hid htr
          have d0 := bel_keep hbr e0; have d1 := bel_keep hbr e1
          have HB5 := Lib.hid (Below.refl W5.heap.size W5)
          have HRR := Lib.hid hr; have HA2 := Lib.hid hA; have HJ := Lib.hid hj
          clear hL p4 p1 hbb hn hi hsp hbi hr hbr htr hj hj0 hO hA e0 e1
          have hhI : (h : Int) < (nI : Int) := by omega
          have hh0 : (0 : Int) ≤ (h : Int) := by omega
          have HS10 := Lib.hid (fun (U : World) (hU : Below W5.heap.size W5 U) => show U.cell? ⟨w.heap.size, 5, none⟩ = some (.int .i64 l.start.1) ∧ U.cell? ⟨w.heap.size, 6, none⟩ = some (.int .i64 l.start.2) from ⟨bel_keep hU z5, bel_keep hU z6⟩)
          have HS16 := Lib.hid (fun (U : World) (hU : Below W5.heap.size W5 U) => show U.cell? ⟨w.heap.size, 7, none⟩ = some (.int .i64 l.seep.1) ∧ U.cell? ⟨w.heap.size, 8, none⟩ = some (.int .i64 l.seep.2) ∧ U.cell? ⟨w.heap.size, 9, none⟩ = some (.slice (some ⟨b, o, none⟩) nI cI) ∧ U.cell? ⟨b, o + h * 2, none⟩ = some (.int .i64 r.1) ∧ U.cell? ⟨b, o + h * 2 + 1, none⟩ = some (.int .i64 r.2) from ⟨bel_keep hU z7, bel_keep hU z8, by rw [← HA2.out]; exact bel_keep hU z9, bel_keep hU d0, bel_keep hU d1⟩)
          clear z0 z1 z2 z3 z4 z5 z6 z7 z8 z9 d0 d1
          go_wp2_with fail
          refine wp_region_till [] (fun U => U.cell? ⟨w.heap.size, 5, none⟩ = some (.int .i64 l.start.1) ∧ U.cell? ⟨w.heap.size, 6, none⟩ = some (.int .i64 l.start.2)) (by kernel_rfl) (by exact HS10.out _ HB5.out.drew) (fun hHeld => ?_)
          have hb9 := (Below.refl W5.heap.size W5).drew
          have t0 := below_tr HB5.out hb9; have t1 := below_tr HBR.out hb9
          clear HB5 HBR
          have HB5 := Lib.hid t0; have HBR := Lib.hid t1
          clear t0 t1
          clear hb9
          revert hHeld HB5 HBR
          generalize W5.drew = w0
          intro hHeld HB5 HBR
          (refine wpAnyL_take (n := 0) (i := 0) (oi := ?ox35) (v := ?vx35) ?hix35 ?k1x35 ?k2x35 ?k3x35 ?k4x35 ?k5x35 ?k6x35 ?hQx35 ?hYx35 ?hSx35 ?restx35; (case hix35 => (simp only [List.getElem?_toArray, List.getElem?_cons_succ, List.getElem?_cons_zero]; exact rfl)); (case k1x35 => kernel_rfl); (case k2x35 => kernel_rfl); (case k3x35 => kernel_rfl); (case k4x35 => kernel_rfl); (case k5x35 => kernel_rfl); (case k6x35 => kernel_rfl); (case hSx35 => assumption); (case hYx35 => (refine Or.inl ⟨rfl, ?hyx35⟩; intro w hSw; (try dsimp only at hSw); go_simp; (try with_reducible rfl))); (case hQx35 => exact (fun _ _ _ h => h)); (try simp only [Act.put, List.setIfInBounds_toArray, List.set_cons_zero, List.set_cons_succ]))
          (refine wpAnyL_take (n := 0) (i := 1) (oi := ?ox36) (v := ?vx36) ?hix36 ?k1x36 ?k2x36 ?k3x36 ?k4x36 ?k5x36 ?k6x36 ?hQx36 ?hYx36 ?hSx36 ?restx36; (case hix36 => (simp only [List.getElem?_toArray, List.getElem?_cons_succ, List.getElem?_cons_zero]; exact rfl)); (case k1x36 => kernel_rfl); (case k2x36 => kernel_rfl); (case k3x36 => kernel_rfl); (case k4x36 => kernel_rfl); (case k5x36 => kernel_rfl); (case k6x36 => kernel_rfl); (case hSx36 => assumption); (case hYx36 => (refine Or.inl ⟨rfl, ?hyx36⟩; intro w hSw; (try dsimp only at hSw); go_simp; (try with_reducible rfl))); (case hQx36 => exact (fun _ _ _ h => h)); (try simp only [Act.put, List.setIfInBounds_toArray, List.set_cons_zero, List.set_cons_succ]))
          (refine wpAnyL_take (n := 0) (i := 2) (oi := ?ox37) (v := ?vx37) ?hix37 ?k1x37 ?k2x37 ?k3x37 ?k4x37 ?k5x37 ?k6x37 ?hQx37 ?hYx37 ?hSx37 ?restx37; (case hix37 => (simp only [List.getElem?_toArray, List.getElem?_cons_succ, List.getElem?_cons_zero]; exact rfl)); (case k1x37 => kernel_rfl); (case k2x37 => kernel_rfl); (case k3x37 => kernel_rfl); (case k4x37 => kernel_rfl); (case k5x37 => kernel_rfl); (case k6x37 => kernel_rfl); (case hSx37 => assumption); (case hYx37 => (refine Or.inl ⟨rfl, ?hyx37⟩; intro w hSw; (try dsimp only at hSw); go_simp; (try with_reducible rfl))); (case hQx37 => exact (fun _ _ _ h => h)); (try simp only [Act.put, List.setIfInBounds_toArray, List.set_cons_zero, List.set_cons_succ]))
          (refine wpAnyL_take (n := 0) (i := 3) (oi := ?ox38) (v := ?vx38) ?hix38 ?k1x38 ?k2x38 ?k3x38 ?k4x38 ?k5x38 ?k6x38 ?hQx38 ?hYx38 ?hSx38 ?restx38; (case hix38 => (simp only [List.getElem?_toArray, List.getElem?_cons_succ, List.getElem?_cons_zero]; exact rfl)); (case k1x38 => kernel_rfl); (case k2x38 => kernel_rfl); (case k3x38 => kernel_rfl); (case k4x38 => kernel_rfl); (case k5x38 => kernel_rfl); (case k6x38 => kernel_rfl); (case hSx38 => assumption); (case hYx38 => (refine Or.inl ⟨rfl, ?hyx38⟩; intro w hSw; (try dsimp only at hSw); go_simp; (try with_reducible rfl))); (case hQx38 => exact (fun _ _ _ h => h)); (try simp only [Act.put, List.setIfInBounds_toArray, List.set_cons_zero, List.set_cons_succ]))
          (refine wpAnyL_take (n := 0) (i := 4) (oi := ?ox39) (v := ?vx39) ?hix39 ?k1x39 ?k2x39 ?k3x39 ?k4x39 ?k5x39 ?k6x39 ?hQx39 ?hYx39 ?hSx39 ?restx39; (case hix39 => (simp only [List.getElem?_toArray, List.getElem?_cons_succ, List.getElem?_cons_zero]; exact rfl)); (case k1x39 => kernel_rfl); (case k2x39 => kernel_rfl); (case k3x39 => kernel_rfl); (case k4x39 => kernel_rfl); (case k5x39 => kernel_rfl); (case k6x39 => kernel_rfl); (case hSx39 => assumption); (case hYx39 => (refine Or.inl ⟨rfl, ?hyx39⟩; intro w hSw; (try dsimp only at hSw); go_simp; (try with_reducible rfl))); (case hQx39 => exact (fun _ _ _ h => h)); (try simp only [Act.put, List.setIfInBounds_toArray, List.set_cons_zero, List.set_cons_succ]))
          (refine wpAnyL_take (n := 0) (i := 5) (oi := ?ox40) (v := ?vx40) ?hix40 ?k1x40 ?k2x40 ?k3x40 ?k4x40 ?k5x40 ?k6x40 ?hQx40 ?hYx40 ?hSx40 ?restx40; (case hix40 => (simp only [List.getElem?_toArray, List.getElem?_cons_succ, List.getElem?_cons_zero]; exact rfl)); (case k1x40 => kernel_rfl); (case k2x40 => kernel_rfl); (case k3x40 => kernel_rfl); (case k4x40 => kernel_rfl); (case k5x40 => kernel_rfl); (case k6x40 => kernel_rfl); (case hSx40 => assumption); (case hYx40 => (refine Or.inl ⟨rfl, ?hyx40⟩; intro w hSw; (try dsimp only at hSw); go_simp; (try with_reducible rfl))); (case hQx40 => exact (fun _ _ _ h => h)); (try simp only [Act.put, List.setIfInBounds_toArray, List.set_cons_zero, List.set_cons_succ]))
          (refine wpAnyL_take (n := 0) (i := 6) (oi := ?ox41) (v := ?vx41) ?hix41 ?k1x41 ?k2x41 ?k3x41 ?k4x41 ?k5x41 ?k6x41 ?hQx41 ?hYx41 ?hSx41 ?restx41; (case hix41 => (simp only [List.getElem?_toArray, List.getElem?_cons_succ, List.getElem?_cons_zero]; exact rfl)); (case k1x41 => kernel_rfl); (case k2x41 => kernel_rfl); (case k3x41 => kernel_rfl); (case k4x41 => kernel_rfl); (case k5x41 => kernel_rfl); (case k6x41 => kernel_rfl); (case hSx41 => assumption); (case hYx41 => (refine Or.inl ⟨rfl, ?hyx41⟩; intro w hSw; (try dsimp only at hSw); go_simp; (try with_reducible rfl))); (case hQx41 => exact (fun _ _ _ h => h)); (try simp only [Act.put, List.setIfInBounds_toArray, List.set_cons_zero, List.set_cons_succ]))
          (refine wpAnyL_take (n := 0) (i := 7) (oi := ?ox42) (v := ?vx42) ?hix42 ?k1x42 ?k2x42 ?k3x42 ?k4x42 ?k5x42 ?k6x42 ?hQx42 ?hYx42 ?hSx42 ?restx42; (case hix42 => (simp only [List.getElem?_toArray, List.getElem?_cons_succ, List.getElem?_cons_zero]; exact rfl)); (case k1x42 => kernel_rfl); (case k2x42 => kernel_rfl); (case k3x42 => kernel_rfl); (case k4x42 => kernel_rfl); (case k5x42 => kernel_rfl); (case k6x42 => kernel_rfl); (case hSx42 => assumption); (case hYx42 => (refine Or.inl ⟨rfl, ?hyx42⟩; intro w hSw; (try dsimp only at hSw); go_simp; (try with_reducible rfl))); (case hQx42 => exact (fun _ _ _ h => h)); (try simp only [Act.put, List.setIfInBounds_toArray, List.set_cons_zero, List.set_cons_succ]))
          (refine wpAnyL_done (by kernel_rfl) ?_ _)
          go_upto_if 68 with (fail)
          go_cut [18, 19] (fun a b wx => a = .int .i64 L.1 ∧ b = .int .i64 L.2 ∧ Below w0.heap.size w0 wx)
          case first =>
            rcases Nat.eq_zero_or_pos h with h0 | h0
            · have g0 : ¬ (0 : Int) < (h : Int) := by omega
              have eL : L = l.start := by rw [HL.out, h0]; rfl
              have EL := Lib.hid eL
              clear h0 eL
              go_wp2_with fail
              go_meet
              exact ⟨by rw [EL.out], by rw [EL.out], Below.refl _ _⟩
            · obtain ⟨m, hm⟩ : ∃ m, h = m + 1 := ⟨h - 1, by omega⟩
              have g0 : (0 : Int) < (h : Int) := by omega
              obtain ⟨bs', os', st, hTA, hbs, hst2, s0, s1, s2, s3⟩ := (HST.out.below HBR.out).atT (i := m) (by omega)
              have hlo := stt_low hst2 (by rw [← hm, ← HL.out]; exact HP1.out)
              rw [← hm, ← HL.out] at hlo
              obtain ⟨sh, sl, si, sv⟩ := st
              simp only at hlo s0 s1 s2 s3
              obtain ⟨rfl, l1, l2⟩ := hlo
              have HLO := Lib.hid (And.intro l1 l2)
              obtain ⟨rfl, rfl⟩ : bs = bs' ∧ os = os' := by simpa using hTA
              have htn : ((h : Int) - 1).toNat = m := by omega
              have hg1 : (0 : Int) ≤ (h : Int) - 1 := by omega
              have hg2 : (h : Int) - 1 < (nI : Int) := by omega
              have hg3 : (1 : Int) ≤ (h : Int) := by omega
              have hwp : IntKind.i64.wrap ((h : Int) - 1) = (h : Int) - 1 := wi (by omega)
              clear hm hst2 l1 l2 s3
              clear hTA
              go_wp2_with fail
              have HA14 := Lib.hid (fun (U : World) (hU : Below w0.heap.size w0 U) => show U.cell? ⟨bs, os + m * 4 + 1, none⟩ = some (.int .i64 sl) ∧ U.cell? ⟨bs, os + m * 4 + 2, none⟩ = some (.int .i64 si) from ⟨bel_keep hU s1, bel_keep hU s2⟩)
              have HB6 := Lib.hid (Below.refl w0.heap.size w0)
              clear s0 s1 s2
              refine wp_region_till [] (fun U => U.cell? ⟨bs, os + m * 4 + 1, none⟩ = some (.int .i64 sl) ∧ U.cell? ⟨bs, os + m * 4 + 2, none⟩ = some (.int .i64 si)) (by kernel_rfl) (by exact HA14.out _ HB6.out.drew) (fun hHeld => ?_)
              have hb9 := (Below.refl w0.heap.size w0).drew
              have t0 := below_tr HB5.out hb9; have t1 := below_tr HB6.out hb9
              clear HB5 HB6
              have HB5 := Lib.hid t0; have HB6 := Lib.hid t1
              clear t0 t1
              clear hb9
              revert hHeld HB5 HB6
              generalize w0.drew = w0
              intro hHeld HB5 HB6
              (refine wpAnyL_take (n := 0) (i := 0) (oi := ?ox43) (v := ?vx43) ?hix43 ?k1x43 ?k2x43 ?k3x43 ?k4x43 ?k5x43 ?k6x43 ?hQx43 ?hYx43 ?hSx43 ?restx43; (case hix43 => (simp only [List.getElem?_toArray, List.getElem?_cons_succ, List.getElem?_cons_zero]; exact rfl)); (case k1x43 => kernel_rfl); (case k2x43 => kernel_rfl); (case k3x43 => kernel_rfl); (case k4x43 => kernel_rfl); (case k5x43 => kernel_rfl); (case k6x43 => kernel_rfl); (case hSx43 => assumption); (case hYx43 => (refine Or.inl ⟨rfl, ?hyx43⟩; intro w hSw; (try dsimp only at hSw); go_simp; (try with_reducible rfl))); (case hQx43 => exact (fun _ _ _ h => h)); (try simp only [Act.put, List.setIfInBounds_toArray, List.set_cons_zero, List.set_cons_succ]))
              (refine wpAnyL_take (n := 0) (i := 1) (oi := ?ox44) (v := ?vx44) ?hix44 ?k1x44 ?k2x44 ?k3x44 ?k4x44 ?k5x44 ?k6x44 ?hQx44 ?hYx44 ?hSx44 ?restx44; (case hix44 => (simp only [List.getElem?_toArray, List.getElem?_cons_succ, List.getElem?_cons_zero]; exact rfl)); (case k1x44 => kernel_rfl); (case k2x44 => kernel_rfl); (case k3x44 => kernel_rfl); (case k4x44 => kernel_rfl); (case k5x44 => kernel_rfl); (case k6x44 => kernel_rfl); (case hSx44 => assumption); (case hYx44 => (refine Or.inl ⟨rfl, ?hyx44⟩; intro w hSw; (try dsimp only at hSw); go_simp; (try with_reducible rfl))); (case hQx44 => exact (fun _ _ _ h => h)); (try simp only [Act.put, List.setIfInBounds_toArray, List.set_cons_zero, List.set_cons_succ]))
              (refine wpAnyL_take (n := 0) (i := 2) (oi := ?ox45) (v := ?vx45) ?hix45 ?k1x45 ?k2x45 ?k3x45 ?k4x45 ?k5x45 ?k6x45 ?hQx45 ?hYx45 ?hSx45 ?restx45; (case hix45 => (simp only [List.getElem?_toArray, List.getElem?_cons_succ, List.getElem?_cons_zero]; exact rfl)); (case k1x45 => kernel_rfl); (case k2x45 => kernel_rfl); (case k3x45 => kernel_rfl); (case k4x45 => kernel_rfl); (case k5x45 => kernel_rfl); (case k6x45 => kernel_rfl); (case hSx45 => assumption); (case hYx45 => (refine Or.inl ⟨rfl, ?hyx45⟩; intro w hSw; (try dsimp only at hSw); go_simp; (try with_reducible rfl))); (case hQx45 => exact (fun _ _ _ h => h)); (try simp only [Act.put, List.setIfInBounds_toArray, List.set_cons_zero, List.set_cons_succ]))
              (refine wpAnyL_take (n := 0) (i := 3) (oi := ?ox46) (v := ?vx46) ?hix46 ?k1x46 ?k2x46 ?k3x46 ?k4x46 ?k5x46 ?k6x46 ?hQx46 ?hYx46 ?hSx46 ?restx46; (case hix46 => (simp only [List.getElem?_toArray, List.getElem?_cons_succ, List.getElem?_cons_zero]; exact rfl)); (case k1x46 => kernel_rfl); (case k2x46 => kernel_rfl); (case k3x46 => kernel_rfl); (case k4x46 => kernel_rfl); (case k5x46 => kernel_rfl); (case k6x46 => kernel_rfl); (case hSx46 => assumption); (case hYx46 => (refine Or.inl ⟨rfl, ?hyx46⟩; intro w hSw; (try dsimp only at hSw); go_simp; (try with_reducible rfl))); (case hQx46 => exact (fun _ _ _ h => h)); (try simp only [Act.put, List.setIfInBounds_toArray, List.set_cons_zero, List.set_cons_succ]))
              (refine wpAnyL_take (n := 0) (i := 4) (oi := ?ox47) (v := ?vx47) ?hix47 ?k1x47 ?k2x47 ?k3x47 ?k4x47 ?k5x47 ?k6x47 ?hQx47 ?hYx47 ?hSx47 ?restx47; (case hix47 => (simp only [List.getElem?_toArray, List.getElem?_cons_succ, List.getElem?_cons_zero]; exact rfl)); (case k1x47 => kernel_rfl); (case k2x47 => kernel_rfl); (case k3x47 => kernel_rfl); (case k4x47 => kernel_rfl); (case k5x47 => kernel_rfl); (case k6x47 => kernel_rfl); (case hSx47 => assumption); (case hYx47 => (refine Or.inl ⟨rfl, ?hyx47⟩; intro w hSw; (try dsimp only at hSw); go_simp; (try with_reducible rfl))); (case hQx47 => exact (fun _ _ _ h => h)); (try simp only [Act.put, List.setIfInBounds_toArray, List.set_cons_zero, List.set_cons_succ]))
              (refine wpAnyL_take (n := 0) (i := 5) (oi := ?ox48) (v := ?vx48) ?hix48 ?k1x48 ?k2x48 ?k3x48 ?k4x48 ?k5x48 ?k6x48 ?hQx48 ?hYx48 ?hSx48 ?restx48; (case hix48 => (simp only [List.getElem?_toArray, List.getElem?_cons_succ, List.getElem?_cons_zero]; exact rfl)); (case k1x48 => kernel_rfl); (case k2x48 => kernel_rfl); (case k3x48 => kernel_rfl); (case k4x48 => kernel_rfl); (case k5x48 => kernel_rfl); (case k6x48 => kernel_rfl); (case hSx48 => assumption); (case hYx48 => (refine Or.inl ⟨rfl, ?hyx48⟩; intro w hSw; (try dsimp only at hSw); go_simp; (try with_reducible rfl))); (case hQx48 => exact (fun _ _ _ h => h)); (try simp only [Act.put, List.setIfInBounds_toArray, List.set_cons_zero, List.set_cons_succ]))
              (refine wpAnyL_take (n := 0) (i := 6) (oi := ?ox49) (v := ?vx49) ?hix49 ?k1x49 ?k2x49 ?k3x49 ?k4x49 ?k5x49 ?k6x49 ?hQx49 ?hYx49 ?hSx49 ?restx49; (case hix49 => (simp only [List.getElem?_toArray, List.getElem?_cons_succ, List.getElem?_cons_zero]; exact rfl)); (case k1x49 => kernel_rfl); (case k2x49 => kernel_rfl); (case k3x49 => kernel_rfl); (case k4x49 => kernel_rfl); (case k5x49 => kernel_rfl); (case k6x49 => kernel_rfl); (case hSx49 => assumption); (case hYx49 => (refine Or.inl ⟨rfl, ?hyx49⟩; intro w hSw; (try dsimp only at hSw); go_simp; (try with_reducible rfl))); (case hQx49 => exact (fun _ _ _ h => h)); (try simp only [Act.put, List.setIfInBounds_toArray, List.set_cons_zero, List.set_cons_succ]))
              (refine wpAnyL_take (n := 0) (i := 7) (oi := ?ox50) (v := ?vx50) ?hix50 ?k1x50 ?k2x50 ?k3x50 ?k4x50 ?k5x50 ?k6x50 ?hQx50 ?hYx50 ?hSx50 ?restx50; (case hix50 => (simp only [List.getElem?_toArray, List.getElem?_cons_succ, List.getElem?_cons_zero]; exact rfl)); (case k1x50 => kernel_rfl); (case k2x50 => kernel_rfl); (case k3x50 => kernel_rfl); (case k4x50 => kernel_rfl); (case k5x50 => kernel_rfl); (case k6x50 => kernel_rfl); (case hSx50 => assumption); (case hYx50 => (refine Or.inl ⟨rfl, ?hyx50⟩; intro w hSw; (try dsimp only at hSw); go_simp; (try with_reducible rfl))); (case hQx50 => exact (fun _ _ _ h => h)); (try simp only [Act.put, List.setIfInBounds_toArray, List.set_cons_zero, List.set_cons_succ]))
              (refine wpAnyL_take (n := 0) (i := 8) (oi := ?ox51) (v := ?vx51) ?hix51 ?k1x51 ?k2x51 ?k3x51 ?k4x51 ?k5x51 ?k6x51 ?hQx51 ?hYx51 ?hSx51 ?restx51; (case hix51 => (simp only [List.getElem?_toArray, List.getElem?_cons_succ, List.getElem?_cons_zero]; exact rfl)); (case k1x51 => kernel_rfl); (case k2x51 => kernel_rfl); (case k3x51 => kernel_rfl); (case k4x51 => kernel_rfl); (case k5x51 => kernel_rfl); (case k6x51 => kernel_rfl); (case hSx51 => assumption); (case hYx51 => (refine Or.inl ⟨rfl, ?hyx51⟩; intro w hSw; (try dsimp only at hSw); go_simp; (try with_reducible rfl))); (case hQx51 => exact (fun _ _ _ h => h)); (try simp only [Act.put, List.setIfInBounds_toArray, List.set_cons_zero, List.set_cons_succ]))
              (refine wpAnyL_take (n := 0) (i := 9) (oi := ?ox52) (v := ?vx52) ?hix52 ?k1x52 ?k2x52 ?k3x52 ?k4x52 ?k5x52 ?k6x52 ?hQx52 ?hYx52 ?hSx52 ?restx52; (case hix52 => (simp only [List.getElem?_toArray, List.getElem?_cons_succ, List.getElem?_cons_zero]; exact rfl)); (case k1x52 => kernel_rfl); (case k2x52 => kernel_rfl); (case k3x52 => kernel_rfl); (case k4x52 => kernel_rfl); (case k5x52 => kernel_rfl); (case k6x52 => kernel_rfl); (case hSx52 => assumption); (case hYx52 => (refine Or.inl ⟨rfl, ?hyx52⟩; intro w hSw; (try dsimp only at hSw); go_simp; (try with_reducible rfl))); (case hQx52 => exact (fun _ _ _ h => h)); (try simp only [Act.put, List.setIfInBounds_toArray, List.set_cons_zero, List.set_cons_succ]))
              (refine wpAnyL_take (n := 0) (i := 10) (oi := ?ox53) (v := ?vx53) ?hix53 ?k1x53 ?k2x53 ?k3x53 ?k4x53 ?k5x53 ?k6x53 ?hQx53 ?hYx53 ?hSx53 ?restx53; (case hix53 => (simp only [List.getElem?_toArray, List.getElem?_cons_succ, List.getElem?_cons_zero]; exact rfl)); (case k1x53 => kernel_rfl); (case k2x53 => kernel_rfl); (case k3x53 => kernel_rfl); (case k4x53 => kernel_rfl); (case k5x53 => kernel_rfl); (case k6x53 => kernel_rfl); (case hSx53 => assumption); (case hYx53 => (refine Or.inl ⟨rfl, ?hyx53⟩; intro w hSw; (try dsimp only at hSw); go_simp; (try with_reducible rfl))); (case hQx53 => exact (fun _ _ _ h => h)); (try simp only [Act.put, List.setIfInBounds_toArray, List.set_cons_zero, List.set_cons_succ]))
              (refine wpAnyL_take (n := 0) (i := 11) (oi := ?ox54) (v := ?vx54) ?hix54 ?k1x54 ?k2x54 ?k3x54 ?k4x54 ?k5x54 ?k6x54 ?hQx54 ?hYx54 ?hSx54 ?restx54; (case hix54 => (simp only [List.getElem?_toArray, List.getElem?_cons_succ, List.getElem?_cons_zero]; exact rfl)); (case k1x54 => kernel_rfl); (case k2x54 => kernel_rfl); (case k3x54 => kernel_rfl); (case k4x54 => kernel_rfl); (case k5x54 => kernel_rfl); (case k6x54 => kernel_rfl); (case hSx54 => assumption); (case hYx54 => (refine Or.inl ⟨rfl, ?hyx54⟩; intro w hSw; (try dsimp only at hSw); go_simp; (try with_reducible rfl))); (case hQx54 => exact (fun _ _ _ h => h)); (try simp only [Act.put, List.setIfInBounds_toArray, List.set_cons_zero, List.set_cons_succ]))
              (refine wpAnyL_take (n := 0) (i := 12) (oi := ?ox55) (v := ?vx55) ?hix55 ?k1x55 ?k2x55 ?k3x55 ?k4x55 ?k5x55 ?k6x55 ?hQx55 ?hYx55 ?hSx55 ?restx55; (case hix55 => (simp only [List.getElem?_toArray, List.getElem?_cons_succ, List.getElem?_cons_zero]; exact rfl)); (case k1x55 => kernel_rfl); (case k2x55 => kernel_rfl); (case k3x55 => kernel_rfl); (case k4x55 => kernel_rfl); (case k5x55 => kernel_rfl); (case k6x55 => kernel_rfl); (case hSx55 => assumption); (case hYx55 => (refine Or.inl ⟨rfl, ?hyx55⟩; intro w hSw; (try dsimp only at hSw); go_simp; (try with_reducible rfl))); (case hQx55 => exact (fun _ _ _ h => h)); (try simp only [Act.put, List.setIfInBounds_toArray, List.set_cons_zero, List.set_cons_succ]))
              (refine wpAnyL_take (n := 0) (i := 13) (oi := ?ox56) (v := ?vx56) ?hix56 ?k1x56 ?k2x56 ?k3x56 ?k4x56 ?k5x56 ?k6x56 ?hQx56 ?hYx56 ?hSx56 ?restx56; (case hix56 => (simp only [List.getElem?_toArray, List.getElem?_cons_succ, List.getElem?_cons_zero]; exact rfl)); (case k1x56 => kernel_rfl); (case k2x56 => kernel_rfl); (case k3x56 => kernel_rfl); (case k4x56 => kernel_rfl); (case k5x56 => kernel_rfl); (case k6x56 => kernel_rfl); (case hSx56 => assumption); (case hYx56 => (refine Or.inl ⟨rfl, ?hyx56⟩; intro w hSw; (try dsimp only at hSw); go_simp; (try with_reducible rfl))); (case hQx56 => exact (fun _ _ _ h => h)); (try simp only [Act.put, List.setIfInBounds_toArray, List.set_cons_zero, List.set_cons_succ]))
              (refine wpAnyL_done (by kernel_rfl) ?_ _)
              clear hwp
              go_wp2_with fail
              go_meet
              exact ⟨by rw [HLO.out.1], by rw [HLO.out.2], HB6.out⟩
          case rest =>
            obtain ⟨rfl, rfl, hbc⟩ := hcut
            have HBR2 := Lib.hid (below_tr HBR.out hbc)
            have HB6 := Lib.hid (below_tr HB5.out hbc)
            clear HBR HB5 hbc
            go_wp2_with fail
            go_at_call 72
            refine (HPK.out _ HBR2.out).mono ?_
            rintro e w1 ⟨rfl, hb9⟩
            have t0 := below_tr HB6.out hb9; have t1 := below_tr HBR2.out hb9
            clear HB6 HBR2
            have HB6 := Lib.hid t0; have HBR2 := Lib.hid t1
            clear t0 t1
            clear hb9 
            go_wp2_with fail
            have m1 : IntKind.i64.wrap (r.1 - l.seep.2) = r.1 - l.seep.2 := wi (by omega)
            have m2 : IntKind.i64.wrap (r.1 - l.seep.2 - O) = r.1 - l.seep.2 - O := wi (by omega)
            have m3 : IntKind.i64.wrap (r.2 - l.seep.1) = r.2 - l.seep.1 := wi (by omega)
            have m4 : IntKind.i64.wrap (r.2 - l.seep.1 - O) = r.2 - l.seep.1 - O := wi (by omega)
            refine wp_region_till [] (fun U => U.cell? ⟨w.heap.size, 7, none⟩ = some (.int .i64 l.seep.1) ∧ U.cell? ⟨w.heap.size, 8, none⟩ = some (.int .i64 l.seep.2) ∧ U.cell? ⟨w.heap.size, 9, none⟩ = some (.slice (some ⟨b, o, none⟩) nI cI) ∧ U.cell? ⟨b, o + h * 2, none⟩ = some (.int .i64 r.1) ∧ U.cell? ⟨b, o + h * 2 + 1, none⟩ = some (.int .i64 r.2)) (by kernel_rfl) (by exact HS16.out _ HB6.out.drew) (fun hHeld => ?_)
            have hb9 := (Below.refl w1.heap.size w1).drew
            have t0 := below_tr HB6.out hb9; have t1 := below_tr HBR2.out hb9
            clear HB6 HBR2
            have HB6 := Lib.hid t0; have HBR2 := Lib.hid t1
            clear t0 t1
            clear hb9
            revert hHeld HB6 HBR2
            generalize w1.drew = w0
            intro hHeld HB6 HBR2
            (refine wpAnyL_take (n := 0) (i := 0) (oi := ?ox57) (v := ?vx57) ?hix57 ?k1x57 ?k2x57 ?k3x57 ?k4x57 ?k5x57 ?k6x57 ?hQx57 ?hYx57 ?hSx57 ?restx57; (case hix57 => (simp only [List.getElem?_toArray, List.getElem?_cons_succ, List.getElem?_cons_zero]; exact rfl)); (case k1x57 => kernel_rfl); (case k2x57 => kernel_rfl); (case k3x57 => kernel_rfl); (case k4x57 => kernel_rfl); (case k5x57 => kernel_rfl); (case k6x57 => kernel_rfl); (case hSx57 => assumption); (case hYx57 => (refine Or.inl ⟨rfl, ?hyx57⟩; intro w hSw; (try dsimp only at hSw); go_simp; (try with_reducible rfl))); (case hQx57 => exact (fun _ _ _ h => h)); (try simp only [Act.put, List.setIfInBounds_toArray, List.set_cons_zero, List.set_cons_succ]))
            (refine wpAnyL_take (n := 0) (i := 1) (oi := ?ox58) (v := ?vx58) ?hix58 ?k1x58 ?k2x58 ?k3x58 ?k4x58 ?k5x58 ?k6x58 ?hQx58 ?hYx58 ?hSx58 ?restx58; (case hix58 => (simp only [List.getElem?_toArray, List.getElem?_cons_succ, List.getElem?_cons_zero]; exact rfl)); (case k1x58 => kernel_rfl); (case k2x58 => kernel_rfl); (case k3x58 => kernel_rfl); (case k4x58 => kernel_rfl); (case k5x58 => kernel_rfl); (case k6x58 => kernel_rfl); (case hSx58 => assumption); (case hYx58 => (refine Or.inl ⟨rfl, ?hyx58⟩; intro w hSw; (try dsimp only at hSw); go_simp; (try with_reducible rfl))); (case hQx58 => exact (fun _ _ _ h => h)); (try simp only [Act.put, List.setIfInBounds_toArray, List.set_cons_zero, List.set_cons_succ]))
            (refine wpAnyL_take (n := 0) (i := 2) (oi := ?ox59) (v := ?vx59) ?hix59 ?k1x59 ?k2x59 ?k3x59 ?k4x59 ?k5x59 ?k6x59 ?hQx59 ?hYx59 ?hSx59 ?restx59; (case hix59 => (simp only [List.getElem?_toArray, List.getElem?_cons_succ, List.getElem?_cons_zero]; exact rfl)); (case k1x59 => kernel_rfl); (case k2x59 => kernel_rfl); (case k3x59 => kernel_rfl); (case k4x59 => kernel_rfl); (case k5x59 => kernel_rfl); (case k6x59 => kernel_rfl); (case hSx59 => assumption); (case hYx59 => (refine Or.inl ⟨rfl, ?hyx59⟩; intro w hSw; (try dsimp only at hSw); go_simp; (try with_reducible rfl))); (case hQx59 => exact (fun _ _ _ h => h)); (try simp only [Act.put, List.setIfInBounds_toArray, List.set_cons_zero, List.set_cons_succ]))
            (refine wpAnyL_take (n := 0) (i := 3) (oi := ?ox60) (v := ?vx60) ?hix60 ?k1x60 ?k2x60 ?k3x60 ?k4x60 ?k5x60 ?k6x60 ?hQx60 ?hYx60 ?hSx60 ?restx60; (case hix60 => (simp only [List.getElem?_toArray, List.getElem?_cons_succ, List.getElem?_cons_zero]; exact rfl)); (case k1x60 => kernel_rfl); (case k2x60 => kernel_rfl); (case k3x60 => kernel_rfl); (case k4x60 => kernel_rfl); (case k5x60 => kernel_rfl); (case k6x60 => kernel_rfl); (case hSx60 => assumption); (case hYx60 => (refine Or.inl ⟨rfl, ?hyx60⟩; intro w hSw; (try dsimp only at hSw); go_simp; (try with_reducible rfl))); (case hQx60 => exact (fun _ _ _ h => h)); (try simp only [Act.put, List.setIfInBounds_toArray, List.set_cons_zero, List.set_cons_succ]))
            (refine wpAnyL_take (n := 0) (i := 4) (oi := ?ox61) (v := ?vx61) ?hix61 ?k1x61 ?k2x61 ?k3x61 ?k4x61 ?k5x61 ?k6x61 ?hQx61 ?hYx61 ?hSx61 ?restx61; (case hix61 => (simp only [List.getElem?_toArray, List.getElem?_cons_succ, List.getElem?_cons_zero]; exact rfl)); (case k1x61 => kernel_rfl); (case k2x61 => kernel_rfl); (case k3x61 => kernel_rfl); (case k4x61 => kernel_rfl); (case k5x61 => kernel_rfl); (case k6x61 => kernel_rfl); (case hSx61 => assumption); (case hYx61 => (refine Or.inl ⟨rfl, ?hyx61⟩; intro w hSw; (try dsimp only at hSw); go_simp; (try with_reducible rfl))); (case hQx61 => exact (fun _ _ _ h => h)); (try simp only [Act.put, List.setIfInBounds_toArray, List.set_cons_zero, List.set_cons_succ]))
            (refine wpAnyL_take (n := 0) (i := 5) (oi := ?ox62) (v := ?vx62) ?hix62 ?k1x62 ?k2x62 ?k3x62 ?k4x62 ?k5x62 ?k6x62 ?hQx62 ?hYx62 ?hSx62 ?restx62; (case hix62 => (simp only [List.getElem?_toArray, List.getElem?_cons_succ, List.getElem?_cons_zero]; exact rfl)); (case k1x62 => kernel_rfl); (case k2x62 => kernel_rfl); (case k3x62 => kernel_rfl); (case k4x62 => kernel_rfl); (case k5x62 => kernel_rfl); (case k6x62 => kernel_rfl); (case hSx62 => assumption); (case hYx62 => (refine Or.inl ⟨rfl, ?hyx62⟩; intro w hSw; (try dsimp only at hSw); go_simp; (try with_reducible rfl))); (case hQx62 => exact (fun _ _ _ h => h)); (try simp only [Act.put, List.setIfInBounds_toArray, List.set_cons_zero, List.set_cons_succ]))
            (refine wpAnyL_take (n := 0) (i := 6) (oi := ?ox63) (v := ?vx63) ?hix63 ?k1x63 ?k2x63 ?k3x63 ?k4x63 ?k5x63 ?k6x63 ?hQx63 ?hYx63 ?hSx63 ?restx63; (case hix63 => (simp only [List.getElem?_toArray, List.getElem?_cons_succ, List.getElem?_cons_zero]; exact rfl)); (case k1x63 => kernel_rfl); (case k2x63 => kernel_rfl); (case k3x63 => kernel_rfl); (case k4x63 => kernel_rfl); (case k5x63 => kernel_rfl); (case k6x63 => kernel_rfl); (case hSx63 => assumption); (case hYx63 => (refine Or.inl ⟨rfl, ?hyx63⟩; intro w hSw; (try dsimp only at hSw); go_simp; (try with_reducible rfl))); (case hQx63 => exact (fun _ _ _ h => h)); (try simp only [Act.put, List.setIfInBounds_toArray, List.set_cons_zero, List.set_cons_succ]))
            (refine wpAnyL_take (n := 0) (i := 7) (oi := ?ox64) (v := ?vx64) ?hix64 ?k1x64 ?k2x64 ?k3x64 ?k4x64 ?k5x64 ?k6x64 ?hQx64 ?hYx64 ?hSx64 ?restx64; (case hix64 => (simp only [List.getElem?_toArray, List.getElem?_cons_succ, List.getElem?_cons_zero]; exact rfl)); (case k1x64 => kernel_rfl); (case k2x64 => kernel_rfl); (case k3x64 => kernel_rfl); (case k4x64 => kernel_rfl); (case k5x64 => kernel_rfl); (case k6x64 => kernel_rfl); (case hSx64 => assumption); (case hYx64 => (refine Or.inl ⟨rfl, ?hyx64⟩; intro w hSw; (try dsimp only at hSw); go_simp; (try with_reducible rfl))); (case hQx64 => exact (fun _ _ _ h => h)); (try simp only [Act.put, List.setIfInBounds_toArray, List.set_cons_zero, List.set_cons_succ]))
            (refine wpAnyL_take (n := 0) (i := 8) (oi := ?ox65) (v := ?vx65) ?hix65 ?k1x65 ?k2x65 ?k3x65 ?k4x65 ?k5x65 ?k6x65 ?hQx65 ?hYx65 ?hSx65 ?restx65; (case hix65 => (simp only [List.getElem?_toArray, List.getElem?_cons_succ, List.getElem?_cons_zero]; exact rfl)); (case k1x65 => kernel_rfl); (case k2x65 => kernel_rfl); (case k3x65 => kernel_rfl); (case k4x65 => kernel_rfl); (case k5x65 => kernel_rfl); (case k6x65 => kernel_rfl); (case hSx65 => assumption); (case hYx65 => (refine Or.inl ⟨rfl, ?hyx65⟩; intro w hSw; (try dsimp only at hSw); go_simp; (try with_reducible rfl))); (case hQx65 => exact (fun _ _ _ h => h)); (try simp only [Act.put, List.setIfInBounds_toArray, List.set_cons_zero, List.set_cons_succ]))
            (refine wpAnyL_take (n := 0) (i := 9) (oi := ?ox66) (v := ?vx66) ?hix66 ?k1x66 ?k2x66 ?k3x66 ?k4x66 ?k5x66 ?k6x66 ?hQx66 ?hYx66 ?hSx66 ?restx66; (case hix66 => (simp only [List.getElem?_toArray, List.getElem?_cons_succ, List.getElem?_cons_zero]; exact rfl)); (case k1x66 => kernel_rfl); (case k2x66 => kernel_rfl); (case k3x66 => kernel_rfl); (case k4x66 => kernel_rfl); (case k5x66 => kernel_rfl); (case k6x66 => kernel_rfl); (case hSx66 => assumption); (case hYx66 => (refine Or.inl ⟨rfl, ?hyx66⟩; intro w hSw; (try dsimp only at hSw); go_simp; (try with_reducible rfl))); (case hQx66 => exact (fun _ _ _ h => h)); (try simp only [Act.put, List.setIfInBounds_toArray, List.set_cons_zero, List.set_cons_succ]))
            (refine wpAnyL_take (n := 0) (i := 10) (oi := ?ox67) (v := ?vx67) ?hix67 ?k1x67 ?k2x67 ?k3x67 ?k4x67 ?k5x67 ?k6x67 ?hQx67 ?hYx67 ?hSx67 ?restx67; (case hix67 => (simp only [List.getElem?_toArray, List.getElem?_cons_succ, List.getElem?_cons_zero]; exact rfl)); (case k1x67 => kernel_rfl); (case k2x67 => kernel_rfl); (case k3x67 => kernel_rfl); (case k4x67 => kernel_rfl); (case k5x67 => kernel_rfl); (case k6x67 => kernel_rfl); (case hSx67 => assumption); (case hYx67 => (refine Or.inl ⟨rfl, ?hyx67⟩; intro w hSw; (try dsimp only at hSw); go_simp; (try with_reducible rfl))); (case hQx67 => exact (fun _ _ _ h => h)); (try simp only [Act.put, List.setIfInBounds_toArray, List.set_cons_zero, List.set_cons_succ]))
            (refine wpAnyL_take (n := 0) (i := 11) (oi := ?ox68) (v := ?vx68) ?hix68 ?k1x68 ?k2x68 ?k3x68 ?k4x68 ?k5x68 ?k6x68 ?hQx68 ?hYx68 ?hSx68 ?restx68; (case hix68 => (simp only [List.getElem?_toArray, List.getElem?_cons_succ, List.getElem?_cons_zero]; exact rfl)); (case k1x68 => kernel_rfl); (case k2x68 => kernel_rfl); (case k3x68 => kernel_rfl); (case k4x68 => kernel_rfl); (case k5x68 => kernel_rfl); (case k6x68 => kernel_rfl); (case hSx68 => assumption); (case hYx68 => (refine Or.inl ⟨rfl, ?hyx68⟩; intro w hSw; (try dsimp only at hSw); go_simp; (try with_reducible rfl))); (case hQx68 => exact (fun _ _ _ h => h)); (try simp only [Act.put, List.setIfInBounds_toArray, List.set_cons_zero, List.set_cons_succ]))
            (refine wpAnyL_take (n := 0) (i := 12) (oi := ?ox69) (v := ?vx69) ?hix69 ?k1x69 ?k2x69 ?k3x69 ?k4x69 ?k5x69 ?k6x69 ?hQx69 ?hYx69 ?hSx69 ?restx69; (case hix69 => (simp only [List.getElem?_toArray, List.getElem?_cons_succ, List.getElem?_cons_zero]; exact rfl)); (case k1x69 => kernel_rfl); (case k2x69 => kernel_rfl); (case k3x69 => kernel_rfl); (case k4x69 => kernel_rfl); (case k5x69 => kernel_rfl); (case k6x69 => kernel_rfl); (case hSx69 => assumption); (case hYx69 => (refine Or.inl ⟨rfl, ?hyx69⟩; intro w hSw; (try dsimp only at hSw); go_simp; (try with_reducible rfl))); (case hQx69 => exact (fun _ _ _ h => h)); (try simp only [Act.put, List.setIfInBounds_toArray, List.set_cons_zero, List.set_cons_succ]))
            (refine wpAnyL_take (n := 0) (i := 13) (oi := ?ox70) (v := ?vx70) ?hix70 ?k1x70 ?k2x70 ?k3x70 ?k4x70 ?k5x70 ?k6x70 ?hQx70 ?hYx70 ?hSx70 ?restx70; (case hix70 => (simp only [List.getElem?_toArray, List.getElem?_cons_succ, List.getElem?_cons_zero]; exact rfl)); (case k1x70 => kernel_rfl); (case k2x70 => kernel_rfl); (case k3x70 => kernel_rfl); (case k4x70 => kernel_rfl); (case k5x70 => kernel_rfl); (case k6x70 => kernel_rfl); (case hSx70 => assumption); (case hYx70 => (refine Or.inl ⟨rfl, ?hyx70⟩; intro w hSw; (try dsimp only at hSw); go_simp; (try with_reducible rfl))); (case hQx70 => exact (fun _ _ _ h => h)); (try simp only [Act.put, List.setIfInBounds_toArray, List.set_cons_zero, List.set_cons_succ]))
            (refine wpAnyL_take (n := 0) (i := 14) (oi := ?ox71) (v := ?vx71) ?hix71 ?k1x71 ?k2x71 ?k3x71 ?k4x71 ?k5x71 ?k6x71 ?hQx71 ?hYx71 ?hSx71 ?restx71; (case hix71 => (simp only [List.getElem?_toArray, List.getElem?_cons_succ, List.getElem?_cons_zero]; exact rfl)); (case k1x71 => kernel_rfl); (case k2x71 => kernel_rfl); (case k3x71 => kernel_rfl); (case k4x71 => kernel_rfl); (case k5x71 => kernel_rfl); (case k6x71 => kernel_rfl); (case hSx71 => assumption); (case hYx71 => (refine Or.inl ⟨rfl, ?hyx71⟩; intro w hSw; (try dsimp only at hSw); go_simp; (try with_reducible rfl))); (case hQx71 => exact (fun _ _ _ h => h)); (try simp only [Act.put, List.setIfInBounds_toArray, List.set_cons_zero, List.set_cons_succ]))
            (refine wpAnyL_take (n := 0) (i := 15) (oi := ?ox72) (v := ?vx72) ?hix72 ?k1x72 ?k2x72 ?k3x72 ?k4x72 ?k5x72 ?k6x72 ?hQx72 ?hYx72 ?hSx72 ?restx72; (case hix72 => (simp only [List.getElem?_toArray, List.getElem?_cons_succ, List.getElem?_cons_zero]; exact rfl)); (case k1x72 => kernel_rfl); (case k2x72 => kernel_rfl); (case k3x72 => kernel_rfl); (case k4x72 => kernel_rfl); (case k5x72 => kernel_rfl); (case k6x72 => kernel_rfl); (case hSx72 => assumption); (case hYx72 => (refine Or.inl ⟨rfl, ?hyx72⟩; intro w hSw; (try dsimp only at hSw); go_simp; (try with_reducible rfl))); (case hQx72 => exact (fun _ _ _ h => h)); (try simp only [Act.put, List.setIfInBounds_toArray, List.set_cons_zero, List.set_cons_succ]))
            (refine wpAnyL_take (n := 0) (i := 16) (oi := ?ox73) (v := ?vx73) ?hix73 ?k1x73 ?k2x73 ?k3x73 ?k4x73 ?k5x73 ?k6x73 ?hQx73 ?hYx73 ?hSx73 ?restx73; (case hix73 => (simp only [List.getElem?_toArray, List.getElem?_cons_succ, List.getElem?_cons_zero]; exact rfl)); (case k1x73 => kernel_rfl); (case k2x73 => kernel_rfl); (case k3x73 => kernel_rfl); (case k4x73 => kernel_rfl); (case k5x73 => kernel_rfl); (case k6x73 => kernel_rfl); (case hSx73 => assumption); (case hYx73 => (refine Or.inl ⟨rfl, ?hyx73⟩; intro w hSw; (try dsimp only at hSw); go_simp; (try with_reducible rfl))); (case hQx73 => exact (fun _ _ _ h => h)); (try simp only [Act.put, List.setIfInBounds_toArray, List.set_cons_zero, List.set_cons_succ]))
            (refine wpAnyL_take (n := 0) (i := 17) (oi := ?ox74) (v := ?vx74) ?hix74 ?k1x74 ?k2x74 ?k3x74 ?k4x74 ?k5x74 ?k6x74 ?hQx74 ?hYx74 ?hSx74 ?restx74; (case hix74 => (simp only [List.getElem?_toArray, List.getElem?_cons_succ, List.getElem?_cons_zero]; exact rfl)); (case k1x74 => kernel_rfl); (case k2x74 => kernel_rfl); (case k3x74 => kernel_rfl); (case k4x74 => kernel_rfl); (case k5x74 => kernel_rfl); (case k6x74 => kernel_rfl); (case hSx74 => assumption); (case hYx74 => (refine Or.inl ⟨rfl, ?hyx74⟩; intro w hSw; (try dsimp only at hSw); go_simp; (try with_reducible rfl))); (case hQx74 => exact (fun _ _ _ h => h)); (try simp only [Act.put, List.setIfInBounds_toArray, List.set_cons_zero, List.set_cons_succ]))
            (refine wpAnyL_take (n := 0) (i := 18) (oi := ?ox75) (v := ?vx75) ?hix75 ?k1x75 ?k2x75 ?k3x75 ?k4x75 ?k5x75 ?k6x75 ?hQx75 ?hYx75 ?hSx75 ?restx75; (case hix75 => (simp only [List.getElem?_toArray, List.getElem?_cons_succ, List.getElem?_cons_zero]; exact rfl)); (case k1x75 => kernel_rfl); (case k2x75 => kernel_rfl); (case k3x75 => kernel_rfl); (case k4x75 => kernel_rfl); (case k5x75 => kernel_rfl); (case k6x75 => kernel_rfl); (case hSx75 => assumption); (case hYx75 => (refine Or.inl ⟨rfl, ?hyx75⟩; intro w hSw; (try dsimp only at hSw); go_simp; (try with_reducible rfl))); (case hQx75 => exact (fun _ _ _ h => h)); (try simp only [Act.put, List.setIfInBounds_toArray, List.set_cons_zero, List.set_cons_succ]))
            (refine wpAnyL_take (n := 0) (i := 19) (oi := ?ox76) (v := ?vx76) ?hix76 ?k1x76 ?k2x76 ?k3x76 ?k4x76 ?k5x76 ?k6x76 ?hQx76 ?hYx76 ?hSx76 ?restx76; (case hix76 => (simp only [List.getElem?_toArray, List.getElem?_cons_succ, List.getElem?_cons_zero]; exact rfl)); (case k1x76 => kernel_rfl); (case k2x76 => kernel_rfl); (case k3x76 => kernel_rfl); (case k4x76 => kernel_rfl); (case k5x76 => kernel_rfl); (case k6x76 => kernel_rfl); (case hSx76 => assumption); (case hYx76 => (refine Or.inl ⟨rfl, ?hyx76⟩; intro w hSw; (try dsimp only at hSw); go_simp; (try with_reducible rfl))); (case hQx76 => exact (fun _ _ _ h => h)); (try simp only [Act.put, List.setIfInBounds_toArray, List.set_cons_zero, List.set_cons_succ]))
            (refine wpAnyL_take (n := 0) (i := 20) (oi := ?ox77) (v := ?vx77) ?hix77 ?k1x77 ?k2x77 ?k3x77 ?k4x77 ?k5x77 ?k6x77 ?hQx77 ?hYx77 ?hSx77 ?restx77; (case hix77 => (simp only [List.getElem?_toArray, List.getElem?_cons_succ, List.getElem?_cons_zero]; exact rfl)); (case k1x77 => kernel_rfl); (case k2x77 => kernel_rfl); (case k3x77 => kernel_rfl); (case k4x77 => kernel_rfl); (case k5x77 => kernel_rfl); (case k6x77 => kernel_rfl); (case hSx77 => assumption); (case hYx77 => (refine Or.inl ⟨rfl, ?hyx77⟩; intro w hSw; (try dsimp only at hSw); go_simp; (try with_reducible rfl))); (case hQx77 => exact (fun _ _ _ h => h)); (try simp only [Act.put, List.setIfInBounds_toArray, List.set_cons_zero, List.set_cons_succ]))
            (refine wpAnyL_take (n := 0) (i := 21) (oi := ?ox78) (v := ?vx78) ?hix78 ?k1x78 ?k2x78 ?k3x78 ?k4x78 ?k5x78 ?k6x78 ?hQx78 ?hYx78 ?hSx78 ?restx78; (case hix78 => (simp only [List.getElem?_toArray, List.getElem?_cons_succ, List.getElem?_cons_zero]; exact rfl)); (case k1x78 => kernel_rfl); (case k2x78 => kernel_rfl); (case k3x78 => kernel_rfl); (case k4x78 => kernel_rfl); (case k5x78 => kernel_rfl); (case k6x78 => kernel_rfl); (case hSx78 => assumption); (case hYx78 => (refine Or.inl ⟨rfl, ?hyx78⟩; intro w hSw; (try dsimp only at hSw); go_simp; (try with_reducible rfl))); (case hQx78 => exact (fun _ _ _ h => h)); (try simp only [Act.put, List.setIfInBounds_toArray, List.set_cons_zero, List.set_cons_succ]))
            (refine wpAnyL_take (n := 0) (i := 22) (oi := ?ox79) (v := ?vx79) ?hix79 ?k1x79 ?k2x79 ?k3x79 ?k4x79 ?k5x79 ?k6x79 ?hQx79 ?hYx79 ?hSx79 ?restx79; (case hix79 => (simp only [List.getElem?_toArray, List.getElem?_cons_succ, List.getElem?_cons_zero]; exact rfl)); (case k1x79 => kernel_rfl); (case k2x79 => kernel_rfl); (case k3x79 => kernel_rfl); (case k4x79 => kernel_rfl); (case k5x79 => kernel_rfl); (case k6x79 => kernel_rfl); (case hSx79 => assumption); (case hYx79 => (refine Or.inl ⟨rfl, ?hyx79⟩; intro w hSw; (try dsimp only at hSw); go_simp; (try with_reducible rfl))); (case hQx79 => exact (fun _ _ _ h => h)); (try simp only [Act.put, List.setIfInBounds_toArray, List.set_cons_zero, List.set_cons_succ]))
            (refine wpAnyL_take (n := 0) (i := 23) (oi := ?ox80) (v := ?vx80) ?hix80 ?k1x80 ?k2x80 ?k3x80 ?k4x80 ?k5x80 ?k6x80 ?hQx80 ?hYx80 ?hSx80 ?restx80; (case hix80 => (simp only [List.getElem?_toArray, List.getElem?_cons_succ, List.getElem?_cons_zero]; exact rfl)); (case k1x80 => kernel_rfl); (case k2x80 => kernel_rfl); (case k3x80 => kernel_rfl); (case k4x80 => kernel_rfl); (case k5x80 => kernel_rfl); (case k6x80 => kernel_rfl); (case hSx80 => assumption); (case hYx80 => (refine Or.inl ⟨rfl, ?hyx80⟩; intro w hSw; (try dsimp only at hSw); go_simp; (try with_reducible rfl))); (case hQx80 => exact (fun _ _ _ h => h)); (try simp only [Act.put, List.setIfInBounds_toArray, List.set_cons_zero, List.set_cons_succ]))
            (refine wpAnyL_take (n := 0) (i := 24) (oi := ?ox81) (v := ?vx81) ?hix81 ?k1x81 ?k2x81 ?k3x81 ?k4x81 ?k5x81 ?k6x81 ?hQx81 ?hYx81 ?hSx81 ?restx81; (case hix81 => (simp only [List.getElem?_toArray, List.getElem?_cons_succ, List.getElem?_cons_zero]; exact rfl)); (case k1x81 => kernel_rfl); (case k2x81 => kernel_rfl); (case k3x81 => kernel_rfl); (case k4x81 => kernel_rfl); (case k5x81 => kernel_rfl); (case k6x81 => kernel_rfl); (case hSx81 => assumption); (case hYx81 => (refine Or.inl ⟨rfl, ?hyx81⟩; intro w hSw; (try dsimp only at hSw); go_simp; (try with_reducible rfl))); (case hQx81 => exact (fun _ _ _ h => h)); (try simp only [Act.put, List.setIfInBounds_toArray, List.set_cons_zero, List.set_cons_succ]))
            (refine wpAnyL_take (n := 0) (i := 25) (oi := ?ox82) (v := ?vx82) ?hix82 ?k1x82 ?k2x82 ?k3x82 ?k4x82 ?k5x82 ?k6x82 ?hQx82 ?hYx82 ?hSx82 ?restx82; (case hix82 => (simp only [List.getElem?_toArray, List.getElem?_cons_succ, List.getElem?_cons_zero]; exact rfl)); (case k1x82 => kernel_rfl); (case k2x82 => kernel_rfl); (case k3x82 => kernel_rfl); (case k4x82 => kernel_rfl); (case k5x82 => kernel_rfl); (case k6x82 => kernel_rfl); (case hSx82 => assumption); (case hYx82 => (refine Or.inl ⟨rfl, ?hyx82⟩; intro w hSw; (try dsimp only at hSw); go_simp; (try with_reducible rfl))); (case hQx82 => exact (fun _ _ _ h => h)); (try simp only [Act.put, List.setIfInBounds_toArray, List.set_cons_zero, List.set_cons_succ]))
            (refine wpAnyL_done (by kernel_rfl) ?_ _)
            clear m1 m2 m3 m4
            go_upto_region 18 with fail
            rw [← HBB.out]
            have hq2 : ¬ bb < L.1 := by omega
            have hq3 : ¬ r.2 - l.seep.1 - O < n := by omega
            clear p2 p3
            go_upto_if 130 with (fail)
            go_cut [24] (fun a wx => a = .int .i64 n ∧ wx = w0)
            case first =>
              by_cases hv0 : v = 0
              · have hn := HN.out
                rw [if_pos hv0] at hn
                subst hv0
                have HN2 := Lib.hid hn
                clear hn hq3
                go_wp2_with fail
                go_meet
                exact ⟨by rw [HN2.out]; simp, rfl⟩
              · have hn := HN.out
                rw [if_neg hv0] at hn
                have HN2 := Lib.hid hn
                have hv1 : (v == 0) = false := by simpa using hv0
                clear hn hq3
                go_wp2_with fail
                go_meet
                exact ⟨by rw [HN2.out], rfl⟩
            case rest =>
              obtain ⟨rfl, rfl⟩ := hcut
              go_wp2_with fail
              have ht2 := HT.out.below HB6.out
              have hFl : F.length = nI := by have := HP4.out.n; have := HIL.out; simp only [List.length_set] at *; omega
              have hSl : S.length = nI := by have := HP4.out.m; have := HIL.out; simp only [List.length_set] at *; omega
              obtain ⟨fv, hfv⟩ : ∃ fv, F[h]? = some fv := ⟨_, List.getElem?_eq_getElem (by omega)⟩
              obtain ⟨sv, hsv⟩ : ∃ sv, S[h]? = some sv := ⟨_, List.getElem?_eq_getElem (by omega)⟩
              have v9 := ht2.oF.cellAt h (by omega)
              have v8 := ht2.oS.cellAt h (by omega)
              simp only at v9 v8
              rw [flat1_get hfv] at v9
              rw [flat1_get hsv] at v8
              have y0 := ht2.box.cell 0; have y1 := ht2.box.cell 1
              simp at y0 y1
              have HS25 := Lib.hid (fun (U : World) (hU : Below wc.heap.size wc U) => show U.cell? ⟨w.heap.size, 8, none⟩ = some (.int .i64 l.seep.2) ∧ U.cell? ⟨w.heap.size, 9, none⟩ = some (.slice (some ⟨b, o, none⟩) nI cI) ∧ U.cell? ⟨b, o + h * 2 + 1, none⟩ = some (.int .i64 r.2) ∧ U.cell? ⟨g, 0, none⟩ = some (.slice (some ⟨gf, 0, none⟩) nI cF) ∧ U.cell? ⟨gf, h, none⟩ = some (.int .i64 fv) from
                have q := HS16.out _ (below_tr HB6.out hU)
                ⟨q.2.1, q.2.2.1, q.2.2.2.2, bel_keep hU y0, bel_keep hU v9⟩)
              have HT2 := Lib.hid ht2; have HB7 := Lib.hid (Below.refl wc.heap.size wc)
              have HNF := Lib.hid (ht2.ap gf rfl)
              clear ht2 hfv hsv v9 v8 y0 y1 hFl hSl
              have m1 : IntKind.i64.wrap (n + O) = n + O := wi (by omega)
              have m2 : IntKind.i64.wrap (n + O + l.seep.2) = n + O + l.seep.2 := wi (by omega)
              refine wp_region_till [18] (fun U => U.cell? ⟨w.heap.size, 8, none⟩ = some (.int .i64 l.seep.2) ∧ U.cell? ⟨w.heap.size, 9, none⟩ = some (.slice (some ⟨b, o, none⟩) nI cI) ∧ U.cell? ⟨b, o + h * 2 + 1, none⟩ = some (.int .i64 r.2) ∧ U.cell? ⟨g, 0, none⟩ = some (.slice (some ⟨gf, 0, none⟩) nI cF) ∧ U.cell? ⟨gf, h, none⟩ = some (.int .i64 fv)) (by kernel_rfl) (by exact HS25.out _ HB7.out.drew) (fun hHeld => ?_)
              have hb9 := (Below.refl wc.heap.size wc).drew
              have t0 := below_tr HB6.out hb9; have t1 := below_tr HBR2.out hb9; have t2 := below_tr HB7.out hb9; have t3 := HT2.out.below hb9
              clear HB6 HBR2 HB7 HT2
              have HB6 := Lib.hid t0; have HBR2 := Lib.hid t1; have HB7 := Lib.hid t2; have HT2 := Lib.hid t3
              clear t0 t1 t2 t3
              clear hb9
              revert hHeld HB6 HBR2 HB7 HT2
              generalize wc.drew = w0
              intro hHeld HB6 HBR2 HB7 HT2
              (refine wpAnyL_take (n := 0) (i := 0) (oi := ?ox83) (v := ?vx83) ?hix83 ?k1x83 ?k2x83 ?k3x83 ?k4x83 ?k5x83 ?k6x83 ?hQx83 ?hYx83 ?hSx83 ?restx83; (case hix83 => (simp only [List.getElem?_toArray, List.getElem?_cons_succ, List.getElem?_cons_zero]; exact rfl)); (case k1x83 => kernel_rfl); (case k2x83 => kernel_rfl); (case k3x83 => kernel_rfl); (case k4x83 => kernel_rfl); (case k5x83 => kernel_rfl); (case k6x83 => kernel_rfl); (case hSx83 => assumption); (case hYx83 => (refine Or.inl ⟨rfl, ?hyx83⟩; intro w hSw; (try dsimp only at hSw); go_simp; (try with_reducible rfl))); (case hQx83 => exact (fun _ _ _ h => h)); (try simp only [Act.put, List.setIfInBounds_toArray, List.set_cons_zero, List.set_cons_succ]))
              (refine wpAnyL_take (n := 0) (i := 1) (oi := ?ox84) (v := ?vx84) ?hix84 ?k1x84 ?k2x84 ?k3x84 ?k4x84 ?k5x84 ?k6x84 ?hQx84 ?hYx84 ?hSx84 ?restx84; (case hix84 => (simp only [List.getElem?_toArray, List.getElem?_cons_succ, List.getElem?_cons_zero]; exact rfl)); (case k1x84 => kernel_rfl); (case k2x84 => kernel_rfl); (case k3x84 => kernel_rfl); (case k4x84 => kernel_rfl); (case k5x84 => kernel_rfl); (case k6x84 => kernel_rfl); (case hSx84 => assumption); (case hYx84 => (refine Or.inl ⟨rfl, ?hyx84⟩; intro w hSw; (try dsimp only at hSw); go_simp; (try with_reducible rfl))); (case hQx84 => exact (fun _ _ _ h => h)); (try simp only [Act.put, List.setIfInBounds_toArray, List.set_cons_zero, List.set_cons_succ]))
              (refine wpAnyL_take (n := 0) (i := 2) (oi := ?ox85) (v := ?vx85) ?hix85 ?k1x85 ?k2x85 ?k3x85 ?k4x85 ?k5x85 ?k6x85 ?hQx85 ?hYx85 ?hSx85 ?restx85; (case hix85 => (simp only [List.getElem?_toArray, List.getElem?_cons_succ, List.getElem?_cons_zero]; exact rfl)); (case k1x85 => kernel_rfl); (case k2x85 => kernel_rfl); (case k3x85 => kernel_rfl); (case k4x85 => kernel_rfl); (case k5x85 => kernel_rfl); (case k6x85 => kernel_rfl); (case hSx85 => assumption); (case hYx85 => (refine Or.inl ⟨rfl, ?hyx85⟩; intro w hSw; (try dsimp only at hSw); go_simp; (try with_reducible rfl))); (case hQx85 => exact (fun _ _ _ h => h)); (try simp only [Act.put, List.setIfInBounds_toArray, List.set_cons_zero, List.set_cons_succ]))
              (refine wpAnyL_take (n := 0) (i := 3) (oi := ?ox86) (v := ?vx86) ?hix86 ?k1x86 ?k2x86 ?k3x86 ?k4x86 ?k5x86 ?k6x86 ?hQx86 ?hYx86 ?hSx86 ?restx86; (case hix86 => (simp only [List.getElem?_toArray, List.getElem?_cons_succ, List.getElem?_cons_zero]; exact rfl)); (case k1x86 => kernel_rfl); (case k2x86 => kernel_rfl); (case k3x86 => kernel_rfl); (case k4x86 => kernel_rfl); (case k5x86 => kernel_rfl); (case k6x86 => kernel_rfl); (case hSx86 => assumption); (case hYx86 => (refine Or.inl ⟨rfl, ?hyx86⟩; intro w hSw; (try dsimp only at hSw); go_simp; (try with_reducible rfl))); (case hQx86 => exact (fun _ _ _ h => h)); (try simp only [Act.put, List.setIfInBounds_toArray, List.set_cons_zero, List.set_cons_succ]))
              (refine wpAnyL_take (n := 0) (i := 4) (oi := ?ox87) (v := ?vx87) ?hix87 ?k1x87 ?k2x87 ?k3x87 ?k4x87 ?k5x87 ?k6x87 ?hQx87 ?hYx87 ?hSx87 ?restx87; (case hix87 => (simp only [List.getElem?_toArray, List.getElem?_cons_succ, List.getElem?_cons_zero]; exact rfl)); (case k1x87 => kernel_rfl); (case k2x87 => kernel_rfl); (case k3x87 => kernel_rfl); (case k4x87 => kernel_rfl); (case k5x87 => kernel_rfl); (case k6x87 => kernel_rfl); (case hSx87 => assumption); (case hYx87 => (refine Or.inl ⟨rfl, ?hyx87⟩; intro w hSw; (try dsimp only at hSw); go_simp; (try with_reducible rfl))); (case hQx87 => exact (fun _ _ _ h => h)); (try simp only [Act.put, List.setIfInBounds_toArray, List.set_cons_zero, List.set_cons_succ]))
              (refine wpAnyL_take (n := 0) (i := 5) (oi := ?ox88) (v := ?vx88) ?hix88 ?k1x88 ?k2x88 ?k3x88 ?k4x88 ?k5x88 ?k6x88 ?hQx88 ?hYx88 ?hSx88 ?restx88; (case hix88 => (simp only [List.getElem?_toArray, List.getElem?_cons_succ, List.getElem?_cons_zero]; exact rfl)); (case k1x88 => kernel_rfl); (case k2x88 => kernel_rfl); (case k3x88 => kernel_rfl); (case k4x88 => kernel_rfl); (case k5x88 => kernel_rfl); (case k6x88 => kernel_rfl); (case hSx88 => assumption); (case hYx88 => (refine Or.inl ⟨rfl, ?hyx88⟩; intro w hSw; (try dsimp only at hSw); go_simp; (try with_reducible rfl))); (case hQx88 => exact (fun _ _ _ h => h)); (try simp only [Act.put, List.setIfInBounds_toArray, List.set_cons_zero, List.set_cons_succ]))
              (refine wpAnyL_take (n := 0) (i := 6) (oi := ?ox89) (v := ?vx89) ?hix89 ?k1x89 ?k2x89 ?k3x89 ?k4x89 ?k5x89 ?k6x89 ?hQx89 ?hYx89 ?hSx89 ?restx89; (case hix89 => (simp only [List.getElem?_toArray, List.getElem?_cons_succ, List.getElem?_cons_zero]; exact rfl)); (case k1x89 => kernel_rfl); (case k2x89 => kernel_rfl); (case k3x89 => kernel_rfl); (case k4x89 => kernel_rfl); (case k5x89 => kernel_rfl); (case k6x89 => kernel_rfl); (case hSx89 => assumption); (case hYx89 => (refine Or.inl ⟨rfl, ?hyx89⟩; intro w hSw; (try dsimp only at hSw); go_simp; (try with_reducible rfl))); (case hQx89 => exact (fun _ _ _ h => h)); (try simp only [Act.put, List.setIfInBounds_toArray, List.set_cons_zero, List.set_cons_succ]))
              (refine wpAnyL_take (n := 0) (i := 7) (oi := ?ox90) (v := ?vx90) ?hix90 ?k1x90 ?k2x90 ?k3x90 ?k4x90 ?k5x90 ?k6x90 ?hQx90 ?hYx90 ?hSx90 ?restx90; (case hix90 => (simp only [List.getElem?_toArray, List.getElem?_cons_succ, List.getElem?_cons_zero]; exact rfl)); (case k1x90 => kernel_rfl); (case k2x90 => kernel_rfl); (case k3x90 => kernel_rfl); (case k4x90 => kernel_rfl); (case k5x90 => kernel_rfl); (case k6x90 => kernel_rfl); (case hSx90 => assumption); (case hYx90 => (refine Or.inl ⟨rfl, ?hyx90⟩; intro w hSw; (try dsimp only at hSw); go_simp; (try with_reducible rfl))); (case hQx90 => exact (fun _ _ _ h => h)); (try simp only [Act.put, List.setIfInBounds_toArray, List.set_cons_zero, List.set_cons_succ]))
              (refine wpAnyL_take (n := 0) (i := 8) (oi := ?ox91) (v := ?vx91) ?hix91 ?k1x91 ?k2x91 ?k3x91 ?k4x91 ?k5x91 ?k6x91 ?hQx91 ?hYx91 ?hSx91 ?restx91; (case hix91 => (simp only [List.getElem?_toArray, List.getElem?_cons_succ, List.getElem?_cons_zero]; exact rfl)); (case k1x91 => kernel_rfl); (case k2x91 => kernel_rfl); (case k3x91 => kernel_rfl); (case k4x91 => kernel_rfl); (case k5x91 => kernel_rfl); (case k6x91 => kernel_rfl); (case hSx91 => assumption); (case hYx91 => (refine Or.inl ⟨rfl, ?hyx91⟩; intro w hSw; (try dsimp only at hSw); go_simp; (try with_reducible rfl))); (case hQx91 => exact (fun _ _ _ h => h)); (try simp only [Act.put, List.setIfInBounds_toArray, List.set_cons_zero, List.set_cons_succ]))
              (refine wpAnyL_take (n := 0) (i := 9) (oi := ?ox92) (v := ?vx92) ?hix92 ?k1x92 ?k2x92 ?k3x92 ?k4x92 ?k5x92 ?k6x92 ?hQx92 ?hYx92 ?hSx92 ?restx92; (case hix92 => (simp only [List.getElem?_toArray, List.getElem?_cons_succ, List.getElem?_cons_zero]; exact rfl)); (case k1x92 => kernel_rfl); (case k2x92 => kernel_rfl); (case k3x92 => kernel_rfl); (case k4x92 => kernel_rfl); (case k5x92 => kernel_rfl); (case k6x92 => kernel_rfl); (case hSx92 => assumption); (case hYx92 => (refine Or.inl ⟨rfl, ?hyx92⟩; intro w hSw; (try dsimp only at hSw); go_simp; (try with_reducible rfl))); (case hQx92 => exact (fun _ _ _ h => h)); (try simp only [Act.put, List.setIfInBounds_toArray, List.set_cons_zero, List.set_cons_succ]))
              (refine wpAnyL_take (n := 0) (i := 10) (oi := ?ox93) (v := ?vx93) ?hix93 ?k1x93 ?k2x93 ?k3x93 ?k4x93 ?k5x93 ?k6x93 ?hQx93 ?hYx93 ?hSx93 ?restx93; (case hix93 => (simp only [List.getElem?_toArray, List.getElem?_cons_succ, List.getElem?_cons_zero]; exact rfl)); (case k1x93 => kernel_rfl); (case k2x93 => kernel_rfl); (case k3x93 => kernel_rfl); (case k4x93 => kernel_rfl); (case k5x93 => kernel_rfl); (case k6x93 => kernel_rfl); (case hSx93 => assumption); (case hYx93 => (refine Or.inl ⟨rfl, ?hyx93⟩; intro w hSw; (try dsimp only at hSw); go_simp; (try with_reducible rfl))); (case hQx93 => exact (fun _ _ _ h => h)); (try simp only [Act.put, List.setIfInBounds_toArray, List.set_cons_zero, List.set_cons_succ]))
              (refine wpAnyL_take (n := 0) (i := 11) (oi := ?ox94) (v := ?vx94) ?hix94 ?k1x94 ?k2x94 ?k3x94 ?k4x94 ?k5x94 ?k6x94 ?hQx94 ?hYx94 ?hSx94 ?restx94; (case hix94 => (simp only [List.getElem?_toArray, List.getElem?_cons_succ, List.getElem?_cons_zero]; exact rfl)); (case k1x94 => kernel_rfl); (case k2x94 => kernel_rfl); (case k3x94 => kernel_rfl); (case k4x94 => kernel_rfl); (case k5x94 => kernel_rfl); (case k6x94 => kernel_rfl); (case hSx94 => assumption); (case hYx94 => (refine Or.inl ⟨rfl, ?hyx94⟩; intro w hSw; (try dsimp only at hSw); go_simp; (try with_reducible rfl))); (case hQx94 => exact (fun _ _ _ h => h)); (try simp only [Act.put, List.setIfInBounds_toArray, List.set_cons_zero, List.set_cons_succ]))
              (refine wpAnyL_take (n := 0) (i := 12) (oi := ?ox95) (v := ?vx95) ?hix95 ?k1x95 ?k2x95 ?k3x95 ?k4x95 ?k5x95 ?k6x95 ?hQx95 ?hYx95 ?hSx95 ?restx95; (case hix95 => (simp only [List.getElem?_toArray, List.getElem?_cons_succ, List.getElem?_cons_zero]; exact rfl)); (case k1x95 => kernel_rfl); (case k2x95 => kernel_rfl); (case k3x95 => kernel_rfl); (case k4x95 => kernel_rfl); (case k5x95 => kernel_rfl); (case k6x95 => kernel_rfl); (case hSx95 => assumption); (case hYx95 => (refine Or.inl ⟨rfl, ?hyx95⟩; intro w hSw; (try dsimp only at hSw); go_simp; (try with_reducible rfl))); (case hQx95 => exact (fun _ _ _ h => h)); (try simp only [Act.put, List.setIfInBounds_toArray, List.set_cons_zero, List.set_cons_succ]))
              (refine wpAnyL_take (n := 0) (i := 13) (oi := ?ox96) (v := ?vx96) ?hix96 ?k1x96 ?k2x96 ?k3x96 ?k4x96 ?k5x96 ?k6x96 ?hQx96 ?hYx96 ?hSx96 ?restx96; (case hix96 => (simp only [List.getElem?_toArray, List.getElem?_cons_succ, List.getElem?_cons_zero]; exact rfl)); (case k1x96 => kernel_rfl); (case k2x96 => kernel_rfl); (case k3x96 => kernel_rfl); (case k4x96 => kernel_rfl); (case k5x96 => kernel_rfl); (case k6x96 => kernel_rfl); (case hSx96 => assumption); (case hYx96 => (refine Or.inl ⟨rfl, ?hyx96⟩; intro w hSw; (try dsimp only at hSw); go_simp; (try with_reducible rfl))); (case hQx96 => exact (fun _ _ _ h => h)); (try simp only [Act.put, List.setIfInBounds_toArray, List.set_cons_zero, List.set_cons_succ]))
              (refine wpAnyL_take (n := 0) (i := 14) (oi := ?ox97) (v := ?vx97) ?hix97 ?k1x97 ?k2x97 ?k3x97 ?k4x97 ?k5x97 ?k6x97 ?hQx97 ?hYx97 ?hSx97 ?restx97; (case hix97 => (simp only [List.getElem?_toArray, List.getElem?_cons_succ, List.getElem?_cons_zero]; exact rfl)); (case k1x97 => kernel_rfl); (case k2x97 => kernel_rfl); (case k3x97 => kernel_rfl); (case k4x97 => kernel_rfl); (case k5x97 => kernel_rfl); (case k6x97 => kernel_rfl); (case hSx97 => assumption); (case hYx97 => (refine Or.inl ⟨rfl, ?hyx97⟩; intro w hSw; (try dsimp only at hSw); go_simp; (try with_reducible rfl))); (case hQx97 => exact (fun _ _ _ h => h)); (try simp only [Act.put, List.setIfInBounds_toArray, List.set_cons_zero, List.set_cons_succ]))
              (refine wpAnyL_take (n := 0) (i := 15) (oi := ?ox98) (v := ?vx98) ?hix98 ?k1x98 ?k2x98 ?k3x98 ?k4x98 ?k5x98 ?k6x98 ?hQx98 ?hYx98 ?hSx98 ?restx98; (case hix98 => (simp only [List.getElem?_toArray, List.getElem?_cons_succ, List.getElem?_cons_zero]; exact rfl)); (case k1x98 => kernel_rfl); (case k2x98 => kernel_rfl); (case k3x98 => kernel_rfl); (case k4x98 => kernel_rfl); (case k5x98 => kernel_rfl); (case k6x98 => kernel_rfl); (case hSx98 => assumption); (case hYx98 => (refine Or.inl ⟨rfl, ?hyx98⟩; intro w hSw; (try dsimp only at hSw); go_simp; (try with_reducible rfl))); (case hQx98 => exact (fun _ _ _ h => h)); (try simp only [Act.put, List.setIfInBounds_toArray, List.set_cons_zero, List.set_cons_succ]))
              (refine wpAnyL_take (n := 0) (i := 16) (oi := ?ox99) (v := ?vx99) ?hix99 ?k1x99 ?k2x99 ?k3x99 ?k4x99 ?k5x99 ?k6x99 ?hQx99 ?hYx99 ?hSx99 ?restx99; (case hix99 => (simp only [List.getElem?_toArray, List.getElem?_cons_succ, List.getElem?_cons_zero]; exact rfl)); (case k1x99 => kernel_rfl); (case k2x99 => kernel_rfl); (case k3x99 => kernel_rfl); (case k4x99 => kernel_rfl); (case k5x99 => kernel_rfl); (case k6x99 => kernel_rfl); (case hSx99 => assumption); (case hYx99 => (refine Or.inl ⟨rfl, ?hyx99⟩; intro w hSw; (try dsimp only at hSw); go_simp; (try with_reducible rfl))); (case hQx99 => exact (fun _ _ _ h => h)); (try simp only [Act.put, List.setIfInBounds_toArray, List.set_cons_zero, List.set_cons_succ]))
              (refine wpAnyL_take (n := 0) (i := 17) (oi := ?ox100) (v := ?vx100) ?hix100 ?k1x100 ?k2x100 ?k3x100 ?k4x100 ?k5x100 ?k6x100 ?hQx100 ?hYx100 ?hSx100 ?restx100; (case hix100 => (simp only [List.getElem?_toArray, List.getElem?_cons_succ, List.getElem?_cons_zero]; exact rfl)); (case k1x100 => kernel_rfl); (case k2x100 => kernel_rfl); (case k3x100 => kernel_rfl); (case k4x100 => kernel_rfl); (case k5x100 => kernel_rfl); (case k6x100 => kernel_rfl); (case hSx100 => assumption); (case hYx100 => (refine Or.inl ⟨rfl, ?hyx100⟩; intro w hSw; (try dsimp only at hSw); go_simp; (try with_reducible rfl))); (case hQx100 => exact (fun _ _ _ h => h)); (try simp only [Act.put, List.setIfInBounds_toArray, List.set_cons_zero, List.set_cons_succ]))
              refine wpAnyL_ready (rs := [18]) (by kernel_rfl) (by simp) ?_
              refine AllReadyL.last (o := ?o18x101) ?hi18x101 ?he18x101 (fun K hK => ?_) AllReadyL.nil
              (case hi18x101 => (simp only [List.getElem?_toArray, List.getElem?_cons_succ, List.getElem?_cons_zero]; exact rfl))
              (case he18x101 => kernel_rfl)
              have fz := HT2.out.oF.frozenAt h
              have vz := (HS25.out _ HB7.out).2.2.2.2
              go_simp
              (try clear hHeld)
              refine hK.out _ _ ?_
              clear hK K
              (try simp only [Act.put, List.setIfInBounds_toArray, List.set_cons_zero, List.set_cons_succ])
              (refine wpAnyL_done (by kernel_rfl) ?_ _)
              clear m1 m2 fz vz
              rw [← HI2.out]
              have hg9 : W.heap.size ≤ gf := by have := HGW.out; omega
              have hg8 : W.heap.size ≤ gs := by have := HGW.out; omega
              have hbr6 := HBR2.out.setCell (p := ⟨gf, h, none⟩) hg9 (.int .i64 i)
              have ht6 := HT2.out.setF h i
              simp only at ht6
              clear HBR2 HT2 HB6 HB7 HT HS25 HS16 HS10
              revert hbr6 ht6
              generalize (World.setCell w0 ⟨gf, h, none⟩ (.int .i64 i)) = W6
              intro hbr6 ht6
              have hFl : (F.set h i).length = nI := by have := HP4.out.n; have := HIL.out; omega
              have hSl : S.length = nI := by have := HP4.out.m; have := HIL.out; simp only [List.length_set] at *; omega
              have hfv : (F.set h i)[h]? = some i := List.getElem?_set_self (by simp only [List.length_set] at hFl; omega)
              obtain ⟨sv, hsv⟩ : ∃ sv, S[h]? = some sv := ⟨_, List.getElem?_eq_getElem (by omega)⟩
              have v9 := ht6.oF.cellAt h (by omega)
              have v8 := ht6.oS.cellAt h (by omega)
              simp only at v9 v8
              rw [flat1_get hfv] at v9
              rw [flat1_get hsv] at v8
              have y0 := ht6.box.cell 0; have y1 := ht6.box.cell 1
              simp at y0 y1
              have HS26 := Lib.hid (fun (U : World) (hU : Below W6.heap.size W6 U) => show U.cell? ⟨g, 0, none⟩ = some (.slice (some ⟨gf, 0, none⟩) nI cF) ∧ U.cell? ⟨g, 1, none⟩ = some (.slice (some ⟨gs, 0, none⟩) nI cS) ∧ U.cell? ⟨gf, h, none⟩ = some (.int .i64 i) ∧ U.cell? ⟨gs, h, none⟩ = some (.int .i64 sv) from
                ⟨bel_keep hU y0, bel_keep hU y1, bel_keep hU v9, bel_keep hU v8⟩)
              have HT6 := Lib.hid ht6; have HB7 := Lib.hid (Below.refl W6.heap.size W6); have HB8 := Lib.hid hbr6
              clear ht6 hbr6 hfv hsv v9 v8 y0 y1 hFl hSl
              have m1 : IntKind.i64.wrap (i - n) = i - n := wi (by omega)
              have m2 : IntKind.i64.wrap (i - n - O) = i - n - O := wi (by omega)
              go_upto_region 26 with fail
              refine wp_region_till [13] (fun U => U.cell? ⟨g, 0, none⟩ = some (.slice (some ⟨gf, 0, none⟩) nI cF) ∧ U.cell? ⟨g, 1, none⟩ = some (.slice (some ⟨gs, 0, none⟩) nI cS) ∧ U.cell? ⟨gf, h, none⟩ = some (.int .i64 i) ∧ U.cell? ⟨gs, h, none⟩ = some (.int .i64 sv)) (by kernel_rfl) (by exact HS26.out _ HB7.out.drew) (fun hHeld => ?_)
              have hb9 := (Below.refl W6.heap.size W6).drew
              have t0 := below_tr HB7.out hb9; have t1 := below_tr HB8.out hb9; have t2 := HT6.out.below hb9
              clear HB7 HB8 HT6
              have HB7 := Lib.hid t0; have HB8 := Lib.hid t1; have HT6 := Lib.hid t2
              clear t0 t1 t2
              clear hb9
              revert hHeld HB7 HB8 HT6
              generalize W6.drew = w0
              intro hHeld HB7 HB8 HT6
              (refine wpAnyL_take (n := 0) (i := 0) (oi := ?ox102) (v := ?vx102) ?hix102 ?k1x102 ?k2x102 ?k3x102 ?k4x102 ?k5x102 ?k6x102 ?hQx102 ?hYx102 ?hSx102 ?restx102; (case hix102 => (simp only [List.getElem?_toArray, List.getElem?_cons_succ, List.getElem?_cons_zero]; exact rfl)); (case k1x102 => kernel_rfl); (case k2x102 => kernel_rfl); (case k3x102 => kernel_rfl); (case k4x102 => kernel_rfl); (case k5x102 => kernel_rfl); (case k6x102 => kernel_rfl); (case hSx102 => assumption); (case hYx102 => (refine Or.inl ⟨rfl, ?hyx102⟩; intro w hSw; (try dsimp only at hSw); go_simp; (try with_reducible rfl))); (case hQx102 => exact (fun _ _ _ h => h)); (try simp only [Act.put, List.setIfInBounds_toArray, List.set_cons_zero, List.set_cons_succ]))
              (refine wpAnyL_take (n := 0) (i := 1) (oi := ?ox103) (v := ?vx103) ?hix103 ?k1x103 ?k2x103 ?k3x103 ?k4x103 ?k5x103 ?k6x103 ?hQx103 ?hYx103 ?hSx103 ?restx103; (case hix103 => (simp only [List.getElem?_toArray, List.getElem?_cons_succ, List.getElem?_cons_zero]; exact rfl)); (case k1x103 => kernel_rfl); (case k2x103 => kernel_rfl); (case k3x103 => kernel_rfl); (case k4x103 => kernel_rfl); (case k5x103 => kernel_rfl); (case k6x103 => kernel_rfl); (case hSx103 => assumption); (case hYx103 => (refine Or.inl ⟨rfl, ?hyx103⟩; intro w hSw; (try dsimp only at hSw); go_simp; (try with_reducible rfl))); (case hQx103 => exact (fun _ _ _ h => h)); (try simp only [Act.put, List.setIfInBounds_toArray, List.set_cons_zero, List.set_cons_succ]))
              (refine wpAnyL_take (n := 0) (i := 2) (oi := ?ox104) (v := ?vx104) ?hix104 ?k1x104 ?k2x104 ?k3x104 ?k4x104 ?k5x104 ?k6x104 ?hQx104 ?hYx104 ?hSx104 ?restx104; (case hix104 => (simp only [List.getElem?_toArray, List.getElem?_cons_succ, List.getElem?_cons_zero]; exact rfl)); (case k1x104 => kernel_rfl); (case k2x104 => kernel_rfl); (case k3x104 => kernel_rfl); (case k4x104 => kernel_rfl); (case k5x104 => kernel_rfl); (case k6x104 => kernel_rfl); (case hSx104 => assumption); (case hYx104 => (refine Or.inl ⟨rfl, ?hyx104⟩; intro w hSw; (try dsimp only at hSw); go_simp; (try with_reducible rfl))); (case hQx104 => exact (fun _ _ _ h => h)); (try simp only [Act.put, List.setIfInBounds_toArray, List.set_cons_zero, List.set_cons_succ]))
              (refine wpAnyL_take (n := 0) (i := 3) (oi := ?ox105) (v := ?vx105) ?hix105 ?k1x105 ?k2x105 ?k3x105 ?k4x105 ?k5x105 ?k6x105 ?hQx105 ?hYx105 ?hSx105 ?restx105; (case hix105 => (simp only [List.getElem?_toArray, List.getElem?_cons_succ, List.getElem?_cons_zero]; exact rfl)); (case k1x105 => kernel_rfl); (case k2x105 => kernel_rfl); (case k3x105 => kernel_rfl); (case k4x105 => kernel_rfl); (case k5x105 => kernel_rfl); (case k6x105 => kernel_rfl); (case hSx105 => assumption); (case hYx105 => (refine Or.inl ⟨rfl, ?hyx105⟩; intro w hSw; (try dsimp only at hSw); go_simp; (try with_reducible rfl))); (case hQx105 => exact (fun _ _ _ h => h)); (try simp only [Act.put, List.setIfInBounds_toArray, List.set_cons_zero, List.set_cons_succ]))
              (refine wpAnyL_take (n := 0) (i := 4) (oi := ?ox106) (v := ?vx106) ?hix106 ?k1x106 ?k2x106 ?k3x106 ?k4x106 ?k5x106 ?k6x106 ?hQx106 ?hYx106 ?hSx106 ?restx106; (case hix106 => (simp only [List.getElem?_toArray, List.getElem?_cons_succ, List.getElem?_cons_zero]; exact rfl)); (case k1x106 => kernel_rfl); (case k2x106 => kernel_rfl); (case k3x106 => kernel_rfl); (case k4x106 => kernel_rfl); (case k5x106 => kernel_rfl); (case k6x106 => kernel_rfl); (case hSx106 => assumption); (case hYx106 => (refine Or.inl ⟨rfl, ?hyx106⟩; intro w hSw; (try dsimp only at hSw); go_simp; (try with_reducible rfl))); (case hQx106 => exact (fun _ _ _ h => h)); (try simp only [Act.put, List.setIfInBounds_toArray, List.set_cons_zero, List.set_cons_succ]))
              (refine wpAnyL_take (n := 0) (i := 5) (oi := ?ox107) (v := ?vx107) ?hix107 ?k1x107 ?k2x107 ?k3x107 ?k4x107 ?k5x107 ?k6x107 ?hQx107 ?hYx107 ?hSx107 ?restx107; (case hix107 => (simp only [List.getElem?_toArray, List.getElem?_cons_succ, List.getElem?_cons_zero]; exact rfl)); (case k1x107 => kernel_rfl); (case k2x107 => kernel_rfl); (case k3x107 => kernel_rfl); (case k4x107 => kernel_rfl); (case k5x107 => kernel_rfl); (case k6x107 => kernel_rfl); (case hSx107 => assumption); (case hYx107 => (refine Or.inl ⟨rfl, ?hyx107⟩; intro w hSw; (try dsimp only at hSw); go_simp; (try with_reducible rfl))); (case hQx107 => exact (fun _ _ _ h => h)); (try simp only [Act.put, List.setIfInBounds_toArray, List.set_cons_zero, List.set_cons_succ]))
              (refine wpAnyL_take (n := 0) (i := 6) (oi := ?ox108) (v := ?vx108) ?hix108 ?k1x108 ?k2x108 ?k3x108 ?k4x108 ?k5x108 ?k6x108 ?hQx108 ?hYx108 ?hSx108 ?restx108; (case hix108 => (simp only [List.getElem?_toArray, List.getElem?_cons_succ, List.getElem?_cons_zero]; exact rfl)); (case k1x108 => kernel_rfl); (case k2x108 => kernel_rfl); (case k3x108 => kernel_rfl); (case k4x108 => kernel_rfl); (case k5x108 => kernel_rfl); (case k6x108 => kernel_rfl); (case hSx108 => assumption); (case hYx108 => (refine Or.inl ⟨rfl, ?hyx108⟩; intro w hSw; (try dsimp only at hSw); go_simp; (try with_reducible rfl))); (case hQx108 => exact (fun _ _ _ h => h)); (try simp only [Act.put, List.setIfInBounds_toArray, List.set_cons_zero, List.set_cons_succ]))
              (refine wpAnyL_take (n := 0) (i := 7) (oi := ?ox109) (v := ?vx109) ?hix109 ?k1x109 ?k2x109 ?k3x109 ?k4x109 ?k5x109 ?k6x109 ?hQx109 ?hYx109 ?hSx109 ?restx109; (case hix109 => (simp only [List.getElem?_toArray, List.getElem?_cons_succ, List.getElem?_cons_zero]; exact rfl)); (case k1x109 => kernel_rfl); (case k2x109 => kernel_rfl); (case k3x109 => kernel_rfl); (case k4x109 => kernel_rfl); (case k5x109 => kernel_rfl); (case k6x109 => kernel_rfl); (case hSx109 => assumption); (case hYx109 => (refine Or.inl ⟨rfl, ?hyx109⟩; intro w hSw; (try dsimp only at hSw); go_simp; (try with_reducible rfl))); (case hQx109 => exact (fun _ _ _ h => h)); (try simp only [Act.put, List.setIfInBounds_toArray, List.set_cons_zero, List.set_cons_succ]))
              (refine wpAnyL_take (n := 0) (i := 8) (oi := ?ox110) (v := ?vx110) ?hix110 ?k1x110 ?k2x110 ?k3x110 ?k4x110 ?k5x110 ?k6x110 ?hQx110 ?hYx110 ?hSx110 ?restx110; (case hix110 => (simp only [List.getElem?_toArray, List.getElem?_cons_succ, List.getElem?_cons_zero]; exact rfl)); (case k1x110 => kernel_rfl); (case k2x110 => kernel_rfl); (case k3x110 => kernel_rfl); (case k4x110 => kernel_rfl); (case k5x110 => kernel_rfl); (case k6x110 => kernel_rfl); (case hSx110 => assumption); (case hYx110 => (refine Or.inl ⟨rfl, ?hyx110⟩; intro w hSw; (try dsimp only at hSw); go_simp; (try with_reducible rfl))); (case hQx110 => exact (fun _ _ _ h => h)); (try simp only [Act.put, List.setIfInBounds_toArray, List.set_cons_zero, List.set_cons_succ]))
              (refine wpAnyL_take (n := 0) (i := 9) (oi := ?ox111) (v := ?vx111) ?hix111 ?k1x111 ?k2x111 ?k3x111 ?k4x111 ?k5x111 ?k6x111 ?hQx111 ?hYx111 ?hSx111 ?restx111; (case hix111 => (simp only [List.getElem?_toArray, List.getElem?_cons_succ, List.getElem?_cons_zero]; exact rfl)); (case k1x111 => kernel_rfl); (case k2x111 => kernel_rfl); (case k3x111 => kernel_rfl); (case k4x111 => kernel_rfl); (case k5x111 => kernel_rfl); (case k6x111 => kernel_rfl); (case hSx111 => assumption); (case hYx111 => (refine Or.inl ⟨rfl, ?hyx111⟩; intro w hSw; (try dsimp only at hSw); go_simp; (try with_reducible rfl))); (case hQx111 => exact (fun _ _ _ h => h)); (try simp only [Act.put, List.setIfInBounds_toArray, List.set_cons_zero, List.set_cons_succ]))
              (refine wpAnyL_take (n := 0) (i := 10) (oi := ?ox112) (v := ?vx112) ?hix112 ?k1x112 ?k2x112 ?k3x112 ?k4x112 ?k5x112 ?k6x112 ?hQx112 ?hYx112 ?hSx112 ?restx112; (case hix112 => (simp only [List.getElem?_toArray, List.getElem?_cons_succ, List.getElem?_cons_zero]; exact rfl)); (case k1x112 => kernel_rfl); (case k2x112 => kernel_rfl); (case k3x112 => kernel_rfl); (case k4x112 => kernel_rfl); (case k5x112 => kernel_rfl); (case k6x112 => kernel_rfl); (case hSx112 => assumption); (case hYx112 => (refine Or.inl ⟨rfl, ?hyx112⟩; intro w hSw; (try dsimp only at hSw); go_simp; (try with_reducible rfl))); (case hQx112 => exact (fun _ _ _ h => h)); (try simp only [Act.put, List.setIfInBounds_toArray, List.set_cons_zero, List.set_cons_succ]))
              (refine wpAnyL_take (n := 0) (i := 11) (oi := ?ox113) (v := ?vx113) ?hix113 ?k1x113 ?k2x113 ?k3x113 ?k4x113 ?k5x113 ?k6x113 ?hQx113 ?hYx113 ?hSx113 ?restx113; (case hix113 => (simp only [List.getElem?_toArray, List.getElem?_cons_succ, List.getElem?_cons_zero]; exact rfl)); (case k1x113 => kernel_rfl); (case k2x113 => kernel_rfl); (case k3x113 => kernel_rfl); (case k4x113 => kernel_rfl); (case k5x113 => kernel_rfl); (case k6x113 => kernel_rfl); (case hSx113 => assumption); (case hYx113 => (refine Or.inl ⟨rfl, ?hyx113⟩; intro w hSw; (try dsimp only at hSw); go_simp; (try with_reducible rfl))); (case hQx113 => exact (fun _ _ _ h => h)); (try simp only [Act.put, List.setIfInBounds_toArray, List.set_cons_zero, List.set_cons_succ]))
              (refine wpAnyL_take (n := 0) (i := 12) (oi := ?ox114) (v := ?vx114) ?hix114 ?k1x114 ?k2x114 ?k3x114 ?k4x114 ?k5x114 ?k6x114 ?hQx114 ?hYx114 ?hSx114 ?restx114; (case hix114 => (simp only [List.getElem?_toArray, List.getElem?_cons_succ, List.getElem?_cons_zero]; exact rfl)); (case k1x114 => kernel_rfl); (case k2x114 => kernel_rfl); (case k3x114 => kernel_rfl); (case k4x114 => kernel_rfl); (case k5x114 => kernel_rfl); (case k6x114 => kernel_rfl); (case hSx114 => assumption); (case hYx114 => (refine Or.inl ⟨rfl, ?hyx114⟩; intro w hSw; (try dsimp only at hSw); go_simp; (try with_reducible rfl))); (case hQx114 => exact (fun _ _ _ h => h)); (try simp only [Act.put, List.setIfInBounds_toArray, List.set_cons_zero, List.set_cons_succ]))
              refine wpAnyL_ready (rs := [13]) (by kernel_rfl) (by simp) ?_
              refine AllReadyL.last (o := ?o13x115) ?hi13x115 ?he13x115 (fun K hK => ?_) AllReadyL.nil
              (case hi13x115 => (simp only [List.getElem?_toArray, List.getElem?_cons_succ, List.getElem?_cons_zero]; exact rfl))
              (case he13x115 => kernel_rfl)
              have fz := HT6.out.oS.frozenAt h
              have vz := (HS26.out _ HB7.out).2.2.2
              go_simp
              (try clear hHeld)
              refine hK.out _ _ ?_
              clear hK K
              (try simp only [Act.put, List.setIfInBounds_toArray, List.set_cons_zero, List.set_cons_succ])
              (refine wpAnyL_done (by kernel_rfl) ?_ _)
              clear m1 m2 fz vz
              rw [← HSP.out]
              have HB9 := Lib.hid (HB8.out.setCell (p := ⟨gs, h, none⟩) hg8 (.int .i64 sp))
              have HT9 := Lib.hid (HT6.out.setS h sp)
              clear HB7 HB8 HT6 HS26
              revert HB9 HT9
              generalize (World.setCell w0 ⟨gs, h, none⟩ (.int .i64 sp)) = W9
              intro HB9 HT9
              go_wp2_with fail
              go_roundw
              case rel => exact ⟨h, F.set h i, S.set h sp, bb, by have := HJ.out; omega, rfl, rfl, HT9.out, HP4.out, HB9.out⟩
              case measure => simp [intOf] <;> omega
end
end Go.Proofs.Ytpijmfbpdglchaa
