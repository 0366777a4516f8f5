/- THE CONTRACT of the law's back: a Real after which some volume is in the lake. -/
import Derived.Test.YtpijmfbpdglchaaKBackLaw
import Derived.Test.YtpijmfbpdglchaaKRef5
import Derived.Test.YtpijmfbpdglchaaKRef4
import Derived.Test.YtpijmfbpdglchaaKAwake
set_option linter.unusedVariables false
set_option linter.unusedSimpArgs false
namespace Go.Proofs.Ytpijmfbpdglchaa
open Go.RowKit Go.Proofs
attribute [local go_sem ↓] Go.wp_at_zero Go.wp_at_succ
theorem take_map_snoc {α β : Type} {l : List α} {f : α → β} {k : Nat} {x : α} (h : l[k]? = some x) : (l.take (k + 1)).map f = (l.take k).map f ++ [f x] := by
  rw [List.take_add_one, h]; simp
theorem rch_vol {l : Lak} {ns : List Rng} (hok : LOk l) {s : Int} {h : Nat} {v : Int} (hr : Rch l ns s h v) : 0 ≤ v ∧ v ≤ 1000000 := by
  have hw := hok.weakV; have hs := hok.start
  cases h with
  | zero => have h1 := hr.1; have h2 := hr.2; omega
  | succ h =>
    obtain ⟨u, m, r', h1, h2, h3, h4, h5, h6⟩ := hr
    have := bdK_le hok
    have e : bdK l false = atI l.vols l.crest := rfl
    have : bdK l (decide (s ≤ (h : Int))) ≤ bdK l false := by cases decide (s ≤ (h : Int)) <;> first | omega | assumption
    omega
theorem low_bd {l : Lak} {ns : List Rng} (hok : LOk l) (hn : NetOk ns) {h : Nat} (hh : h ≤ ns.length) (hne : lowAt l (aftL l ns) h ≠ noneR) : 0 ≤ (lowAt l (aftL l ns) h).1 ∧ (lowAt l (aftL l ns) h).1 ≤ (lowAt l (aftL l ns) h).2 ∧ (lowAt l (aftL l ns) h).2 ≤ 1000000 := by
  have hg := (lowAt_good hok hn hh).bd hne
  have h1 := rch_vol hok ((lowAt_in hok hn hh).1 ⟨hg.2, Int.le_refl _⟩)
  exact ⟨hg.1, hg.2, h1.2⟩
theorem own_adr {w : World} {base : Nat} {e : TypeId} {size n c : Nat} {A : Option Addr} {xs : List Value} (h : w.ownsRow base e size (.slice A n c) n xs) (hn : 0 < n) : ∃ g, A = some ⟨g, 0, none⟩ ∧ base ≤ g ∧ g < w.heap.size := by
  rcases h.2 with ⟨h', h0⟩ | ⟨g', cap', cur, h', hb, hg, _⟩
  · omega
  · simp only [Value.slice.injEq] at h'
    obtain ⟨rfl, _, _⟩ := h'
    exact ⟨g', rfl, hb, (Array.getElem?_eq_some_iff.1 hg).1⟩
theorem flat1_get {F : List Int} {h : Nat} {x : Int} (hx : F[h]? = some x) : (F.flatMap enc1)[h]? = some (.int .i64 x) := by
  have := flatMap_get enc1_len F h x 0 _ hx rfl
  simpa using this
theorem flat1_set (F : List Int) (h : Nat) (i : Int) : (F.flatMap enc1).set h (.int .i64 i) = (F.set h i).flatMap enc1 := by
  induction F generalizing h with
  | nil => rfl
  | cons a F ih =>
    cases h with
    | zero => simp [enc1]
    | succ h => simpa [enc1, List.flatMap_cons] using ih h
theorem TwoR.setF {B : Nat} {w : World} {g gf : Nat} {cF : Nat} {SA : Option Addr} {cS : Nat} {k : Nat} {x : Rel} (H : TwoR B w g (some ⟨gf, 0, none⟩) cF SA cS k x) (h : Nat) (i : Int) :
    TwoR B (w.setCell ⟨gf, h, none⟩ (.int .i64 i)) g (some ⟨gf, 0, none⟩) cF SA cS k ⟨x.inflow.set h i, x.seep, x.start, x.soft⟩ := by
  have hgr := only_setCell (World.grownBy.refl w (some gf)) (p := ⟨gf, h, none⟩) (.inl rfl) (.int .i64 i)
  refine ⟨H.box.far (p := ⟨gf, h, none⟩) (fun e => own_blk_ne H.oF H.box (by decide) (by rw [e]; rfl)) _, ?_, H.oS.kept hgr (.inr (H.ap gf rfl)), H.ap⟩
  rw [← flat1_set]
  exact (H.oF.stored h (.int .i64 i)).1
theorem TwoR.setS {B : Nat} {w : World} {g gs : Nat} {cF : Nat} {FA : Option Addr} {cS : Nat} {k : Nat} {x : Rel} (H : TwoR B w g FA cF (some ⟨gs, 0, none⟩) cS k x) (h : Nat) (i : Int) :
    TwoR B (w.setCell ⟨gs, h, none⟩ (.int .i64 i)) g FA cF (some ⟨gs, 0, none⟩) cS k ⟨x.inflow, x.seep.set h i, x.start, x.soft⟩ := by
  have hgr := only_setCell (World.grownBy.refl w (some gs)) (p := ⟨gs, h, none⟩) (.inl rfl) (.int .i64 i)
  refine ⟨H.box.far (p := ⟨gs, h, none⟩) (fun e => own_blk_ne H.oS H.box (by decide) (by rw [e]; rfl)) _, H.oF.kept hgr (.inr (H.ap.symm gs rfl)), ?_, H.ap⟩
  rw [← flat1_set]
  exact (H.oS.stored h (.int .i64 i)).1
def BackP (w : World) (n : Nat) (l : Lak) (ws : List Wrk) (c : List Int) (k : Nat) (goal : Int) (e : Ending) (w' : World) : Prop :=
  ∃ FA cF SA cS x, e = .returned (.tuple #[.agg (xA FA n cF SA n cS x), .bool true]) ∧ RdX w' FA n SA n x ∧ n ≤ cF ∧ n ≤ cS ∧ Fits l x ∧ vAt ws c x (k + 1) = goal ∧ (∀ j, j ≤ k → brkB l ws c x j = false) ∧ Below w.heap.size w w'
section
variable {VA IA WA CA TA : Option Addr} {nV cV nI cI nW cW nC cC cT : Nat} {l : Lak} {ws : List Wrk} {c : List Int} {w : World} {k : Nat} {goal : Int}
set_option linter.unusedSimpArgs false in
set_option maxRecDepth 100000 in
set_option maxHeartbeats 8000000 in
theorem back_c (h : RdL w VA nV IA nI l) (hw : Rd encW 3 w WA nW ws) (hc : Rd enc1 1 w CA nC c) (hs : Rd encT 4 w TA nI (sttL l ws c)) (hok : LOk l) (hwk : WOk ws) (hcho : choB ws.length c = true) (hk : k < nI) (hg : Rch l (netL l ws c) l.soft.2 (k + 1) goal) :
    Calls Try.prog 48 #[.agg (lA VA nV cV IA nI cI l), .slice WA nW cW, .slice CA nC cC, .slice TA nI cT, .int .i64 k, .int .i64 goal] w (BackP w nI l ws c k goal) := by
  obtain ⟨bs, os, st0, hTA0, _⟩ := hs.atT hk
  subst hTA0
  obtain ⟨W, hW⟩ : ∃ W, W = ((w.alloc (.cells (lA VA nV cV IA nI cI l) 27)).alloc (.cells (xA none 0 0 none 0 0 ⟨[], [], 0, 0⟩) 75)) := ⟨_, rfl⟩
  have hb : Below w.heap.size w W := by rw [hW]; exact ((Below.refl _ _).alloc (Nat.le_refl _) _).alloc (by simp) _
  have hX := (Blk.new w 27 (lA VA nV cV IA nI cI l)).alloc (.cells (xA none 0 0 none 0 0 ⟨[], [], 0, 0⟩) 75)
  have hY := Blk.new (w.alloc (.cells (lA VA nV cV IA nI cI l) 27)) 75 (xA none 0 0 none 0 0 ⟨[], [], 0, 0⟩)
  simp only [World.size_alloc] at hY
  rw [← hW] at hX hY
  have hst := hok.start; have hso := hok.soft; have hse := hok.seep; have hwv := hok.weakV; have h60 := hok.h; have hil := h.infl.len
  have hnI : nI ≤ 60 := by omega
  have HB := Lib.hid hb; have HW := Lib.hid hW; have HY := Lib.hid hY; have HIL := Lib.hid hil
  have HPU := Lib.hid (fun (U : World) (hU : Below W.heap.size W U) (j : Int) => rPumped_c (cW := cW) (cC := cC) (hw.below (hb.trans (hU.mono hb.size))) (hc.below (hb.trans (hU.mono hb.size))) hwk hcho j)
  have HXL := Lib.hid (fun (U : World) (hU : Below W.heap.size W U) => blk_lA (hX.below hU hX.lt))
  have hWw : w.heap.size < W.heap.size := hX.lt
  have HH := Lib.hid (h.infl.below hb); have HST := Lib.hid (hs.below hb); have HOK := Lib.hid hok; have HWO := Lib.hid hwk; have HCO := Lib.hid hcho; have HG := Lib.hid hg; have HNK := Lib.hid (netOk hok ws c)
  clear hb hW hX hY h hw hc hs hok hil hg hwk hcho
  go_enter Try.func48, Try.ntmps48
  go_upto_region 1 with fail
  rw [← HW.out]
  obtain ⟨x0, x1, x2, x3, x4, x5, x6, x7, x8, x9⟩ := HXL.out _ (Below.refl _ _)
  go_upto_region 2 with fail
  have hBN := Blk.new W 75 (xA none 0 0 none 0 0 ⟨[], [], 0, l.soft.2⟩)
  have hBW := (Below.refl W.heap.size W).alloc (Nat.le_refl _) (.cells (xA none 0 0 none 0 0 ⟨[], [], 0, l.soft.2⟩) 75)
  obtain ⟨i0, hi0, hz0, hz1, hz2⟩ := info_parts infoInt
  have HI := Lib.hid hi0; have HZ0 := Lib.hid hz0; have HZ1 := Lib.hid hz1; have HZ2 := Lib.hid hz2
  have HT := Lib.hid (show TwoR W.heap.size _ W.heap.size none 0 none 0 0 ⟨[], [], 0, l.soft.2⟩ from ⟨hBN, World.ownsRow_nil _ _ _ _, World.ownsRow_nil _ _ _ _, Apart.none _ _ _⟩)
  have HBC := Lib.hid hBW
  obtain ⟨g, hgW⟩ : ∃ g, g = W.heap.size := ⟨_, rfl⟩
  have HGW := Lib.hid hgW
  clear hBN hBW hi0 hz0 hz1 hz2 x0 x1 x2 x3 x4 x5 x6 x7 x8 x9
  rw [show #[Value.slice none 0 0, Value.slice none 0 0, Value.int IntKind.i64 0, Value.int IntKind.i64 l.soft.2] = xA none 0 0 none 0 0 ⟨[], [], 0, l.soft.2⟩ from rfl]
  revert HT HBC
  generalize (W.alloc (Obj.cells (xA none 0 0 none 0 0 ⟨[], [], 0, l.soft.2⟩) 75)) = W2
  intro HT HBC
  rw [← hgW] at HT ⊢
  clear hgW
  obtain ⟨x0, x1, x2, x3, x4, x5, x6, x7, x8, x9⟩ := HXL.out _ HBC.out
  go_wp2_with fail
  go_loopw [15] (fun i wr => ∃ (j : Nat) (FA : Option Addr) (cF : Nat) (SA : Option Addr) (cS : Nat), j ≤ nI ∧ i = .int .i64 j ∧ TwoR g wr g FA cF SA cS j ⟨(l.inflow.take j).map (·.1), (l.inflow.take j).map (fun _ => l.seep.2), 0, l.soft.2⟩ ∧ Below W.heap.size W wr) (fun i _ => nI - (intOf i).toNat)
  case atStart => exact ⟨0, none, 0, none, 0, Nat.zero_le _, rfl, by simpa using HT.out, HBC.out⟩
  case round =>
    obtain ⟨j, FA, cF, SA, cS, hj, rfl, htr, hbr⟩ := hrel
    clear HBC HT x0 x1 x2 x3 x4 x5 x6 x7 x8 x9
    obtain ⟨z0, z1, z2, z3, z4, z5, z6, z7, z8, z9⟩ := HXL.out _ hbr
    by_cases hlt : j < nI
    · -- [A
      obtain ⟨b, o, r, hA, hbl, hr, e0, e1⟩ := HH.out.at2 hlt
      have hIA : IA = some ⟨b, o, none⟩ := hA
      have hrb := HOK.out.inflow j r hr
      have hWr := hbr.size
      have y0 := htr.box.cell 0; have y1 := htr.box.cell 1
      simp at y0 y1
      have d0 := bel_keep hbr e0; have d1 := bel_keep hbr e1
      have hgg := HGW.out
      have hn1 := htr.not_low (b := w.heap.size) (by omega); have hn2 := htr.not_low (b := b) (by omega); have hn3 := htr.not_box
      rw [hIA] at z9
      have HS5 := Lib.hid (fun (U : World) (hU : Fr (OwnB FA cF SA cS j) wr U) => show U.cell? ⟨w.heap.size, 8, none⟩ = some (.int .i64 l.seep.2) ∧ U.cell? ⟨w.heap.size, 9, none⟩ = some (.slice (some ⟨b, o, none⟩) nI cI) ∧ U.cell? ⟨b, o + j * 2, none⟩ = some (.int .i64 r.1) ∧ U.cell? ⟨g, 0, none⟩ = some (.slice FA j cF) ∧ U.cell? ⟨g, 1, none⟩ = some (.slice SA j cS) from
        ⟨fr_cell hU hn1 z8, fr_cell hU hn1 z9, fr_cell hU hn2 d0, fr_cell hU hn3 y0, fr_cell hU hn3 y1⟩)
      have HBC := Lib.hid hbr; have HT := Lib.hid htr
      have HR1 := Lib.hid (take_map_snoc (f := (·.1)) hr); have HR2 := Lib.hid (take_map_snoc (f := fun _ : Rng => l.seep.2) hr)
      have HFR := Lib.hid (Fr.refl (OwnB FA cF SA cS j) wr)
      have hkn : (j : Int) < (nI : Int) := by omega
      have hk0 : (0 : Int) ≤ (j : Int) := by omega
      have HGE := Lib.hid (show W.heap.size ≤ g by omega)
      clear hbr htr hr z0 z1 z2 z3 z4 z5 z6 z7 z8 e0 e1 d0 d1 y0 y1 hn1 hn2 hn3 hgg hA hIA
      go_upto_region 5 with fail
      clear z9
      have hXb := HT.out.box; have hXF := HT.out.oF; have hXS := HT.out.oS; have hXA := HT.out.ap
      simp only at hXF hXS
      have HX := Lib.hid hXb; have HF := Lib.hid hXF; have HS := Lib.hid hXS; have HAP := Lib.hid hXA
      obtain ⟨FL, hFL⟩ : ∃ FL, FL = (l.inflow.take j).map (·.1) := ⟨_, rfl⟩
      obtain ⟨SL, hSL⟩ : ∃ SL, SL = (l.inflow.take j).map (fun _ : Rng => l.seep.2) := ⟨_, rfl⟩
      rw [← hFL] at HX HF HR1
      rw [← hSL] at HX HS HR2
      clear hXb hXF hXS hXA HT hFL hSL
      refine wp_region_till [18] (fun U => U.cell? ⟨w.heap.size, 8, none⟩ = some (.int .i64 l.seep.2) ∧ U.cell? ⟨w.heap.size, 9, none⟩ = some (.slice (some ⟨b, o, none⟩) nI cI) ∧ U.cell? ⟨b, o + j * 2, none⟩ = some (.int .i64 r.1) ∧ U.cell? ⟨g, 0, none⟩ = some (.slice FA j cF) ∧ U.cell? ⟨g, 1, none⟩ = some (.slice SA j cS)) (by kernel_rfl) (by exact HS5.out wr.drew (HFR.out.more ((Below.refl wr.heap.size wr).drew))) (fun hHeld => ?_)
      have hb9 := (Below.refl wr.heap.size wr).drew
      have t0 := below_tr HBC.out hb9; have t1 := HFR.out.more hb9; have t2 := HX.out.below hb9 HX.out.lt; have t3 := own_mono HF.out hb9; have t4 := own_mono HS.out hb9
      clear HBC HFR HX HF HS
      have HBC := Lib.hid t0; have HFR := Lib.hid t1; have HX := Lib.hid t2; have HF := Lib.hid t3; have HS := Lib.hid t4
      clear t0 t1 t2 t3 t4
      clear hb9
      revert hHeld HBC HFR HX HF HS
      generalize wr.drew = w0
      intro hHeld HBC HFR HX HF HS
      (refine wpAnyL_take (n := 0) (i := 0) (oi := ?ox307) (v := ?vx307) ?hix307 ?k1x307 ?k2x307 ?k3x307 ?k4x307 ?k5x307 ?k6x307 ?hQx307 ?hYx307 ?hSx307 ?restx307; (case hix307 => (simp only [List.getElem?_toArray, List.getElem?_cons_succ, List.getElem?_cons_zero]; exact rfl)); (case k1x307 => kernel_rfl); (case k2x307 => kernel_rfl); (case k3x307 => kernel_rfl); (case k4x307 => kernel_rfl); (case k5x307 => kernel_rfl); (case k6x307 => kernel_rfl); (case hSx307 => assumption); (case hYx307 => (refine Or.inl ⟨rfl, ?hyx307⟩; intro w hSw; (try dsimp only at hSw); go_simp; (try with_reducible rfl))); (case hQx307 => exact (fun _ _ _ h => h)); (try simp only [Act.put, List.setIfInBounds_toArray, List.set_cons_zero, List.set_cons_succ]))
      (refine wpAnyL_take (n := 0) (i := 1) (oi := ?ox308) (v := ?vx308) ?hix308 ?k1x308 ?k2x308 ?k3x308 ?k4x308 ?k5x308 ?k6x308 ?hQx308 ?hYx308 ?hSx308 ?restx308; (case hix308 => (simp only [List.getElem?_toArray, List.getElem?_cons_succ, List.getElem?_cons_zero]; exact rfl)); (case k1x308 => kernel_rfl); (case k2x308 => kernel_rfl); (case k3x308 => kernel_rfl); (case k4x308 => kernel_rfl); (case k5x308 => kernel_rfl); (case k6x308 => kernel_rfl); (case hSx308 => assumption); (case hYx308 => (refine Or.inl ⟨rfl, ?hyx308⟩; intro w hSw; (try dsimp only at hSw); go_simp; (try with_reducible rfl))); (case hQx308 => exact (fun _ _ _ h => h)); (try simp only [Act.put, List.setIfInBounds_toArray, List.set_cons_zero, List.set_cons_succ]))
      (refine wpAnyL_take (n := 0) (i := 2) (oi := ?ox309) (v := ?vx309) ?hix309 ?k1x309 ?k2x309 ?k3x309 ?k4x309 ?k5x309 ?k6x309 ?hQx309 ?hYx309 ?hSx309 ?restx309; (case hix309 => (simp only [List.getElem?_toArray, List.getElem?_cons_succ, List.getElem?_cons_zero]; exact rfl)); (case k1x309 => kernel_rfl); (case k2x309 => kernel_rfl); (case k3x309 => kernel_rfl); (case k4x309 => kernel_rfl); (case k5x309 => kernel_rfl); (case k6x309 => kernel_rfl); (case hSx309 => assumption); (case hYx309 => (refine Or.inl ⟨rfl, ?hyx309⟩; intro w hSw; (try dsimp only at hSw); go_simp; (try with_reducible rfl))); (case hQx309 => exact (fun _ _ _ h => h)); (try simp only [Act.put, List.setIfInBounds_toArray, List.set_cons_zero, List.set_cons_succ]))
      (refine wpAnyL_take (n := 0) (i := 3) (oi := ?ox310) (v := ?vx310) ?hix310 ?k1x310 ?k2x310 ?k3x310 ?k4x310 ?k5x310 ?k6x310 ?hQx310 ?hYx310 ?hSx310 ?restx310; (case hix310 => (simp only [List.getElem?_toArray, List.getElem?_cons_succ, List.getElem?_cons_zero]; exact rfl)); (case k1x310 => kernel_rfl); (case k2x310 => kernel_rfl); (case k3x310 => kernel_rfl); (case k4x310 => kernel_rfl); (case k5x310 => kernel_rfl); (case k6x310 => kernel_rfl); (case hSx310 => assumption); (case hYx310 => (refine Or.inl ⟨rfl, ?hyx310⟩; intro w hSw; (try dsimp only at hSw); go_simp; (try with_reducible rfl))); (case hQx310 => exact (fun _ _ _ h => h)); (try simp only [Act.put, List.setIfInBounds_toArray, List.set_cons_zero, List.set_cons_succ]))
      (refine wpAnyL_take (n := 0) (i := 4) (oi := ?ox311) (v := ?vx311) ?hix311 ?k1x311 ?k2x311 ?k3x311 ?k4x311 ?k5x311 ?k6x311 ?hQx311 ?hYx311 ?hSx311 ?restx311; (case hix311 => (simp only [List.getElem?_toArray, List.getElem?_cons_succ, List.getElem?_cons_zero]; exact rfl)); (case k1x311 => kernel_rfl); (case k2x311 => kernel_rfl); (case k3x311 => kernel_rfl); (case k4x311 => kernel_rfl); (case k5x311 => kernel_rfl); (case k6x311 => kernel_rfl); (case hSx311 => assumption); (case hYx311 => (refine Or.inl ⟨rfl, ?hyx311⟩; intro w hSw; (try dsimp only at hSw); go_simp; (try with_reducible rfl))); (case hQx311 => exact (fun _ _ _ h => h)); (try simp only [Act.put, List.setIfInBounds_toArray, List.set_cons_zero, List.set_cons_succ]))
      (refine wpAnyL_take (n := 0) (i := 5) (oi := ?ox312) (v := ?vx312) ?hix312 ?k1x312 ?k2x312 ?k3x312 ?k4x312 ?k5x312 ?k6x312 ?hQx312 ?hYx312 ?hSx312 ?restx312; (case hix312 => (simp only [List.getElem?_toArray, List.getElem?_cons_succ, List.getElem?_cons_zero]; exact rfl)); (case k1x312 => kernel_rfl); (case k2x312 => kernel_rfl); (case k3x312 => kernel_rfl); (case k4x312 => kernel_rfl); (case k5x312 => kernel_rfl); (case k6x312 => kernel_rfl); (case hSx312 => assumption); (case hYx312 => (refine Or.inl ⟨rfl, ?hyx312⟩; intro w hSw; (try dsimp only at hSw); go_simp; (try with_reducible rfl))); (case hQx312 => exact (fun _ _ _ h => h)); (try simp only [Act.put, List.setIfInBounds_toArray, List.set_cons_zero, List.set_cons_succ]))
      (refine wpAnyL_take (n := 0) (i := 6) (oi := ?ox313) (v := ?vx313) ?hix313 ?k1x313 ?k2x313 ?k3x313 ?k4x313 ?k5x313 ?k6x313 ?hQx313 ?hYx313 ?hSx313 ?restx313; (case hix313 => (simp only [List.getElem?_toArray, List.getElem?_cons_succ, List.getElem?_cons_zero]; exact rfl)); (case k1x313 => kernel_rfl); (case k2x313 => kernel_rfl); (case k3x313 => kernel_rfl); (case k4x313 => kernel_rfl); (case k5x313 => kernel_rfl); (case k6x313 => kernel_rfl); (case hSx313 => assumption); (case hYx313 => (refine Or.inl ⟨rfl, ?hyx313⟩; intro w hSw; (try dsimp only at hSw); go_simp; (try with_reducible rfl))); (case hQx313 => exact (fun _ _ _ h => h)); (try simp only [Act.put, List.setIfInBounds_toArray, List.set_cons_zero, List.set_cons_succ]))
      (refine wpAnyL_take (n := 0) (i := 7) (oi := ?ox314) (v := ?vx314) ?hix314 ?k1x314 ?k2x314 ?k3x314 ?k4x314 ?k5x314 ?k6x314 ?hQx314 ?hYx314 ?hSx314 ?restx314; (case hix314 => (simp only [List.getElem?_toArray, List.getElem?_cons_succ, List.getElem?_cons_zero]; exact rfl)); (case k1x314 => kernel_rfl); (case k2x314 => kernel_rfl); (case k3x314 => kernel_rfl); (case k4x314 => kernel_rfl); (case k5x314 => kernel_rfl); (case k6x314 => kernel_rfl); (case hSx314 => assumption); (case hYx314 => (refine Or.inl ⟨rfl, ?hyx314⟩; intro w hSw; (try dsimp only at hSw); go_simp; (try with_reducible rfl))); (case hQx314 => exact (fun _ _ _ h => h)); (try simp only [Act.put, List.setIfInBounds_toArray, List.set_cons_zero, List.set_cons_succ]))
      (refine wpAnyL_take (n := 0) (i := 10) (oi := ?ox315) (v := ?vx315) ?hix315 ?k1x315 ?k2x315 ?k3x315 ?k4x315 ?k5x315 ?k6x315 ?hQx315 ?hYx315 ?hSx315 ?restx315; (case hix315 => (simp only [List.getElem?_toArray, List.getElem?_cons_succ, List.getElem?_cons_zero]; exact rfl)); (case k1x315 => kernel_rfl); (case k2x315 => kernel_rfl); (case k3x315 => kernel_rfl); (case k4x315 => kernel_rfl); (case k5x315 => kernel_rfl); (case k6x315 => kernel_rfl); (case hSx315 => assumption); (case hYx315 => (refine Or.inl ⟨rfl, ?hyx315⟩; intro w hSw; (try dsimp only at hSw); go_simp; (try with_reducible rfl))); (case hQx315 => exact (fun _ _ _ h => h)); (try simp only [Act.put, List.setIfInBounds_toArray, List.set_cons_zero, List.set_cons_succ]))
      (refine wpAnyL_take (n := 0) (i := 11) (oi := ?ox316) (v := ?vx316) ?hix316 ?k1x316 ?k2x316 ?k3x316 ?k4x316 ?k5x316 ?k6x316 ?hQx316 ?hYx316 ?hSx316 ?restx316; (case hix316 => (simp only [List.getElem?_toArray, List.getElem?_cons_succ, List.getElem?_cons_zero]; exact rfl)); (case k1x316 => kernel_rfl); (case k2x316 => kernel_rfl); (case k3x316 => kernel_rfl); (case k4x316 => kernel_rfl); (case k5x316 => kernel_rfl); (case k6x316 => kernel_rfl); (case hSx316 => assumption); (case hYx316 => (refine Or.inl ⟨rfl, ?hyx316⟩; intro w hSw; (try dsimp only at hSw); go_simp; (try with_reducible rfl))); (case hQx316 => exact (fun _ _ _ h => h)); (try simp only [Act.put, List.setIfInBounds_toArray, List.set_cons_zero, List.set_cons_succ]))
      (refine wpAnyL_take (n := 4) (i := 12) (oi := ?ox317) (v := ?vx317) ?hix317 ?k1x317 ?k2x317 ?k3x317 ?k4x317 ?k5x317 ?k6x317 ?hQx317 ?hYx317 ?hSx317 ?restx317; (case hix317 => (simp only [List.getElem?_toArray, List.getElem?_cons_succ, List.getElem?_cons_zero]; exact rfl)); (case k1x317 => kernel_rfl); (case k2x317 => kernel_rfl); (case k3x317 => kernel_rfl); (case k4x317 => kernel_rfl); (case k5x317 => kernel_rfl); (case k6x317 => kernel_rfl); (case hSx317 => assumption); (case hYx317 => (refine Or.inl ⟨rfl, ?hyx317⟩; intro w hSw; (try dsimp only at hSw); go_simp; (try with_reducible rfl))); (case hQx317 => exact (fun _ _ _ h => h)); (try simp only [Act.put, List.setIfInBounds_toArray, List.set_cons_zero, List.set_cons_succ]))
      (refine wpAnyL_take (n := 3) (i := 13) (oi := ?ox318) (v := ?vx318) ?hix318 ?k1x318 ?k2x318 ?k3x318 ?k4x318 ?k5x318 ?k6x318 ?hQx318 ?hYx318 ?hSx318 ?restx318; (case hix318 => (simp only [List.getElem?_toArray, List.getElem?_cons_succ, List.getElem?_cons_zero]; exact rfl)); (case k1x318 => kernel_rfl); (case k2x318 => kernel_rfl); (case k3x318 => kernel_rfl); (case k4x318 => kernel_rfl); (case k5x318 => kernel_rfl); (case k6x318 => kernel_rfl); (case hSx318 => assumption); (case hYx318 => (refine Or.inl ⟨rfl, ?hyx318⟩; intro w hSw; (try dsimp only at hSw); go_simp; (try with_reducible rfl))); (case hQx318 => exact (fun _ _ _ h => h)); (try simp only [Act.put, List.setIfInBounds_toArray, List.set_cons_zero, List.set_cons_succ]))
      (refine wpAnyL_take (n := 2) (i := 14) (oi := ?ox319) (v := ?vx319) ?hix319 ?k1x319 ?k2x319 ?k3x319 ?k4x319 ?k5x319 ?k6x319 ?hQx319 ?hYx319 ?hSx319 ?restx319; (case hix319 => (simp only [List.getElem?_toArray, List.getElem?_cons_succ, List.getElem?_cons_zero]; exact rfl)); (case k1x319 => kernel_rfl); (case k2x319 => kernel_rfl); (case k3x319 => kernel_rfl); (case k4x319 => kernel_rfl); (case k5x319 => kernel_rfl); (case k6x319 => kernel_rfl); (case hSx319 => assumption); (case hYx319 => (refine Or.inl ⟨rfl, ?hyx319⟩; intro w hSw; (try dsimp only at hSw); go_simp; (try with_reducible rfl))); (case hQx319 => exact (fun _ _ _ h => h)); (try simp only [Act.put, List.setIfInBounds_toArray, List.set_cons_zero, List.set_cons_succ]))
      refine wpAnyL_ready (rs := [8, 15]) (by kernel_rfl) (by simp) ?_
      refine AllReadyL.cons (o := ?o8x320) ?hi8x320 (fun K hK => ?_) (AllReadyL.cons (o := ?o15x320) ?hi15x320 (fun K hK => ?_) AllReadyL.nil)
      (case hi8x320 => (simp only [List.getElem?_toArray, List.getElem?_cons_succ, List.getElem?_cons_zero]; exact rfl))
      (case hi15x320 => (simp only [List.getElem?_toArray, List.getElem?_cons_succ, List.getElem?_cons_zero]; exact rfl))
      · skip
        go_simp
        have hal := (Below.refl w0.heap.size w0).alloc (Nat.le_refl _) (.cells #[.int .i64 r.1] 3)
        have hn := Blk.new w0 3 #[.int .i64 r.1]
        have t0 := below_tr HBC.out hal; have t1 := HFR.out.more hal; have t2 := HX.out.below hal HX.out.lt; have t3 := own_mono HF.out hal; have t4 := own_mono HS.out hal
        clear HBC HFR HX HF HS
        have HBC := Lib.hid t0; have HFR := Lib.hid t1; have HX := Lib.hid t2; have HF := Lib.hid t3; have HS := Lib.hid t4
        clear t0 t1 t2 t3 t4
        have HA8 := Lib.hid hn
        clear hal hn
        (try clear hHeld)
        refine hK.out _ _ (by (try dsimp only); exact HS5.out _ HFR.out) (fun hHeld => ?_)
        clear hK K
        (try simp only [Act.put, List.setIfInBounds_toArray, List.set_cons_zero, List.set_cons_succ])
        revert hHeld HBC HFR HX HF HS HA8
        generalize hgA : w0.heap.size = gA
        generalize (World.alloc w0 (.cells #[.int .i64 r.1] 3)) = w0
        intro HBC HFR HX HF HS HA8 hHeld
        clear hgA
        refine wpAnyL_ready (rs := [9, 15]) (by kernel_rfl) (by simp) ?_
        refine AllReadyL.cons (o := ?o9x321) ?hi9x321 (fun K hK => ?_) (AllReadyL.cons (o := ?o15x321) ?hi15x321 (fun K hK => ?_) AllReadyL.nil)
        (case hi9x321 => (simp only [List.getElem?_toArray, List.getElem?_cons_succ, List.getElem?_cons_zero]; exact rfl))
        (case hi15x321 => (simp only [List.getElem?_toArray, List.getElem?_cons_succ, List.getElem?_cons_zero]; exact rfl))
        · skip
          refine step_append_lies _ (by rfl) _ _ _ (by rfl) g 3 i0 _ 1 8 Try.underlying22 HI.out HZ0.out HZ1.out HZ2.out rfl (by omega) _ j (FL.flatMap enc1) (by rfl) HF.out ⟨gA, 0, none⟩ 1 1 [.int .i64 r.1] (by rfl) (by rfl) (World.news_of_block (cs := #[.int .i64 r.1]) (t := 3) (fr := (0, 0)) HA8.out) (by simp [Value.oneCell']) (by omega) (by unfold maxLen; omega) (by omega) (by have := HX.out.lt; omega) _ rfl ?_
          intro gF capF w3 hown3 hgrow hat hlt3
          have hge1 := HBC.out.size
          have hoS3 := HS.out.kept hgrow (by
            cases hq : (Value.slice SA j cS).ownBlock with
            | none => exact .inl rfl
            | some z => exact .inr fun e => HAP.out z e.symm hq)
          have hbx3 := HX.out.grown hgrow (fun e => own_blk_ne HF.out HX.out (by decide) e.symm)
          have hap3 := HAP.out.grow (n' := j + 1) (c := capF) (gg := gF) HS.out (hat.imp id fun e => by omega)
          have hb0 := HBC.out.grown hgrow hge1 (fun z hz => (by have := (HF.out.lt z hz).1; have := HGE.out; omega))
          have hf0 := HFR.out.step hgrow (fun z hz => .inl (.inl hz))
          have ho3 : w3.ownsRow g 3 1 (.slice (some ⟨gF, 0, none⟩) (j + 1) capF) (j + 1) ((FL ++ [r.1]).flatMap enc1) := by
            rw [List.flatMap_append]; simpa [enc1] using hown3
          (first | (have hac := HA15.out.grown hgrow (fun e => HNF.out _ e.symm rfl); clear HA15; have HA15 := Lib.hid hac; clear hac HNF) | skip)
          clear HBC HFR HF HS HX HAP
          clear HA8
          have HBC := Lib.hid hb0; have HFR := Lib.hid hf0; have HF := Lib.hid ho3; have HS := Lib.hid hoS3; have HX := Lib.hid hbx3; have HAP := Lib.hid hap3
          clear hge1 hoS3 hbx3 hap3 hb0 hf0 ho3 hown3 hgrow hat hlt3
          (try clear hHeld)
          refine hK.out _ _ (by (try dsimp only); exact HS5.out _ HFR.out) (fun hHeld => ?_)
          clear hK K
          (try simp only [Act.put, List.setIfInBounds_toArray, List.set_cons_zero, List.set_cons_succ])
          (refine wpAnyL_take (n := 0) (i := 17) (oi := ?ox322) (v := ?vx322) ?hix322 ?k1x322 ?k2x322 ?k3x322 ?k4x322 ?k5x322 ?k6x322 ?hQx322 ?hYx322 ?hSx322 ?restx322; (case hix322 => (simp only [List.getElem?_toArray, List.getElem?_cons_succ, List.getElem?_cons_zero]; exact rfl)); (case k1x322 => kernel_rfl); (case k2x322 => kernel_rfl); (case k3x322 => kernel_rfl); (case k4x322 => kernel_rfl); (case k5x322 => kernel_rfl); (case k6x322 => kernel_rfl); (case hSx322 => assumption); (case hYx322 => (refine Or.inl ⟨rfl, ?hyx322⟩; intro w hSw; (try dsimp only at hSw); go_simp; (try with_reducible rfl))); (case hQx322 => exact (fun _ _ _ h => h)); (try simp only [Act.put, List.setIfInBounds_toArray, List.set_cons_zero, List.set_cons_succ]))
          refine wpAnyL_ready (rs := [15]) (by kernel_rfl) (by simp) ?_
          refine AllReadyL.cons (o := ?o15x323) ?hi15x323 (fun K hK => ?_) AllReadyL.nil
          (case hi15x323 => (simp only [List.getElem?_toArray, List.getElem?_cons_succ, List.getElem?_cons_zero]; exact rfl))
          go_simp
          have hal := (Below.refl w3.heap.size w3).alloc (Nat.le_refl _) (.cells #[.int .i64 l.seep.2] 3)
          have hn := Blk.new w3 3 #[.int .i64 l.seep.2]
          have hnf := fun z hz => Nat.ne_of_lt (own_block_lt HF.out (g := z) hz)
          have t0 := below_tr HBC.out hal; have t1 := HFR.out.more hal; have t2 := HX.out.below hal HX.out.lt; have t3 := own_mono HF.out hal; have t4 := own_mono HS.out hal
          clear HBC HFR HX HF HS
          have HBC := Lib.hid t0; have HFR := Lib.hid t1; have HX := Lib.hid t2; have HF := Lib.hid t3; have HS := Lib.hid t4
          clear t0 t1 t2 t3 t4
          have HA15 := Lib.hid hn
          clear hal hn
          (try clear hHeld)
          refine hK.out _ _ (by (try dsimp only); exact HS5.out _ HFR.out) (fun hHeld => ?_)
          clear hK K
          (try simp only [Act.put, List.setIfInBounds_toArray, List.set_cons_zero, List.set_cons_succ])
          revert hHeld HBC HFR HX HF HS HA15
          generalize hgC : w3.heap.size = gC
          generalize (World.alloc w3 (.cells #[.int .i64 l.seep.2] 3)) = w0
          intro HBC HFR HX HF HS HA15 hHeld
          have HNF := Lib.hid (fun z hz => hgC ▸ hnf z hz)
          clear hgC hnf
          refine wpAnyL_ready (rs := [16]) (by kernel_rfl) (by simp) ?_
          refine AllReadyL.cons (o := ?o16x324) ?hi16x324 (fun K hK => ?_) AllReadyL.nil
          (case hi16x324 => (simp only [List.getElem?_toArray, List.getElem?_cons_succ, List.getElem?_cons_zero]; exact rfl))
          refine step_append_lies _ (by rfl) _ _ _ (by rfl) g 3 i0 _ 1 8 Try.underlying22 HI.out HZ0.out HZ1.out HZ2.out rfl (by omega) _ j (SL.flatMap enc1) (by rfl) HS.out ⟨gC, 0, none⟩ 1 1 [.int .i64 l.seep.2] (by rfl) (by rfl) (World.news_of_block (cs := #[.int .i64 l.seep.2]) (t := 3) (fr := (0, 0)) HA15.out) (by simp [Value.oneCell']) (by omega) (by unfold maxLen; omega) (by omega) (by have := HX.out.lt; omega) _ rfl ?_
          intro gs caps w5 hown5 hgrow hat hlt5
          have hge1 := HBC.out.size
          have hoF5 := HF.out.kept hgrow (by
            cases hq : (Value.slice (some ⟨gF, 0, none⟩) (j + 1) capF).ownBlock with
            | none => exact .inl rfl
            | some z => exact .inr fun e => HAP.out z hq e.symm)
          have hbx5 := HX.out.grown hgrow (fun e => own_blk_ne HS.out HX.out (by decide) e.symm)
          have hap5 := (HAP.out.symm.grow (n' := j + 1) (c := caps) (gg := gs) HF.out (hat.imp id fun e => by omega)).symm
          have hb0 := HBC.out.grown hgrow hge1 (fun z hz => (by have := (HS.out.lt z hz).1; have := HGE.out; omega))
          have hf0 := HFR.out.step hgrow (fun z hz => .inl (.inr hz))
          have ho5 : w5.ownsRow g 3 1 (.slice (some ⟨gs, 0, none⟩) (j + 1) caps) (j + 1) ((SL ++ [l.seep.2]).flatMap enc1) := by
            rw [List.flatMap_append]; simpa [enc1] using hown5
          clear HBC HFR HF HS HX HAP
          clear HA15
          have HBC := Lib.hid hb0; have HFR := Lib.hid hf0; have HF := Lib.hid hoF5; have HS := Lib.hid ho5; have HX := Lib.hid hbx5; have HAP := Lib.hid hap5
          clear hge1 hoF5 hbx5 hap5 hb0 hf0 ho5 hown5 hgrow hat hlt5
          (try clear hHeld)
          refine hK.out _ _ (by (try dsimp only); exact HS5.out _ HFR.out) (fun hHeld => ?_)
          clear hK K
          (try simp only [Act.put, List.setIfInBounds_toArray, List.set_cons_zero, List.set_cons_succ])
          refine wpAnyL_ready (rs := [18]) (by kernel_rfl) (by simp) ?_
          refine AllReadyL.last (o := ?o18x325) ?hi18x325 ?he18x325 (fun K hK => ?_) AllReadyL.nil
          (case hi18x325 => (simp only [List.getElem?_toArray, List.getElem?_cons_succ, List.getElem?_cons_zero]; exact rfl))
          (case he18x325 => kernel_rfl)
          have s0 := HX.out.cell 0; have f0 := HX.out.frozen 0
          have s1 := HX.out.cell 1; have f1 := HX.out.frozen 1
          simp at s0 s1
          go_simp
          (try clear hHeld)
          refine hK.out _ _ ?_
          clear hK K
          (try simp only [Act.put, List.setIfInBounds_toArray, List.set_cons_zero, List.set_cons_succ])
          (refine wpAnyL_free (i := 19) (oi := ?ox326) (v := ?vx326) ?hix326 ?k1x326 ?k2x326 ?k3x326 ?k4x326 ?k5x326 ?hQx326 ?hYx326 ?restx326; (case hix326 => (simp only [List.getElem?_toArray, List.getElem?_cons_succ, List.getElem?_cons_zero]; exact rfl)); (case k1x326 => kernel_rfl); (case k2x326 => kernel_rfl); (case k3x326 => kernel_rfl); (case k4x326 => kernel_rfl); (case k5x326 => kernel_rfl); (case hYx326 => (refine Or.inl ⟨rfl, ?hyx326⟩; intro w hSw; (try dsimp only at hSw); go_simp; (try with_reducible rfl))); (case hQx326 => exact (fun _ _ _ h => h)); (try simp only [Act.put, List.setIfInBounds_toArray, List.set_cons_zero, List.set_cons_succ]))
          refine wpAnyL_ready (rs := [20]) (by kernel_rfl) (by simp) ?_
          refine AllReadyL.last (o := ?o20x327) ?hi20x327 ?he20x327 (fun K hK => ?_) AllReadyL.nil
          (case hi20x327 => (simp only [List.getElem?_toArray, List.getElem?_cons_succ, List.getElem?_cons_zero]; exact rfl))
          (case he20x327 => kernel_rfl)
          go_simp
          (try clear hHeld)
          refine hK.out _ _ ?_
          clear hK K
          (try simp only [Act.put, List.setIfInBounds_toArray, List.set_cons_zero, List.set_cons_succ])
          (refine wpAnyL_done (by kernel_rfl) ?_ _)
          have hx6 := (HX.out.set_ 0 (.slice (some ⟨gF, 0, none⟩) (j + 1) capF)).set_ 1 (.slice (some ⟨gs, 0, none⟩) (j + 1) caps)
          have hgr := only_setCell (only_setCell (World.grownBy.refl w5 (some g)) (p := ⟨g, 0, none⟩) (.inl rfl) (.slice (some ⟨gF, 0, none⟩) (j + 1) capF)) (p := ⟨g, 1, none⟩) (.inl rfl) (.slice (some ⟨gs, 0, none⟩) (j + 1) caps)
          have ho6 := HF.out.kept hgr (.inr (own_blk_ne HF.out HX.out (by decide)))
          have hs6 := HS.out.kept hgr (.inr (own_blk_ne HS.out HX.out (by decide)))
          have hge := HGE.out
          have hb6 := (HBC.out.setCell (p := ⟨g, 0, none⟩) hge (.slice (some ⟨gF, 0, none⟩) (j + 1) capF)).setCell (p := ⟨g, 1, none⟩) hge (.slice (some ⟨gs, 0, none⟩) (j + 1) caps)
          have HT6 := Lib.hid (TwoR.mk (x := ⟨FL ++ [r.1], SL ++ [l.seep.2], 0, l.soft.2⟩) (by simpa using hx6) ho6 hs6 HAP.out)
          have HB6 := Lib.hid hb6
          clear hx6 hgr ho6 hs6 hb6
          go_wp2_with fail
          go_roundw
          case rel => exact ⟨j + 1, _, _, _, _, by omega, by go_num, by rw [HR1.out, HR2.out]; exact HT6.out, HB6.out⟩
          case measure => simp [intOf] <;> omega
        · skip
          go_simp
          have hal := (Below.refl w0.heap.size w0).alloc (Nat.le_refl _) (.cells #[.int .i64 l.seep.2] 3)
          have hn := Blk.new w0 3 #[.int .i64 l.seep.2]
          have hnf := fun z hz => Nat.ne_of_lt (own_block_lt HF.out (g := z) hz)
          have t0 := below_tr HBC.out hal; have t1 := HFR.out.more hal; have t2 := HX.out.below hal HX.out.lt; have t3 := own_mono HF.out hal; have t4 := own_mono HS.out hal; have t5 := HA8.out.below hal HA8.out.lt
          clear HBC HFR HX HF HS HA8
          have HBC := Lib.hid t0; have HFR := Lib.hid t1; have HX := Lib.hid t2; have HF := Lib.hid t3; have HS := Lib.hid t4; have HA8 := Lib.hid t5
          clear t0 t1 t2 t3 t4 t5
          have HA15 := Lib.hid hn
          clear hal hn
          (try clear hHeld)
          refine hK.out _ _ (by (try dsimp only); exact HS5.out _ HFR.out) (fun hHeld => ?_)
          clear hK K
          (try simp only [Act.put, List.setIfInBounds_toArray, List.set_cons_zero, List.set_cons_succ])
          revert hHeld HBC HFR HX HF HS HA8 HA15
          generalize hgC : w0.heap.size = gC
          generalize (World.alloc w0 (.cells #[.int .i64 l.seep.2] 3)) = w0
          intro HBC HFR HX HF HS HA8 HA15 hHeld
          have HNF := Lib.hid (fun z hz => hgC ▸ hnf z hz)
          clear hgC hnf
          refine wpAnyL_ready (rs := [9]) (by kernel_rfl) (by simp) ?_
          refine AllReadyL.cons (o := ?o9x328) ?hi9x328 (fun K hK => ?_) AllReadyL.nil
          (case hi9x328 => (simp only [List.getElem?_toArray, List.getElem?_cons_succ, List.getElem?_cons_zero]; exact rfl))
          refine step_append_lies _ (by rfl) _ _ _ (by rfl) g 3 i0 _ 1 8 Try.underlying22 HI.out HZ0.out HZ1.out HZ2.out rfl (by omega) _ j (FL.flatMap enc1) (by rfl) HF.out ⟨gA, 0, none⟩ 1 1 [.int .i64 r.1] (by rfl) (by rfl) (World.news_of_block (cs := #[.int .i64 r.1]) (t := 3) (fr := (0, 0)) HA8.out) (by simp [Value.oneCell']) (by omega) (by unfold maxLen; omega) (by omega) (by have := HX.out.lt; omega) _ rfl ?_
          intro gF capF w3 hown3 hgrow hat hlt3
          have hge1 := HBC.out.size
          have hoS3 := HS.out.kept hgrow (by
            cases hq : (Value.slice SA j cS).ownBlock with
            | none => exact .inl rfl
            | some z => exact .inr fun e => HAP.out z e.symm hq)
          have hbx3 := HX.out.grown hgrow (fun e => own_blk_ne HF.out HX.out (by decide) e.symm)
          have hap3 := HAP.out.grow (n' := j + 1) (c := capF) (gg := gF) HS.out (hat.imp id fun e => by omega)
          have hb0 := HBC.out.grown hgrow hge1 (fun z hz => (by have := (HF.out.lt z hz).1; have := HGE.out; omega))
          have hf0 := HFR.out.step hgrow (fun z hz => .inl (.inl hz))
          have ho3 : w3.ownsRow g 3 1 (.slice (some ⟨gF, 0, none⟩) (j + 1) capF) (j + 1) ((FL ++ [r.1]).flatMap enc1) := by
            rw [List.flatMap_append]; simpa [enc1] using hown3
          (first | (have hac := HA15.out.grown hgrow (fun e => HNF.out _ e.symm rfl); clear HA15; have HA15 := Lib.hid hac; clear hac HNF) | skip)
          clear HBC HFR HF HS HX HAP
          clear HA8
          have HBC := Lib.hid hb0; have HFR := Lib.hid hf0; have HF := Lib.hid ho3; have HS := Lib.hid hoS3; have HX := Lib.hid hbx3; have HAP := Lib.hid hap3
          clear hge1 hoS3 hbx3 hap3 hb0 hf0 ho3 hown3 hgrow hat hlt3
          (try clear hHeld)
          refine hK.out _ _ (by (try dsimp only); exact HS5.out _ HFR.out) (fun hHeld => ?_)
          clear hK K
          (try simp only [Act.put, List.setIfInBounds_toArray, List.set_cons_zero, List.set_cons_succ])
          (refine wpAnyL_take (n := 0) (i := 17) (oi := ?ox329) (v := ?vx329) ?hix329 ?k1x329 ?k2x329 ?k3x329 ?k4x329 ?k5x329 ?k6x329 ?hQx329 ?hYx329 ?hSx329 ?restx329; (case hix329 => (simp only [List.getElem?_toArray, List.getElem?_cons_succ, List.getElem?_cons_zero]; exact rfl)); (case k1x329 => kernel_rfl); (case k2x329 => kernel_rfl); (case k3x329 => kernel_rfl); (case k4x329 => kernel_rfl); (case k5x329 => kernel_rfl); (case k6x329 => kernel_rfl); (case hSx329 => assumption); (case hYx329 => (refine Or.inl ⟨rfl, ?hyx329⟩; intro w hSw; (try dsimp only at hSw); go_simp; (try with_reducible rfl))); (case hQx329 => exact (fun _ _ _ h => h)); (try simp only [Act.put, List.setIfInBounds_toArray, List.set_cons_zero, List.set_cons_succ]))
          refine wpAnyL_ready (rs := [16]) (by kernel_rfl) (by simp) ?_
          refine AllReadyL.cons (o := ?o16x330) ?hi16x330 (fun K hK => ?_) AllReadyL.nil
          (case hi16x330 => (simp only [List.getElem?_toArray, List.getElem?_cons_succ, List.getElem?_cons_zero]; exact rfl))
          refine step_append_lies _ (by rfl) _ _ _ (by rfl) g 3 i0 _ 1 8 Try.underlying22 HI.out HZ0.out HZ1.out HZ2.out rfl (by omega) _ j (SL.flatMap enc1) (by rfl) HS.out ⟨gC, 0, none⟩ 1 1 [.int .i64 l.seep.2] (by rfl) (by rfl) (World.news_of_block (cs := #[.int .i64 l.seep.2]) (t := 3) (fr := (0, 0)) HA15.out) (by simp [Value.oneCell']) (by omega) (by unfold maxLen; omega) (by omega) (by have := HX.out.lt; omega) _ rfl ?_
          intro gs caps w5 hown5 hgrow hat hlt5
          have hge1 := HBC.out.size
          have hoF5 := HF.out.kept hgrow (by
            cases hq : (Value.slice (some ⟨gF, 0, none⟩) (j + 1) capF).ownBlock with
            | none => exact .inl rfl
            | some z => exact .inr fun e => HAP.out z hq e.symm)
          have hbx5 := HX.out.grown hgrow (fun e => own_blk_ne HS.out HX.out (by decide) e.symm)
          have hap5 := (HAP.out.symm.grow (n' := j + 1) (c := caps) (gg := gs) HF.out (hat.imp id fun e => by omega)).symm
          have hb0 := HBC.out.grown hgrow hge1 (fun z hz => (by have := (HS.out.lt z hz).1; have := HGE.out; omega))
          have hf0 := HFR.out.step hgrow (fun z hz => .inl (.inr hz))
          have ho5 : w5.ownsRow g 3 1 (.slice (some ⟨gs, 0, none⟩) (j + 1) caps) (j + 1) ((SL ++ [l.seep.2]).flatMap enc1) := by
            rw [List.flatMap_append]; simpa [enc1] using hown5
          clear HBC HFR HF HS HX HAP
          clear HA15
          have HBC := Lib.hid hb0; have HFR := Lib.hid hf0; have HF := Lib.hid hoF5; have HS := Lib.hid ho5; have HX := Lib.hid hbx5; have HAP := Lib.hid hap5
          clear hge1 hoF5 hbx5 hap5 hb0 hf0 ho5 hown5 hgrow hat hlt5
          (try clear hHeld)
          refine hK.out _ _ (by (try dsimp only); exact HS5.out _ HFR.out) (fun hHeld => ?_)
          clear hK K
          (try simp only [Act.put, List.setIfInBounds_toArray, List.set_cons_zero, List.set_cons_succ])
          refine wpAnyL_ready (rs := [18]) (by kernel_rfl) (by simp) ?_
          refine AllReadyL.last (o := ?o18x331) ?hi18x331 ?he18x331 (fun K hK => ?_) AllReadyL.nil
          (case hi18x331 => (simp only [List.getElem?_toArray, List.getElem?_cons_succ, List.getElem?_cons_zero]; exact rfl))
          (case he18x331 => kernel_rfl)
          have s0 := HX.out.cell 0; have f0 := HX.out.frozen 0
          have s1 := HX.out.cell 1; have f1 := HX.out.frozen 1
          simp at s0 s1
          go_simp
          (try clear hHeld)
          refine hK.out _ _ ?_
          clear hK K
          (try simp only [Act.put, List.setIfInBounds_toArray, List.set_cons_zero, List.set_cons_succ])
          (refine wpAnyL_free (i := 19) (oi := ?ox332) (v := ?vx332) ?hix332 ?k1x332 ?k2x332 ?k3x332 ?k4x332 ?k5x332 ?hQx332 ?hYx332 ?restx332; (case hix332 => (simp only [List.getElem?_toArray, List.getElem?_cons_succ, List.getElem?_cons_zero]; exact rfl)); (case k1x332 => kernel_rfl); (case k2x332 => kernel_rfl); (case k3x332 => kernel_rfl); (case k4x332 => kernel_rfl); (case k5x332 => kernel_rfl); (case hYx332 => (refine Or.inl ⟨rfl, ?hyx332⟩; intro w hSw; (try dsimp only at hSw); go_simp; (try with_reducible rfl))); (case hQx332 => exact (fun _ _ _ h => h)); (try simp only [Act.put, List.setIfInBounds_toArray, List.set_cons_zero, List.set_cons_succ]))
          refine wpAnyL_ready (rs := [20]) (by kernel_rfl) (by simp) ?_
          refine AllReadyL.last (o := ?o20x333) ?hi20x333 ?he20x333 (fun K hK => ?_) AllReadyL.nil
          (case hi20x333 => (simp only [List.getElem?_toArray, List.getElem?_cons_succ, List.getElem?_cons_zero]; exact rfl))
          (case he20x333 => kernel_rfl)
          go_simp
          (try clear hHeld)
          refine hK.out _ _ ?_
          clear hK K
          (try simp only [Act.put, List.setIfInBounds_toArray, List.set_cons_zero, List.set_cons_succ])
          (refine wpAnyL_done (by kernel_rfl) ?_ _)
          have hx6 := (HX.out.set_ 0 (.slice (some ⟨gF, 0, none⟩) (j + 1) capF)).set_ 1 (.slice (some ⟨gs, 0, none⟩) (j + 1) caps)
          have hgr := only_setCell (only_setCell (World.grownBy.refl w5 (some g)) (p := ⟨g, 0, none⟩) (.inl rfl) (.slice (some ⟨gF, 0, none⟩) (j + 1) capF)) (p := ⟨g, 1, none⟩) (.inl rfl) (.slice (some ⟨gs, 0, none⟩) (j + 1) caps)
          have ho6 := HF.out.kept hgr (.inr (own_blk_ne HF.out HX.out (by decide)))
          have hs6 := HS.out.kept hgr (.inr (own_blk_ne HS.out HX.out (by decide)))
          have hge := HGE.out
          have hb6 := (HBC.out.setCell (p := ⟨g, 0, none⟩) hge (.slice (some ⟨gF, 0, none⟩) (j + 1) capF)).setCell (p := ⟨g, 1, none⟩) hge (.slice (some ⟨gs, 0, none⟩) (j + 1) caps)
          have HT6 := Lib.hid (TwoR.mk (x := ⟨FL ++ [r.1], SL ++ [l.seep.2], 0, l.soft.2⟩) (by simpa using hx6) ho6 hs6 HAP.out)
          have HB6 := Lib.hid hb6
          clear hx6 hgr ho6 hs6 hb6
          go_wp2_with fail
          go_roundw
          case rel => exact ⟨j + 1, _, _, _, _, by omega, by go_num, by rw [HR1.out, HR2.out]; exact HT6.out, HB6.out⟩
          case measure => simp [intOf] <;> omega
      · skip
        go_simp
        have hal := (Below.refl w0.heap.size w0).alloc (Nat.le_refl _) (.cells #[.int .i64 l.seep.2] 3)
        have hn := Blk.new w0 3 #[.int .i64 l.seep.2]
        have hnf := fun z hz => Nat.ne_of_lt (own_block_lt HF.out (g := z) hz)
        have t0 := below_tr HBC.out hal; have t1 := HFR.out.more hal; have t2 := HX.out.below hal HX.out.lt; have t3 := own_mono HF.out hal; have t4 := own_mono HS.out hal
        clear HBC HFR HX HF HS
        have HBC := Lib.hid t0; have HFR := Lib.hid t1; have HX := Lib.hid t2; have HF := Lib.hid t3; have HS := Lib.hid t4
        clear t0 t1 t2 t3 t4
        have HA15 := Lib.hid hn
        clear hal hn
        (try clear hHeld)
        refine hK.out _ _ (by (try dsimp only); exact HS5.out _ HFR.out) (fun hHeld => ?_)
        clear hK K
        (try simp only [Act.put, List.setIfInBounds_toArray, List.set_cons_zero, List.set_cons_succ])
        revert hHeld HBC HFR HX HF HS HA15
        generalize hgC : w0.heap.size = gC
        generalize (World.alloc w0 (.cells #[.int .i64 l.seep.2] 3)) = w0
        intro HBC HFR HX HF HS HA15 hHeld
        have HNF := Lib.hid (fun z hz => hgC ▸ hnf z hz)
        clear hgC hnf
        refine wpAnyL_ready (rs := [8]) (by kernel_rfl) (by simp) ?_
        refine AllReadyL.cons (o := ?o8x334) ?hi8x334 (fun K hK => ?_) AllReadyL.nil
        (case hi8x334 => (simp only [List.getElem?_toArray, List.getElem?_cons_succ, List.getElem?_cons_zero]; exact rfl))
        go_simp
        have hal := (Below.refl w0.heap.size w0).alloc (Nat.le_refl _) (.cells #[.int .i64 r.1] 3)
        have hn := Blk.new w0 3 #[.int .i64 r.1]
        have t0 := below_tr HBC.out hal; have t1 := HFR.out.more hal; have t2 := HX.out.below hal HX.out.lt; have t3 := own_mono HF.out hal; have t4 := own_mono HS.out hal; have t5 := HA15.out.below hal HA15.out.lt
        clear HBC HFR HX HF HS HA15
        have HBC := Lib.hid t0; have HFR := Lib.hid t1; have HX := Lib.hid t2; have HF := Lib.hid t3; have HS := Lib.hid t4; have HA15 := Lib.hid t5
        clear t0 t1 t2 t3 t4 t5
        have HA8 := Lib.hid hn
        clear hal hn
        (try clear hHeld)
        refine hK.out _ _ (by (try dsimp only); exact HS5.out _ HFR.out) (fun hHeld => ?_)
        clear hK K
        (try simp only [Act.put, List.setIfInBounds_toArray, List.set_cons_zero, List.set_cons_succ])
        revert hHeld HBC HFR HX HF HS HA15 HA8
        generalize hgA : w0.heap.size = gA
        generalize (World.alloc w0 (.cells #[.int .i64 r.1] 3)) = w0
        intro HBC HFR HX HF HS HA15 HA8 hHeld
        clear hgA
        refine wpAnyL_ready (rs := [9]) (by kernel_rfl) (by simp) ?_
        refine AllReadyL.cons (o := ?o9x335) ?hi9x335 (fun K hK => ?_) AllReadyL.nil
        (case hi9x335 => (simp only [List.getElem?_toArray, List.getElem?_cons_succ, List.getElem?_cons_zero]; exact rfl))
        refine step_append_lies _ (by rfl) _ _ _ (by rfl) g 3 i0 _ 1 8 Try.underlying22 HI.out HZ0.out HZ1.out HZ2.out rfl (by omega) _ j (FL.flatMap enc1) (by rfl) HF.out ⟨gA, 0, none⟩ 1 1 [.int .i64 r.1] (by rfl) (by rfl) (World.news_of_block (cs := #[.int .i64 r.1]) (t := 3) (fr := (0, 0)) HA8.out) (by simp [Value.oneCell']) (by omega) (by unfold maxLen; omega) (by omega) (by have := HX.out.lt; omega) _ rfl ?_
        intro gF capF w3 hown3 hgrow hat hlt3
        have hge1 := HBC.out.size
        have hoS3 := HS.out.kept hgrow (by
          cases hq : (Value.slice SA j cS).ownBlock with
          | none => exact .inl rfl
          | some z => exact .inr fun e => HAP.out z e.symm hq)
        have hbx3 := HX.out.grown hgrow (fun e => own_blk_ne HF.out HX.out (by decide) e.symm)
        have hap3 := HAP.out.grow (n' := j + 1) (c := capF) (gg := gF) HS.out (hat.imp id fun e => by omega)
        have hb0 := HBC.out.grown hgrow hge1 (fun z hz => (by have := (HF.out.lt z hz).1; have := HGE.out; omega))
        have hf0 := HFR.out.step hgrow (fun z hz => .inl (.inl hz))
        have ho3 : w3.ownsRow g 3 1 (.slice (some ⟨gF, 0, none⟩) (j + 1) capF) (j + 1) ((FL ++ [r.1]).flatMap enc1) := by
          rw [List.flatMap_append]; simpa [enc1] using hown3
        (first | (have hac := HA15.out.grown hgrow (fun e => HNF.out _ e.symm rfl); clear HA15; have HA15 := Lib.hid hac; clear hac HNF) | skip)
        clear HBC HFR HF HS HX HAP
        clear HA8
        have HBC := Lib.hid hb0; have HFR := Lib.hid hf0; have HF := Lib.hid ho3; have HS := Lib.hid hoS3; have HX := Lib.hid hbx3; have HAP := Lib.hid hap3
        clear hge1 hoS3 hbx3 hap3 hb0 hf0 ho3 hown3 hgrow hat hlt3
        (try clear hHeld)
        refine hK.out _ _ (by (try dsimp only); exact HS5.out _ HFR.out) (fun hHeld => ?_)
        clear hK K
        (try simp only [Act.put, List.setIfInBounds_toArray, List.set_cons_zero, List.set_cons_succ])
        (refine wpAnyL_take (n := 0) (i := 17) (oi := ?ox336) (v := ?vx336) ?hix336 ?k1x336 ?k2x336 ?k3x336 ?k4x336 ?k5x336 ?k6x336 ?hQx336 ?hYx336 ?hSx336 ?restx336; (case hix336 => (simp only [List.getElem?_toArray, List.getElem?_cons_succ, List.getElem?_cons_zero]; exact rfl)); (case k1x336 => kernel_rfl); (case k2x336 => kernel_rfl); (case k3x336 => kernel_rfl); (case k4x336 => kernel_rfl); (case k5x336 => kernel_rfl); (case k6x336 => kernel_rfl); (case hSx336 => assumption); (case hYx336 => (refine Or.inl ⟨rfl, ?hyx336⟩; intro w hSw; (try dsimp only at hSw); go_simp; (try with_reducible rfl))); (case hQx336 => exact (fun _ _ _ h => h)); (try simp only [Act.put, List.setIfInBounds_toArray, List.set_cons_zero, List.set_cons_succ]))
        refine wpAnyL_ready (rs := [16]) (by kernel_rfl) (by simp) ?_
        refine AllReadyL.cons (o := ?o16x337) ?hi16x337 (fun K hK => ?_) AllReadyL.nil
        (case hi16x337 => (simp only [List.getElem?_toArray, List.getElem?_cons_succ, List.getElem?_cons_zero]; exact rfl))
        refine step_append_lies _ (by rfl) _ _ _ (by rfl) g 3 i0 _ 1 8 Try.underlying22 HI.out HZ0.out HZ1.out HZ2.out rfl (by omega) _ j (SL.flatMap enc1) (by rfl) HS.out ⟨gC, 0, none⟩ 1 1 [.int .i64 l.seep.2] (by rfl) (by rfl) (World.news_of_block (cs := #[.int .i64 l.seep.2]) (t := 3) (fr := (0, 0)) HA15.out) (by simp [Value.oneCell']) (by omega) (by unfold maxLen; omega) (by omega) (by have := HX.out.lt; omega) _ rfl ?_
        intro gs caps w5 hown5 hgrow hat hlt5
        have hge1 := HBC.out.size
        have hoF5 := HF.out.kept hgrow (by
          cases hq : (Value.slice (some ⟨gF, 0, none⟩) (j + 1) capF).ownBlock with
          | none => exact .inl rfl
          | some z => exact .inr fun e => HAP.out z hq e.symm)
        have hbx5 := HX.out.grown hgrow (fun e => own_blk_ne HS.out HX.out (by decide) e.symm)
        have hap5 := (HAP.out.symm.grow (n' := j + 1) (c := caps) (gg := gs) HF.out (hat.imp id fun e => by omega)).symm
        have hb0 := HBC.out.grown hgrow hge1 (fun z hz => (by have := (HS.out.lt z hz).1; have := HGE.out; omega))
        have hf0 := HFR.out.step hgrow (fun z hz => .inl (.inr hz))
        have ho5 : w5.ownsRow g 3 1 (.slice (some ⟨gs, 0, none⟩) (j + 1) caps) (j + 1) ((SL ++ [l.seep.2]).flatMap enc1) := by
          rw [List.flatMap_append]; simpa [enc1] using hown5
        clear HBC HFR HF HS HX HAP
        clear HA15
        have HBC := Lib.hid hb0; have HFR := Lib.hid hf0; have HF := Lib.hid hoF5; have HS := Lib.hid ho5; have HX := Lib.hid hbx5; have HAP := Lib.hid hap5
        clear hge1 hoF5 hbx5 hap5 hb0 hf0 ho5 hown5 hgrow hat hlt5
        (try clear hHeld)
        refine hK.out _ _ (by (try dsimp only); exact HS5.out _ HFR.out) (fun hHeld => ?_)
        clear hK K
        (try simp only [Act.put, List.setIfInBounds_toArray, List.set_cons_zero, List.set_cons_succ])
        refine wpAnyL_ready (rs := [18]) (by kernel_rfl) (by simp) ?_
        refine AllReadyL.last (o := ?o18x338) ?hi18x338 ?he18x338 (fun K hK => ?_) AllReadyL.nil
        (case hi18x338 => (simp only [List.getElem?_toArray, List.getElem?_cons_succ, List.getElem?_cons_zero]; exact rfl))
        (case he18x338 => kernel_rfl)
        have s0 := HX.out.cell 0; have f0 := HX.out.frozen 0
        have s1 := HX.out.cell 1; have f1 := HX.out.frozen 1
        simp at s0 s1
        go_simp
        (try clear hHeld)
        refine hK.out _ _ ?_
        clear hK K
        (try simp only [Act.put, List.setIfInBounds_toArray, List.set_cons_zero, List.set_cons_succ])
        (refine wpAnyL_free (i := 19) (oi := ?ox339) (v := ?vx339) ?hix339 ?k1x339 ?k2x339 ?k3x339 ?k4x339 ?k5x339 ?hQx339 ?hYx339 ?restx339; (case hix339 => (simp only [List.getElem?_toArray, List.getElem?_cons_succ, List.getElem?_cons_zero]; exact rfl)); (case k1x339 => kernel_rfl); (case k2x339 => kernel_rfl); (case k3x339 => kernel_rfl); (case k4x339 => kernel_rfl); (case k5x339 => kernel_rfl); (case hYx339 => (refine Or.inl ⟨rfl, ?hyx339⟩; intro w hSw; (try dsimp only at hSw); go_simp; (try with_reducible rfl))); (case hQx339 => exact (fun _ _ _ h => h)); (try simp only [Act.put, List.setIfInBounds_toArray, List.set_cons_zero, List.set_cons_succ]))
        refine wpAnyL_ready (rs := [20]) (by kernel_rfl) (by simp) ?_
        refine AllReadyL.last (o := ?o20x340) ?hi20x340 ?he20x340 (fun K hK => ?_) AllReadyL.nil
        (case hi20x340 => (simp only [List.getElem?_toArray, List.getElem?_cons_succ, List.getElem?_cons_zero]; exact rfl))
        (case he20x340 => kernel_rfl)
        go_simp
        (try clear hHeld)
        refine hK.out _ _ ?_
        clear hK K
        (try simp only [Act.put, List.setIfInBounds_toArray, List.set_cons_zero, List.set_cons_succ])
        (refine wpAnyL_done (by kernel_rfl) ?_ _)
        have hx6 := (HX.out.set_ 0 (.slice (some ⟨gF, 0, none⟩) (j + 1) capF)).set_ 1 (.slice (some ⟨gs, 0, none⟩) (j + 1) caps)
        have hgr := only_setCell (only_setCell (World.grownBy.refl w5 (some g)) (p := ⟨g, 0, none⟩) (.inl rfl) (.slice (some ⟨gF, 0, none⟩) (j + 1) capF)) (p := ⟨g, 1, none⟩) (.inl rfl) (.slice (some ⟨gs, 0, none⟩) (j + 1) caps)
        have ho6 := HF.out.kept hgr (.inr (own_blk_ne HF.out HX.out (by decide)))
        have hs6 := HS.out.kept hgr (.inr (own_blk_ne HS.out HX.out (by decide)))
        have hge := HGE.out
        have hb6 := (HBC.out.setCell (p := ⟨g, 0, none⟩) hge (.slice (some ⟨gF, 0, none⟩) (j + 1) capF)).setCell (p := ⟨g, 1, none⟩) hge (.slice (some ⟨gs, 0, none⟩) (j + 1) caps)
        have HT6 := Lib.hid (TwoR.mk (x := ⟨FL ++ [r.1], SL ++ [l.seep.2], 0, l.soft.2⟩) (by simpa using hx6) ho6 hs6 HAP.out)
        have HB6 := Lib.hid hb6
        clear hx6 hgr ho6 hs6 hb6
        go_wp2_with fail
        go_roundw
        case rel => exact ⟨j + 1, _, _, _, _, by omega, by go_num, by rw [HR1.out, HR2.out]; exact HT6.out, HB6.out⟩
        case measure => simp [intOf] <;> omega
      -- A]
    · obtain rfl : nI = j := by omega
      rw [List.take_of_length_le (by rw [HIL.out]; exact Nat.le_refl _)] at htr
      have hbi := BackI.start HG.out HOK.out rfl rfl
      have HCF := Lib.hid (own_cap htr.oF); have HCS := Lib.hid (own_cap htr.oS)
      obtain ⟨gf, hFA, hgf0, _⟩ := own_adr htr.oF (by omega)
      subst hFA
      obtain ⟨gs, hSA, hgs0, _⟩ := own_adr htr.oS (by omega)
      subst hSA
      have HT := Lib.hid htr; have HBI := Lib.hid hbi; have HBC := Lib.hid hbr
      clear htr hbi hbr hlt hj
      go_wp2_with fail
      have hk1 : ((k + 1 : Nat) : Int) - 1 = (k : Int) := by omega
      go_loopw [16, 17] (fun vv i wr => ∃ (j : Nat) (F S : List Int) (v : Int), j ≤ k + 1 ∧ i = .int .i64 ((j : Int) - 1) ∧ vv = .int .i64 v ∧ TwoR g wr g (some ⟨gf, 0, none⟩) cF (some ⟨gs, 0, none⟩) cS nI ⟨F, S, 0, l.soft.2⟩ ∧ BackI l ws c k goal j F S v ∧ Below W.heap.size W wr) (fun _ i _ => (intOf i + 1).toNat)
      case atStart => exact ⟨k + 1, _, _, goal, Nat.le_refl _, by rw [hk1], rfl, HT.out, HBI.out, HBC.out⟩
      case round =>
        obtain ⟨j, F, S, v, hj, rfl, rfl, htr, hbi, hbr⟩ := hrel
        clear HBC HT HBI hk1 z0 z1 z2 z3 z4 z5 z6 z7 z8 z9
        obtain ⟨z0, z1, z2, z3, z4, z5, z6, z7, z8, z9⟩ := HXL.out _ hbr
        rcases Nat.eq_zero_or_pos j with hj0 | hj0
        · subst hj0
          rw [show (((0 : Nat) : Int) - 1) = -1 from rfl]
          have hall := hbi.all HOK.out
          have y0 := htr.box.cell 0; have y1 := htr.box.cell 1; have y2 := htr.box.cell 2; have y3 := htr.box.cell 3
          have f2 := htr.box.frozen 2
          have HZ := Lib.hid (HY.out.below hbr HY.out.lt)
          have rc := HZ.out.cell; have rf := HZ.out.frozen
          have r0 := rc 0; have r1 := rc 1; have r2 := rc 2; have r3 := rc 3
          simp at y0 y1 y2 y3 r0 r1 r2 r3
          have q0 := rf 0; have q1 := rf 1; have q2 := rf 2; have q3 := rf 3
          have HT := Lib.hid htr; have HBC := Lib.hid hbr; have HAL := Lib.hid hall
          have hgg : W.heap.size ≤ g := by have := HGW.out; omega
          have hyl := HY.out.lt
          have hne : ¬ g = w.heap.size + 1 := by omega
          clear rc rf htr hbr hbi hall z0 z1 z2 z3 z4 z5 z6 z7 z8 z9 hj
          go_wp2_with fail
          have hWs : w.heap.size ≤ W.heap.size := HB.out.size
          have hbx1 := (HT.out.box.set_ 2 (.int .i64 v))
          have hgr1 := only_setCell (World.grownBy.refl wr (some g)) (p := ⟨g, 2, none⟩) (.inl rfl) (.int .i64 v)
          have oF1 := HT.out.oF.kept hgr1 (.inr (own_blk_ne HT.out.oF HT.out.box (by decide)))
          have oS1 := HT.out.oS.kept hgr1 (.inr (own_blk_ne HT.out.oS HT.out.box (by decide)))
          have hz1 := HZ.out.far (p := ⟨g, 2, none⟩) (by simp; omega) (.int .i64 v)
          have hb1 := (HB.out.trans (HBC.out.mono hWs)).setCell (p := ⟨g, 2, none⟩) (by simp; omega) (.int .i64 v)
          have gF := own_weak (oF1.kept (grown_setCells (g := w.heap.size + 1) (xA (some ⟨gf, 0, none⟩) nI cF (some ⟨gs, 0, none⟩) nI cS ⟨F, S, v, l.soft.2⟩).toList 0 _) (.inr (own_blk_ne oF1 hz1 (by decide)))) (show w.heap.size ≤ g by omega)
          have gS := own_weak (oS1.kept (grown_setCells (g := w.heap.size + 1) (xA (some ⟨gf, 0, none⟩) nI cF (some ⟨gs, 0, none⟩) nI cS ⟨F, S, v, l.soft.2⟩).toList 0 _) (.inr (own_blk_ne oS1 hz1 (by decide)))) (show w.heap.size ≤ g by omega)
          have gB := below_setCells (B := w.heap.size) (g := w.heap.size + 1) (w0 := w) (by omega) (xA (some ⟨gf, 0, none⟩) nI cF (some ⟨gs, 0, none⟩) nI cS ⟨F, S, v, l.soft.2⟩).toList 0 _ hb1
          have hBF := blk_setCells (xA (some ⟨gf, 0, none⟩) nI cF (some ⟨gs, 0, none⟩) nI cS ⟨F, S, v, l.soft.2⟩).toList 0 _ [] _ (by simpa using hz1) rfl (by simp)
          simp only [xA, World.setCells, List.nil_append, Nat.reduceAdd] at hBF gF gS gB
          revert hBF gF gS gB
          generalize (World.setCell _ ⟨w.heap.size + 1, 3, none⟩ (Value.int IntKind.i64 l.soft.2)) = WF
          intro gF gS gB hBF
          have c0 := hBF.cell 0; have c1 := hBF.cell 1; have c2 := hBF.cell 2; have c3 := hBF.cell 3
          simp at c0 c1 c2 c3
          have HG2 := Lib.hid (And.intro (RdX.mk (x := ⟨F, S, v, l.soft.2⟩) (Rd.of_own enc1_len gF (HAL.out.1.n.trans HIL.out)) (Rd.of_own enc1_len gS (HAL.out.1.m.trans HIL.out))) gB)
          exact bodyPost_ret (v := .tuple #[.agg (xA (some ⟨gf, 0, none⟩) nI cF (some ⟨gs, 0, none⟩) nI cS ⟨F, S, v, l.soft.2⟩), .bool true]) (by simp [results, Try.results48, go_sem, c0, c1, c2, c3]) rfl ⟨_, cF, _, cS, _, rfl, HG2.out.1, HCF.out, HCS.out, HAL.out.1, HAL.out.2.1, HAL.out.2.2, HG2.out.2⟩
        · obtain ⟨h, rfl⟩ : ∃ h, j = h + 1 := ⟨j - 1, by omega⟩
          have hh1 : ((h + 1 : Nat) : Int) - 1 = (h : Int) := by omega
          rw [hh1]
          have hhn : h < nI := by omega
          obtain ⟨W5, hW5⟩ : ∃ W5, W5 = wr := ⟨_, rfl⟩
          rw [← hW5] at htr hbr z0 z1 z2 z3 z4 z5 z6 z7 z8 z9 ⊢
          clear hW5 hh1
          obtain ⟨b, o, r, hA, hbl, hr, e0, e1⟩ := HH.out.at2 hhn
          have hrb := HOK.out.inflow h r hr
          obtain ⟨L, hL⟩ : ∃ L, L = lowAt l (aftL l (netL l ws c)) h := ⟨_, rfl⟩
          obtain ⟨O, hO⟩ : ∃ O, O = outAt ws c (h : Int) := ⟨_, rfl⟩
          obtain ⟨bb, hbb⟩ : ∃ bb, bb = min L.2 (v - (r.1 - l.seep.2 - O)) := ⟨_, rfl⟩
          obtain ⟨n, hn⟩ : ∃ n, n = if v = 0 then min (v - bb) (r.2 - l.seep.1 - O) else v - bb := ⟨_, rfl⟩
          obtain ⟨i, hi⟩ : ∃ i, i = min r.2 (n + O + l.seep.2) := ⟨_, rfl⟩
          obtain ⟨sp, hsp⟩ : ∃ sp, sp = i - n - O := ⟨_, rfl⟩
          obtain ⟨p1, p2, p3, p4⟩ := hbi.step HOK.out (show h ≤ k by omega) hr (b := bb) (n := n) (i := i) (s := sp) (by rw [hbb, hL, hO]) (by rw [hn, hO]) (by rw [hi, hO]) (by rw [hsp, hO])
          have hob := outAt_bd HWO.out HCO.out (h : Int)
          have hvb := rch_vol HOK.out hbi.rch
          have hlb := low_bd HOK.out HNK.out (h := h) (by rw [netL_len]; have := HIL.out; omega) p1
          have hbv := rch_vol HOK.out p4.rch
          rw [← hL] at p1 p2 hlb
          rw [← hO] at hob p3
          have HPK := Lib.hid (fun (U : World) (hU : Below W.heap.size W U) => HPU.out U hU (h : Int))
          rw [← hO] at HPK
          have hnb : -100000000 ≤ n ∧ n ≤ 100000000 := by rw [hn]; split <;> omega
          have hib : 0 ≤ i ∧ i ≤ 1000000 := by omega
          have HL := Lib.hid hL; have HP4 := Lib.hid p4; have HP1 := Lib.hid p1; have HBB := Lib.hid hbb; have HN := Lib.hid hn; have HI2 := Lib.hid hi; have HSP := Lib.hid hsp; have HBR := Lib.hid hbr; have HT := Lib.hid htr
          have d0 := bel_keep hbr e0; have d1 := bel_keep hbr e1
          have HB5 := Lib.hid (Below.refl W5.heap.size W5)
          have HRR := Lib.hid hr; have HA2 := Lib.hid hA; have HJ := Lib.hid hj
          clear hL p4 p1 hbb hn hi hsp hbi hr hbr htr hj hj0 hO hA e0 e1
          have hhI : (h : Int) < (nI : Int) := by omega
          have hh0 : (0 : Int) ≤ (h : Int) := by omega
          have HS10 := Lib.hid (fun (U : World) (hU : Below W5.heap.size W5 U) => show U.cell? ⟨w.heap.size, 5, none⟩ = some (.int .i64 l.start.1) ∧ U.cell? ⟨w.heap.size, 6, none⟩ = some (.int .i64 l.start.2) from ⟨bel_keep hU z5, bel_keep hU z6⟩)
          have HS16 := Lib.hid (fun (U : World) (hU : Below W5.heap.size W5 U) => show U.cell? ⟨w.heap.size, 7, none⟩ = some (.int .i64 l.seep.1) ∧ U.cell? ⟨w.heap.size, 8, none⟩ = some (.int .i64 l.seep.2) ∧ U.cell? ⟨w.heap.size, 9, none⟩ = some (.slice (some ⟨b, o, none⟩) nI cI) ∧ U.cell? ⟨b, o + h * 2, none⟩ = some (.int .i64 r.1) ∧ U.cell? ⟨b, o + h * 2 + 1, none⟩ = some (.int .i64 r.2) from ⟨bel_keep hU z7, bel_keep hU z8, by rw [← HA2.out]; exact bel_keep hU z9, bel_keep hU d0, bel_keep hU d1⟩)
          clear z0 z1 z2 z3 z4 z5 z6 z7 z8 z9 d0 d1
          go_wp2_with fail
          refine wp_region_till [] (fun U => U.cell? ⟨w.heap.size, 5, none⟩ = some (.int .i64 l.start.1) ∧ U.cell? ⟨w.heap.size, 6, none⟩ = some (.int .i64 l.start.2)) (by kernel_rfl) (by exact HS10.out _ HB5.out.drew) (fun hHeld => ?_)
          have hb9 := (Below.refl W5.heap.size W5).drew
          have t0 := below_tr HB5.out hb9; have t1 := below_tr HBR.out hb9
          clear HB5 HBR
          have HB5 := Lib.hid t0; have HBR := Lib.hid t1
          clear t0 t1
          clear hb9
          revert hHeld HB5 HBR
          generalize W5.drew = w0
          intro hHeld HB5 HBR
          (refine wpAnyL_take (n := 0) (i := 0) (oi := ?ox341) (v := ?vx341) ?hix341 ?k1x341 ?k2x341 ?k3x341 ?k4x341 ?k5x341 ?k6x341 ?hQx341 ?hYx341 ?hSx341 ?restx341; (case hix341 => (simp only [List.getElem?_toArray, List.getElem?_cons_succ, List.getElem?_cons_zero]; exact rfl)); (case k1x341 => kernel_rfl); (case k2x341 => kernel_rfl); (case k3x341 => kernel_rfl); (case k4x341 => kernel_rfl); (case k5x341 => kernel_rfl); (case k6x341 => kernel_rfl); (case hSx341 => assumption); (case hYx341 => (refine Or.inl ⟨rfl, ?hyx341⟩; intro w hSw; (try dsimp only at hSw); go_simp; (try with_reducible rfl))); (case hQx341 => exact (fun _ _ _ h => h)); (try simp only [Act.put, List.setIfInBounds_toArray, List.set_cons_zero, List.set_cons_succ]))
          (refine wpAnyL_take (n := 0) (i := 1) (oi := ?ox342) (v := ?vx342) ?hix342 ?k1x342 ?k2x342 ?k3x342 ?k4x342 ?k5x342 ?k6x342 ?hQx342 ?hYx342 ?hSx342 ?restx342; (case hix342 => (simp only [List.getElem?_toArray, List.getElem?_cons_succ, List.getElem?_cons_zero]; exact rfl)); (case k1x342 => kernel_rfl); (case k2x342 => kernel_rfl); (case k3x342 => kernel_rfl); (case k4x342 => kernel_rfl); (case k5x342 => kernel_rfl); (case k6x342 => kernel_rfl); (case hSx342 => assumption); (case hYx342 => (refine Or.inl ⟨rfl, ?hyx342⟩; intro w hSw; (try dsimp only at hSw); go_simp; (try with_reducible rfl))); (case hQx342 => exact (fun _ _ _ h => h)); (try simp only [Act.put, List.setIfInBounds_toArray, List.set_cons_zero, List.set_cons_succ]))
          (refine wpAnyL_take (n := 0) (i := 2) (oi := ?ox343) (v := ?vx343) ?hix343 ?k1x343 ?k2x343 ?k3x343 ?k4x343 ?k5x343 ?k6x343 ?hQx343 ?hYx343 ?hSx343 ?restx343; (case hix343 => (simp only [List.getElem?_toArray, List.getElem?_cons_succ, List.getElem?_cons_zero]; exact rfl)); (case k1x343 => kernel_rfl); (case k2x343 => kernel_rfl); (case k3x343 => kernel_rfl); (case k4x343 => kernel_rfl); (case k5x343 => kernel_rfl); (case k6x343 => kernel_rfl); (case hSx343 => assumption); (case hYx343 => (refine Or.inl ⟨rfl, ?hyx343⟩; intro w hSw; (try dsimp only at hSw); go_simp; (try with_reducible rfl))); (case hQx343 => exact (fun _ _ _ h => h)); (try simp only [Act.put, List.setIfInBounds_toArray, List.set_cons_zero, List.set_cons_succ]))
          (refine wpAnyL_take (n := 0) (i := 3) (oi := ?ox344) (v := ?vx344) ?hix344 ?k1x344 ?k2x344 ?k3x344 ?k4x344 ?k5x344 ?k6x344 ?hQx344 ?hYx344 ?hSx344 ?restx344; (case hix344 => (simp only [List.getElem?_toArray, List.getElem?_cons_succ, List.getElem?_cons_zero]; exact rfl)); (case k1x344 => kernel_rfl); (case k2x344 => kernel_rfl); (case k3x344 => kernel_rfl); (case k4x344 => kernel_rfl); (case k5x344 => kernel_rfl); (case k6x344 => kernel_rfl); (case hSx344 => assumption); (case hYx344 => (refine Or.inl ⟨rfl, ?hyx344⟩; intro w hSw; (try dsimp only at hSw); go_simp; (try with_reducible rfl))); (case hQx344 => exact (fun _ _ _ h => h)); (try simp only [Act.put, List.setIfInBounds_toArray, List.set_cons_zero, List.set_cons_succ]))
          (refine wpAnyL_take (n := 0) (i := 4) (oi := ?ox345) (v := ?vx345) ?hix345 ?k1x345 ?k2x345 ?k3x345 ?k4x345 ?k5x345 ?k6x345 ?hQx345 ?hYx345 ?hSx345 ?restx345; (case hix345 => (simp only [List.getElem?_toArray, List.getElem?_cons_succ, List.getElem?_cons_zero]; exact rfl)); (case k1x345 => kernel_rfl); (case k2x345 => kernel_rfl); (case k3x345 => kernel_rfl); (case k4x345 => kernel_rfl); (case k5x345 => kernel_rfl); (case k6x345 => kernel_rfl); (case hSx345 => assumption); (case hYx345 => (refine Or.inl ⟨rfl, ?hyx345⟩; intro w hSw; (try dsimp only at hSw); go_simp; (try with_reducible rfl))); (case hQx345 => exact (fun _ _ _ h => h)); (try simp only [Act.put, List.setIfInBounds_toArray, List.set_cons_zero, List.set_cons_succ]))
          (refine wpAnyL_take (n := 0) (i := 5) (oi := ?ox346) (v := ?vx346) ?hix346 ?k1x346 ?k2x346 ?k3x346 ?k4x346 ?k5x346 ?k6x346 ?hQx346 ?hYx346 ?hSx346 ?restx346; (case hix346 => (simp only [List.getElem?_toArray, List.getElem?_cons_succ, List.getElem?_cons_zero]; exact rfl)); (case k1x346 => kernel_rfl); (case k2x346 => kernel_rfl); (case k3x346 => kernel_rfl); (case k4x346 => kernel_rfl); (case k5x346 => kernel_rfl); (case k6x346 => kernel_rfl); (case hSx346 => assumption); (case hYx346 => (refine Or.inl ⟨rfl, ?hyx346⟩; intro w hSw; (try dsimp only at hSw); go_simp; (try with_reducible rfl))); (case hQx346 => exact (fun _ _ _ h => h)); (try simp only [Act.put, List.setIfInBounds_toArray, List.set_cons_zero, List.set_cons_succ]))
          (refine wpAnyL_take (n := 0) (i := 6) (oi := ?ox347) (v := ?vx347) ?hix347 ?k1x347 ?k2x347 ?k3x347 ?k4x347 ?k5x347 ?k6x347 ?hQx347 ?hYx347 ?hSx347 ?restx347; (case hix347 => (simp only [List.getElem?_toArray, List.getElem?_cons_succ, List.getElem?_cons_zero]; exact rfl)); (case k1x347 => kernel_rfl); (case k2x347 => kernel_rfl); (case k3x347 => kernel_rfl); (case k4x347 => kernel_rfl); (case k5x347 => kernel_rfl); (case k6x347 => kernel_rfl); (case hSx347 => assumption); (case hYx347 => (refine Or.inl ⟨rfl, ?hyx347⟩; intro w hSw; (try dsimp only at hSw); go_simp; (try with_reducible rfl))); (case hQx347 => exact (fun _ _ _ h => h)); (try simp only [Act.put, List.setIfInBounds_toArray, List.set_cons_zero, List.set_cons_succ]))
          (refine wpAnyL_take (n := 0) (i := 7) (oi := ?ox348) (v := ?vx348) ?hix348 ?k1x348 ?k2x348 ?k3x348 ?k4x348 ?k5x348 ?k6x348 ?hQx348 ?hYx348 ?hSx348 ?restx348; (case hix348 => (simp only [List.getElem?_toArray, List.getElem?_cons_succ, List.getElem?_cons_zero]; exact rfl)); (case k1x348 => kernel_rfl); (case k2x348 => kernel_rfl); (case k3x348 => kernel_rfl); (case k4x348 => kernel_rfl); (case k5x348 => kernel_rfl); (case k6x348 => kernel_rfl); (case hSx348 => assumption); (case hYx348 => (refine Or.inl ⟨rfl, ?hyx348⟩; intro w hSw; (try dsimp only at hSw); go_simp; (try with_reducible rfl))); (case hQx348 => exact (fun _ _ _ h => h)); (try simp only [Act.put, List.setIfInBounds_toArray, List.set_cons_zero, List.set_cons_succ]))
          (refine wpAnyL_done (by kernel_rfl) ?_ _)
          go_upto_if 68 with (fail)
          go_cut [18, 19] (fun a b wx => a = .int .i64 L.1 ∧ b = .int .i64 L.2 ∧ Below w0.heap.size w0 wx)
          case first =>
            rcases Nat.eq_zero_or_pos h with h0 | h0
            · have g0 : ¬ (0 : Int) < (h : Int) := by omega
              have eL : L = l.start := by rw [HL.out, h0]; rfl
              have EL := Lib.hid eL
              clear h0 eL
              go_wp2_with fail
              go_meet
              exact ⟨by rw [EL.out], by rw [EL.out], Below.refl _ _⟩
            · obtain ⟨m, hm⟩ : ∃ m, h = m + 1 := ⟨h - 1, by omega⟩
              have g0 : (0 : Int) < (h : Int) := by omega
              obtain ⟨bs', os', st, hTA, hbs, hst2, s0, s1, s2, s3⟩ := (HST.out.below HBR.out).atT (i := m) (by omega)
              have hlo := stt_low hst2 (by rw [← hm, ← HL.out]; exact HP1.out)
              rw [← hm, ← HL.out] at hlo
              obtain ⟨sh, sl, si, sv⟩ := st
              simp only at hlo s0 s1 s2 s3
              obtain ⟨rfl, l1, l2⟩ := hlo
              have HLO := Lib.hid (And.intro l1 l2)
              obtain ⟨rfl, rfl⟩ : bs = bs' ∧ os = os' := by simpa using hTA
              have htn : ((h : Int) - 1).toNat = m := by omega
              have hg1 : (0 : Int) ≤ (h : Int) - 1 := by omega
              have hg2 : (h : Int) - 1 < (nI : Int) := by omega
              have hg3 : (1 : Int) ≤ (h : Int) := by omega
              have hwp : IntKind.i64.wrap ((h : Int) - 1) = (h : Int) - 1 := wi (by omega)
              clear hm hst2 l1 l2 s3
              clear hTA
              go_wp2_with fail
              have HA14 := Lib.hid (fun (U : World) (hU : Below w0.heap.size w0 U) => show U.cell? ⟨bs, os + m * 4 + 1, none⟩ = some (.int .i64 sl) ∧ U.cell? ⟨bs, os + m * 4 + 2, none⟩ = some (.int .i64 si) from ⟨bel_keep hU s1, bel_keep hU s2⟩)
              have HB6 := Lib.hid (Below.refl w0.heap.size w0)
              clear s0 s1 s2
              refine wp_region_till [] (fun U => U.cell? ⟨bs, os + m * 4 + 1, none⟩ = some (.int .i64 sl) ∧ U.cell? ⟨bs, os + m * 4 + 2, none⟩ = some (.int .i64 si)) (by kernel_rfl) (by exact HA14.out _ HB6.out.drew) (fun hHeld => ?_)
              have hb9 := (Below.refl w0.heap.size w0).drew
              have t0 := below_tr HB5.out hb9; have t1 := below_tr HB6.out hb9
              clear HB5 HB6
              have HB5 := Lib.hid t0; have HB6 := Lib.hid t1
              clear t0 t1
              clear hb9
              revert hHeld HB5 HB6
              generalize w0.drew = w0
              intro hHeld HB5 HB6
              (refine wpAnyL_take (n := 0) (i := 0) (oi := ?ox349) (v := ?vx349) ?hix349 ?k1x349 ?k2x349 ?k3x349 ?k4x349 ?k5x349 ?k6x349 ?hQx349 ?hYx349 ?hSx349 ?restx349; (case hix349 => (simp only [List.getElem?_toArray, List.getElem?_cons_succ, List.getElem?_cons_zero]; exact rfl)); (case k1x349 => kernel_rfl); (case k2x349 => kernel_rfl); (case k3x349 => kernel_rfl); (case k4x349 => kernel_rfl); (case k5x349 => kernel_rfl); (case k6x349 => kernel_rfl); (case hSx349 => assumption); (case hYx349 => (refine Or.inl ⟨rfl, ?hyx349⟩; intro w hSw; (try dsimp only at hSw); go_simp; (try with_reducible rfl))); (case hQx349 => exact (fun _ _ _ h => h)); (try simp only [Act.put, List.setIfInBounds_toArray, List.set_cons_zero, List.set_cons_succ]))
              (refine wpAnyL_take (n := 0) (i := 1) (oi := ?ox350) (v := ?vx350) ?hix350 ?k1x350 ?k2x350 ?k3x350 ?k4x350 ?k5x350 ?k6x350 ?hQx350 ?hYx350 ?hSx350 ?restx350; (case hix350 => (simp only [List.getElem?_toArray, List.getElem?_cons_succ, List.getElem?_cons_zero]; exact rfl)); (case k1x350 => kernel_rfl); (case k2x350 => kernel_rfl); (case k3x350 => kernel_rfl); (case k4x350 => kernel_rfl); (case k5x350 => kernel_rfl); (case k6x350 => kernel_rfl); (case hSx350 => assumption); (case hYx350 => (refine Or.inl ⟨rfl, ?hyx350⟩; intro w hSw; (try dsimp only at hSw); go_simp; (try with_reducible rfl))); (case hQx350 => exact (fun _ _ _ h => h)); (try simp only [Act.put, List.setIfInBounds_toArray, List.set_cons_zero, List.set_cons_succ]))
              (refine wpAnyL_take (n := 0) (i := 2) (oi := ?ox351) (v := ?vx351) ?hix351 ?k1x351 ?k2x351 ?k3x351 ?k4x351 ?k5x351 ?k6x351 ?hQx351 ?hYx351 ?hSx351 ?restx351; (case hix351 => (simp only [List.getElem?_toArray, List.getElem?_cons_succ, List.getElem?_cons_zero]; exact rfl)); (case k1x351 => kernel_rfl); (case k2x351 => kernel_rfl); (case k3x351 => kernel_rfl); (case k4x351 => kernel_rfl); (case k5x351 => kernel_rfl); (case k6x351 => kernel_rfl); (case hSx351 => assumption); (case hYx351 => (refine Or.inl ⟨rfl, ?hyx351⟩; intro w hSw; (try dsimp only at hSw); go_simp; (try with_reducible rfl))); (case hQx351 => exact (fun _ _ _ h => h)); (try simp only [Act.put, List.setIfInBounds_toArray, List.set_cons_zero, List.set_cons_succ]))
              (refine wpAnyL_take (n := 0) (i := 3) (oi := ?ox352) (v := ?vx352) ?hix352 ?k1x352 ?k2x352 ?k3x352 ?k4x352 ?k5x352 ?k6x352 ?hQx352 ?hYx352 ?hSx352 ?restx352; (case hix352 => (simp only [List.getElem?_toArray, List.getElem?_cons_succ, List.getElem?_cons_zero]; exact rfl)); (case k1x352 => kernel_rfl); (case k2x352 => kernel_rfl); (case k3x352 => kernel_rfl); (case k4x352 => kernel_rfl); (case k5x352 => kernel_rfl); (case k6x352 => kernel_rfl); (case hSx352 => assumption); (case hYx352 => (refine Or.inl ⟨rfl, ?hyx352⟩; intro w hSw; (try dsimp only at hSw); go_simp; (try with_reducible rfl))); (case hQx352 => exact (fun _ _ _ h => h)); (try simp only [Act.put, List.setIfInBounds_toArray, List.set_cons_zero, List.set_cons_succ]))
              (refine wpAnyL_take (n := 0) (i := 4) (oi := ?ox353) (v := ?vx353) ?hix353 ?k1x353 ?k2x353 ?k3x353 ?k4x353 ?k5x353 ?k6x353 ?hQx353 ?hYx353 ?hSx353 ?restx353; (case hix353 => (simp only [List.getElem?_toArray, List.getElem?_cons_succ, List.getElem?_cons_zero]; exact rfl)); (case k1x353 => kernel_rfl); (case k2x353 => kernel_rfl); (case k3x353 => kernel_rfl); (case k4x353 => kernel_rfl); (case k5x353 => kernel_rfl); (case k6x353 => kernel_rfl); (case hSx353 => assumption); (case hYx353 => (refine Or.inl ⟨rfl, ?hyx353⟩; intro w hSw; (try dsimp only at hSw); go_simp; (try with_reducible rfl))); (case hQx353 => exact (fun _ _ _ h => h)); (try simp only [Act.put, List.setIfInBounds_toArray, List.set_cons_zero, List.set_cons_succ]))
              (refine wpAnyL_take (n := 0) (i := 5) (oi := ?ox354) (v := ?vx354) ?hix354 ?k1x354 ?k2x354 ?k3x354 ?k4x354 ?k5x354 ?k6x354 ?hQx354 ?hYx354 ?hSx354 ?restx354; (case hix354 => (simp only [List.getElem?_toArray, List.getElem?_cons_succ, List.getElem?_cons_zero]; exact rfl)); (case k1x354 => kernel_rfl); (case k2x354 => kernel_rfl); (case k3x354 => kernel_rfl); (case k4x354 => kernel_rfl); (case k5x354 => kernel_rfl); (case k6x354 => kernel_rfl); (case hSx354 => assumption); (case hYx354 => (refine Or.inl ⟨rfl, ?hyx354⟩; intro w hSw; (try dsimp only at hSw); go_simp; (try with_reducible rfl))); (case hQx354 => exact (fun _ _ _ h => h)); (try simp only [Act.put, List.setIfInBounds_toArray, List.set_cons_zero, List.set_cons_succ]))
              (refine wpAnyL_take (n := 0) (i := 6) (oi := ?ox355) (v := ?vx355) ?hix355 ?k1x355 ?k2x355 ?k3x355 ?k4x355 ?k5x355 ?k6x355 ?hQx355 ?hYx355 ?hSx355 ?restx355; (case hix355 => (simp only [List.getElem?_toArray, List.getElem?_cons_succ, List.getElem?_cons_zero]; exact rfl)); (case k1x355 => kernel_rfl); (case k2x355 => kernel_rfl); (case k3x355 => kernel_rfl); (case k4x355 => kernel_rfl); (case k5x355 => kernel_rfl); (case k6x355 => kernel_rfl); (case hSx355 => assumption); (case hYx355 => (refine Or.inl ⟨rfl, ?hyx355⟩; intro w hSw; (try dsimp only at hSw); go_simp; (try with_reducible rfl))); (case hQx355 => exact (fun _ _ _ h => h)); (try simp only [Act.put, List.setIfInBounds_toArray, List.set_cons_zero, List.set_cons_succ]))
              (refine wpAnyL_take (n := 0) (i := 7) (oi := ?ox356) (v := ?vx356) ?hix356 ?k1x356 ?k2x356 ?k3x356 ?k4x356 ?k5x356 ?k6x356 ?hQx356 ?hYx356 ?hSx356 ?restx356; (case hix356 => (simp only [List.getElem?_toArray, List.getElem?_cons_succ, List.getElem?_cons_zero]; exact rfl)); (case k1x356 => kernel_rfl); (case k2x356 => kernel_rfl); (case k3x356 => kernel_rfl); (case k4x356 => kernel_rfl); (case k5x356 => kernel_rfl); (case k6x356 => kernel_rfl); (case hSx356 => assumption); (case hYx356 => (refine Or.inl ⟨rfl, ?hyx356⟩; intro w hSw; (try dsimp only at hSw); go_simp; (try with_reducible rfl))); (case hQx356 => exact (fun _ _ _ h => h)); (try simp only [Act.put, List.setIfInBounds_toArray, List.set_cons_zero, List.set_cons_succ]))
              (refine wpAnyL_take (n := 0) (i := 8) (oi := ?ox357) (v := ?vx357) ?hix357 ?k1x357 ?k2x357 ?k3x357 ?k4x357 ?k5x357 ?k6x357 ?hQx357 ?hYx357 ?hSx357 ?restx357; (case hix357 => (simp only [List.getElem?_toArray, List.getElem?_cons_succ, List.getElem?_cons_zero]; exact rfl)); (case k1x357 => kernel_rfl); (case k2x357 => kernel_rfl); (case k3x357 => kernel_rfl); (case k4x357 => kernel_rfl); (case k5x357 => kernel_rfl); (case k6x357 => kernel_rfl); (case hSx357 => assumption); (case hYx357 => (refine Or.inl ⟨rfl, ?hyx357⟩; intro w hSw; (try dsimp only at hSw); go_simp; (try with_reducible rfl))); (case hQx357 => exact (fun _ _ _ h => h)); (try simp only [Act.put, List.setIfInBounds_toArray, List.set_cons_zero, List.set_cons_succ]))
              (refine wpAnyL_take (n := 0) (i := 9) (oi := ?ox358) (v := ?vx358) ?hix358 ?k1x358 ?k2x358 ?k3x358 ?k4x358 ?k5x358 ?k6x358 ?hQx358 ?hYx358 ?hSx358 ?restx358; (case hix358 => (simp only [List.getElem?_toArray, List.getElem?_cons_succ, List.getElem?_cons_zero]; exact rfl)); (case k1x358 => kernel_rfl); (case k2x358 => kernel_rfl); (case k3x358 => kernel_rfl); (case k4x358 => kernel_rfl); (case k5x358 => kernel_rfl); (case k6x358 => kernel_rfl); (case hSx358 => assumption); (case hYx358 => (refine Or.inl ⟨rfl, ?hyx358⟩; intro w hSw; (try dsimp only at hSw); go_simp; (try with_reducible rfl))); (case hQx358 => exact (fun _ _ _ h => h)); (try simp only [Act.put, List.setIfInBounds_toArray, List.set_cons_zero, List.set_cons_succ]))
              (refine wpAnyL_take (n := 0) (i := 10) (oi := ?ox359) (v := ?vx359) ?hix359 ?k1x359 ?k2x359 ?k3x359 ?k4x359 ?k5x359 ?k6x359 ?hQx359 ?hYx359 ?hSx359 ?restx359; (case hix359 => (simp only [List.getElem?_toArray, List.getElem?_cons_succ, List.getElem?_cons_zero]; exact rfl)); (case k1x359 => kernel_rfl); (case k2x359 => kernel_rfl); (case k3x359 => kernel_rfl); (case k4x359 => kernel_rfl); (case k5x359 => kernel_rfl); (case k6x359 => kernel_rfl); (case hSx359 => assumption); (case hYx359 => (refine Or.inl ⟨rfl, ?hyx359⟩; intro w hSw; (try dsimp only at hSw); go_simp; (try with_reducible rfl))); (case hQx359 => exact (fun _ _ _ h => h)); (try simp only [Act.put, List.setIfInBounds_toArray, List.set_cons_zero, List.set_cons_succ]))
              (refine wpAnyL_take (n := 0) (i := 11) (oi := ?ox360) (v := ?vx360) ?hix360 ?k1x360 ?k2x360 ?k3x360 ?k4x360 ?k5x360 ?k6x360 ?hQx360 ?hYx360 ?hSx360 ?restx360; (case hix360 => (simp only [List.getElem?_toArray, List.getElem?_cons_succ, List.getElem?_cons_zero]; exact rfl)); (case k1x360 => kernel_rfl); (case k2x360 => kernel_rfl); (case k3x360 => kernel_rfl); (case k4x360 => kernel_rfl); (case k5x360 => kernel_rfl); (case k6x360 => kernel_rfl); (case hSx360 => assumption); (case hYx360 => (refine Or.inl ⟨rfl, ?hyx360⟩; intro w hSw; (try dsimp only at hSw); go_simp; (try with_reducible rfl))); (case hQx360 => exact (fun _ _ _ h => h)); (try simp only [Act.put, List.setIfInBounds_toArray, List.set_cons_zero, List.set_cons_succ]))
              (refine wpAnyL_take (n := 0) (i := 12) (oi := ?ox361) (v := ?vx361) ?hix361 ?k1x361 ?k2x361 ?k3x361 ?k4x361 ?k5x361 ?k6x361 ?hQx361 ?hYx361 ?hSx361 ?restx361; (case hix361 => (simp only [List.getElem?_toArray, List.getElem?_cons_succ, List.getElem?_cons_zero]; exact rfl)); (case k1x361 => kernel_rfl); (case k2x361 => kernel_rfl); (case k3x361 => kernel_rfl); (case k4x361 => kernel_rfl); (case k5x361 => kernel_rfl); (case k6x361 => kernel_rfl); (case hSx361 => assumption); (case hYx361 => (refine Or.inl ⟨rfl, ?hyx361⟩; intro w hSw; (try dsimp only at hSw); go_simp; (try with_reducible rfl))); (case hQx361 => exact (fun _ _ _ h => h)); (try simp only [Act.put, List.setIfInBounds_toArray, List.set_cons_zero, List.set_cons_succ]))
              (refine wpAnyL_take (n := 0) (i := 13) (oi := ?ox362) (v := ?vx362) ?hix362 ?k1x362 ?k2x362 ?k3x362 ?k4x362 ?k5x362 ?k6x362 ?hQx362 ?hYx362 ?hSx362 ?restx362; (case hix362 => (simp only [List.getElem?_toArray, List.getElem?_cons_succ, List.getElem?_cons_zero]; exact rfl)); (case k1x362 => kernel_rfl); (case k2x362 => kernel_rfl); (case k3x362 => kernel_rfl); (case k4x362 => kernel_rfl); (case k5x362 => kernel_rfl); (case k6x362 => kernel_rfl); (case hSx362 => assumption); (case hYx362 => (refine Or.inl ⟨rfl, ?hyx362⟩; intro w hSw; (try dsimp only at hSw); go_simp; (try with_reducible rfl))); (case hQx362 => exact (fun _ _ _ h => h)); (try simp only [Act.put, List.setIfInBounds_toArray, List.set_cons_zero, List.set_cons_succ]))
              (refine wpAnyL_done (by kernel_rfl) ?_ _)
              clear hwp
              go_wp2_with fail
              go_meet
              exact ⟨by rw [HLO.out.1], by rw [HLO.out.2], HB6.out⟩
          case rest =>
            obtain ⟨rfl, rfl, hbc⟩ := hcut
            have HBR2 := Lib.hid (below_tr HBR.out hbc)
            have HB6 := Lib.hid (below_tr HB5.out hbc)
            clear HBR HB5 hbc
            go_wp2_with fail
            go_at_call 72
            refine (HPK.out _ HBR2.out).mono ?_
            rintro e w1 ⟨rfl, hb9⟩
            have t0 := below_tr HB6.out hb9; have t1 := below_tr HBR2.out hb9
            clear HB6 HBR2
            have HB6 := Lib.hid t0; have HBR2 := Lib.hid t1
            clear t0 t1
            clear hb9 
            go_wp2_with fail
            have m1 : IntKind.i64.wrap (r.1 - l.seep.2) = r.1 - l.seep.2 := wi (by omega)
            have m2 : IntKind.i64.wrap (r.1 - l.seep.2 - O) = r.1 - l.seep.2 - O := wi (by omega)
            have m3 : IntKind.i64.wrap (r.2 - l.seep.1) = r.2 - l.seep.1 := wi (by omega)
            have m4 : IntKind.i64.wrap (r.2 - l.seep.1 - O) = r.2 - l.seep.1 - O := wi (by omega)
            refine wp_region_till [] (fun U => U.cell? ⟨w.heap.size, 7, none⟩ = some (.int .i64 l.seep.1) ∧ U.cell? ⟨w.heap.size, 8, none⟩ = some (.int .i64 l.seep.2) ∧ U.cell? ⟨w.heap.size, 9, none⟩ = some (.slice (some ⟨b, o, none⟩) nI cI) ∧ U.cell? ⟨b, o + h * 2, none⟩ = some (.int .i64 r.1) ∧ U.cell? ⟨b, o + h * 2 + 1, none⟩ = some (.int .i64 r.2)) (by kernel_rfl) (by exact HS16.out _ HB6.out.drew) (fun hHeld => ?_)
            have hb9 := (Below.refl w1.heap.size w1).drew
            have t0 := below_tr HB6.out hb9; have t1 := below_tr HBR2.out hb9
            clear HB6 HBR2
            have HB6 := Lib.hid t0; have HBR2 := Lib.hid t1
            clear t0 t1
            clear hb9
            revert hHeld HB6 HBR2
            generalize w1.drew = w0
            intro hHeld HB6 HBR2
            (refine wpAnyL_take (n := 0) (i := 0) (oi := ?ox363) (v := ?vx363) ?hix363 ?k1x363 ?k2x363 ?k3x363 ?k4x363 ?k5x363 ?k6x363 ?hQx363 ?hYx363 ?hSx363 ?restx363; (case hix363 => (simp only [List.getElem?_toArray, List.getElem?_cons_succ, List.getElem?_cons_zero]; exact rfl)); (case k1x363 => kernel_rfl); (case k2x363 => kernel_rfl); (case k3x363 => kernel_rfl); (case k4x363 => kernel_rfl); (case k5x363 => kernel_rfl); (case k6x363 => kernel_rfl); (case hSx363 => assumption); (case hYx363 => (refine Or.inl ⟨rfl, ?hyx363⟩; intro w hSw; (try dsimp only at hSw); go_simp; (try with_reducible rfl))); (case hQx363 => exact (fun _ _ _ h => h)); (try simp only [Act.put, List.setIfInBounds_toArray, List.set_cons_zero, List.set_cons_succ]))
            (refine wpAnyL_take (n := 0) (i := 1) (oi := ?ox364) (v := ?vx364) ?hix364 ?k1x364 ?k2x364 ?k3x364 ?k4x364 ?k5x364 ?k6x364 ?hQx364 ?hYx364 ?hSx364 ?restx364; (case hix364 => (simp only [List.getElem?_toArray, List.getElem?_cons_succ, List.getElem?_cons_zero]; exact rfl)); (case k1x364 => kernel_rfl); (case k2x364 => kernel_rfl); (case k3x364 => kernel_rfl); (case k4x364 => kernel_rfl); (case k5x364 => kernel_rfl); (case k6x364 => kernel_rfl); (case hSx364 => assumption); (case hYx364 => (refine Or.inl ⟨rfl, ?hyx364⟩; intro w hSw; (try dsimp only at hSw); go_simp; (try with_reducible rfl))); (case hQx364 => exact (fun _ _ _ h => h)); (try simp only [Act.put, List.setIfInBounds_toArray, List.set_cons_zero, List.set_cons_succ]))
            (refine wpAnyL_take (n := 0) (i := 2) (oi := ?ox365) (v := ?vx365) ?hix365 ?k1x365 ?k2x365 ?k3x365 ?k4x365 ?k5x365 ?k6x365 ?hQx365 ?hYx365 ?hSx365 ?restx365; (case hix365 => (simp only [List.getElem?_toArray, List.getElem?_cons_succ, List.getElem?_cons_zero]; exact rfl)); (case k1x365 => kernel_rfl); (case k2x365 => kernel_rfl); (case k3x365 => kernel_rfl); (case k4x365 => kernel_rfl); (case k5x365 => kernel_rfl); (case k6x365 => kernel_rfl); (case hSx365 => assumption); (case hYx365 => (refine Or.inl ⟨rfl, ?hyx365⟩; intro w hSw; (try dsimp only at hSw); go_simp; (try with_reducible rfl))); (case hQx365 => exact (fun _ _ _ h => h)); (try simp only [Act.put, List.setIfInBounds_toArray, List.set_cons_zero, List.set_cons_succ]))
            (refine wpAnyL_take (n := 0) (i := 3) (oi := ?ox366) (v := ?vx366) ?hix366 ?k1x366 ?k2x366 ?k3x366 ?k4x366 ?k5x366 ?k6x366 ?hQx366 ?hYx366 ?hSx366 ?restx366; (case hix366 => (simp only [List.getElem?_toArray, List.getElem?_cons_succ, List.getElem?_cons_zero]; exact rfl)); (case k1x366 => kernel_rfl); (case k2x366 => kernel_rfl); (case k3x366 => kernel_rfl); (case k4x366 => kernel_rfl); (case k5x366 => kernel_rfl); (case k6x366 => kernel_rfl); (case hSx366 => assumption); (case hYx366 => (refine Or.inl ⟨rfl, ?hyx366⟩; intro w hSw; (try dsimp only at hSw); go_simp; (try with_reducible rfl))); (case hQx366 => exact (fun _ _ _ h => h)); (try simp only [Act.put, List.setIfInBounds_toArray, List.set_cons_zero, List.set_cons_succ]))
            (refine wpAnyL_take (n := 0) (i := 4) (oi := ?ox367) (v := ?vx367) ?hix367 ?k1x367 ?k2x367 ?k3x367 ?k4x367 ?k5x367 ?k6x367 ?hQx367 ?hYx367 ?hSx367 ?restx367; (case hix367 => (simp only [List.getElem?_toArray, List.getElem?_cons_succ, List.getElem?_cons_zero]; exact rfl)); (case k1x367 => kernel_rfl); (case k2x367 => kernel_rfl); (case k3x367 => kernel_rfl); (case k4x367 => kernel_rfl); (case k5x367 => kernel_rfl); (case k6x367 => kernel_rfl); (case hSx367 => assumption); (case hYx367 => (refine Or.inl ⟨rfl, ?hyx367⟩; intro w hSw; (try dsimp only at hSw); go_simp; (try with_reducible rfl))); (case hQx367 => exact (fun _ _ _ h => h)); (try simp only [Act.put, List.setIfInBounds_toArray, List.set_cons_zero, List.set_cons_succ]))
            (refine wpAnyL_take (n := 0) (i := 5) (oi := ?ox368) (v := ?vx368) ?hix368 ?k1x368 ?k2x368 ?k3x368 ?k4x368 ?k5x368 ?k6x368 ?hQx368 ?hYx368 ?hSx368 ?restx368; (case hix368 => (simp only [List.getElem?_toArray, List.getElem?_cons_succ, List.getElem?_cons_zero]; exact rfl)); (case k1x368 => kernel_rfl); (case k2x368 => kernel_rfl); (case k3x368 => kernel_rfl); (case k4x368 => kernel_rfl); (case k5x368 => kernel_rfl); (case k6x368 => kernel_rfl); (case hSx368 => assumption); (case hYx368 => (refine Or.inl ⟨rfl, ?hyx368⟩; intro w hSw; (try dsimp only at hSw); go_simp; (try with_reducible rfl))); (case hQx368 => exact (fun _ _ _ h => h)); (try simp only [Act.put, List.setIfInBounds_toArray, List.set_cons_zero, List.set_cons_succ]))
            (refine wpAnyL_take (n := 0) (i := 6) (oi := ?ox369) (v := ?vx369) ?hix369 ?k1x369 ?k2x369 ?k3x369 ?k4x369 ?k5x369 ?k6x369 ?hQx369 ?hYx369 ?hSx369 ?restx369; (case hix369 => (simp only [List.getElem?_toArray, List.getElem?_cons_succ, List.getElem?_cons_zero]; exact rfl)); (case k1x369 => kernel_rfl); (case k2x369 => kernel_rfl); (case k3x369 => kernel_rfl); (case k4x369 => kernel_rfl); (case k5x369 => kernel_rfl); (case k6x369 => kernel_rfl); (case hSx369 => assumption); (case hYx369 => (refine Or.inl ⟨rfl, ?hyx369⟩; intro w hSw; (try dsimp only at hSw); go_simp; (try with_reducible rfl))); (case hQx369 => exact (fun _ _ _ h => h)); (try simp only [Act.put, List.setIfInBounds_toArray, List.set_cons_zero, List.set_cons_succ]))
            (refine wpAnyL_take (n := 0) (i := 7) (oi := ?ox370) (v := ?vx370) ?hix370 ?k1x370 ?k2x370 ?k3x370 ?k4x370 ?k5x370 ?k6x370 ?hQx370 ?hYx370 ?hSx370 ?restx370; (case hix370 => (simp only [List.getElem?_toArray, List.getElem?_cons_succ, List.getElem?_cons_zero]; exact rfl)); (case k1x370 => kernel_rfl); (case k2x370 => kernel_rfl); (case k3x370 => kernel_rfl); (case k4x370 => kernel_rfl); (case k5x370 => kernel_rfl); (case k6x370 => kernel_rfl); (case hSx370 => assumption); (case hYx370 => (refine Or.inl ⟨rfl, ?hyx370⟩; intro w hSw; (try dsimp only at hSw); go_simp; (try with_reducible rfl))); (case hQx370 => exact (fun _ _ _ h => h)); (try simp only [Act.put, List.setIfInBounds_toArray, List.set_cons_zero, List.set_cons_succ]))
            (refine wpAnyL_take (n := 0) (i := 8) (oi := ?ox371) (v := ?vx371) ?hix371 ?k1x371 ?k2x371 ?k3x371 ?k4x371 ?k5x371 ?k6x371 ?hQx371 ?hYx371 ?hSx371 ?restx371; (case hix371 => (simp only [List.getElem?_toArray, List.getElem?_cons_succ, List.getElem?_cons_zero]; exact rfl)); (case k1x371 => kernel_rfl); (case k2x371 => kernel_rfl); (case k3x371 => kernel_rfl); (case k4x371 => kernel_rfl); (case k5x371 => kernel_rfl); (case k6x371 => kernel_rfl); (case hSx371 => assumption); (case hYx371 => (refine Or.inl ⟨rfl, ?hyx371⟩; intro w hSw; (try dsimp only at hSw); go_simp; (try with_reducible rfl))); (case hQx371 => exact (fun _ _ _ h => h)); (try simp only [Act.put, List.setIfInBounds_toArray, List.set_cons_zero, List.set_cons_succ]))
            (refine wpAnyL_take (n := 0) (i := 9) (oi := ?ox372) (v := ?vx372) ?hix372 ?k1x372 ?k2x372 ?k3x372 ?k4x372 ?k5x372 ?k6x372 ?hQx372 ?hYx372 ?hSx372 ?restx372; (case hix372 => (simp only [List.getElem?_toArray, List.getElem?_cons_succ, List.getElem?_cons_zero]; exact rfl)); (case k1x372 => kernel_rfl); (case k2x372 => kernel_rfl); (case k3x372 => kernel_rfl); (case k4x372 => kernel_rfl); (case k5x372 => kernel_rfl); (case k6x372 => kernel_rfl); (case hSx372 => assumption); (case hYx372 => (refine Or.inl ⟨rfl, ?hyx372⟩; intro w hSw; (try dsimp only at hSw); go_simp; (try with_reducible rfl))); (case hQx372 => exact (fun _ _ _ h => h)); (try simp only [Act.put, List.setIfInBounds_toArray, List.set_cons_zero, List.set_cons_succ]))
            (refine wpAnyL_take (n := 0) (i := 10) (oi := ?ox373) (v := ?vx373) ?hix373 ?k1x373 ?k2x373 ?k3x373 ?k4x373 ?k5x373 ?k6x373 ?hQx373 ?hYx373 ?hSx373 ?restx373; (case hix373 => (simp only [List.getElem?_toArray, List.getElem?_cons_succ, List.getElem?_cons_zero]; exact rfl)); (case k1x373 => kernel_rfl); (case k2x373 => kernel_rfl); (case k3x373 => kernel_rfl); (case k4x373 => kernel_rfl); (case k5x373 => kernel_rfl); (case k6x373 => kernel_rfl); (case hSx373 => assumption); (case hYx373 => (refine Or.inl ⟨rfl, ?hyx373⟩; intro w hSw; (try dsimp only at hSw); go_simp; (try with_reducible rfl))); (case hQx373 => exact (fun _ _ _ h => h)); (try simp only [Act.put, List.setIfInBounds_toArray, List.set_cons_zero, List.set_cons_succ]))
            (refine wpAnyL_take (n := 0) (i := 11) (oi := ?ox374) (v := ?vx374) ?hix374 ?k1x374 ?k2x374 ?k3x374 ?k4x374 ?k5x374 ?k6x374 ?hQx374 ?hYx374 ?hSx374 ?restx374; (case hix374 => (simp only [List.getElem?_toArray, List.getElem?_cons_succ, List.getElem?_cons_zero]; exact rfl)); (case k1x374 => kernel_rfl); (case k2x374 => kernel_rfl); (case k3x374 => kernel_rfl); (case k4x374 => kernel_rfl); (case k5x374 => kernel_rfl); (case k6x374 => kernel_rfl); (case hSx374 => assumption); (case hYx374 => (refine Or.inl ⟨rfl, ?hyx374⟩; intro w hSw; (try dsimp only at hSw); go_simp; (try with_reducible rfl))); (case hQx374 => exact (fun _ _ _ h => h)); (try simp only [Act.put, List.setIfInBounds_toArray, List.set_cons_zero, List.set_cons_succ]))
            (refine wpAnyL_take (n := 0) (i := 12) (oi := ?ox375) (v := ?vx375) ?hix375 ?k1x375 ?k2x375 ?k3x375 ?k4x375 ?k5x375 ?k6x375 ?hQx375 ?hYx375 ?hSx375 ?restx375; (case hix375 => (simp only [List.getElem?_toArray, List.getElem?_cons_succ, List.getElem?_cons_zero]; exact rfl)); (case k1x375 => kernel_rfl); (case k2x375 => kernel_rfl); (case k3x375 => kernel_rfl); (case k4x375 => kernel_rfl); (case k5x375 => kernel_rfl); (case k6x375 => kernel_rfl); (case hSx375 => assumption); (case hYx375 => (refine Or.inl ⟨rfl, ?hyx375⟩; intro w hSw; (try dsimp only at hSw); go_simp; (try with_reducible rfl))); (case hQx375 => exact (fun _ _ _ h => h)); (try simp only [Act.put, List.setIfInBounds_toArray, List.set_cons_zero, List.set_cons_succ]))
            (refine wpAnyL_take (n := 0) (i := 13) (oi := ?ox376) (v := ?vx376) ?hix376 ?k1x376 ?k2x376 ?k3x376 ?k4x376 ?k5x376 ?k6x376 ?hQx376 ?hYx376 ?hSx376 ?restx376; (case hix376 => (simp only [List.getElem?_toArray, List.getElem?_cons_succ, List.getElem?_cons_zero]; exact rfl)); (case k1x376 => kernel_rfl); (case k2x376 => kernel_rfl); (case k3x376 => kernel_rfl); (case k4x376 => kernel_rfl); (case k5x376 => kernel_rfl); (case k6x376 => kernel_rfl); (case hSx376 => assumption); (case hYx376 => (refine Or.inl ⟨rfl, ?hyx376⟩; intro w hSw; (try dsimp only at hSw); go_simp; (try with_reducible rfl))); (case hQx376 => exact (fun _ _ _ h => h)); (try simp only [Act.put, List.setIfInBounds_toArray, List.set_cons_zero, List.set_cons_succ]))
            (refine wpAnyL_take (n := 0) (i := 14) (oi := ?ox377) (v := ?vx377) ?hix377 ?k1x377 ?k2x377 ?k3x377 ?k4x377 ?k5x377 ?k6x377 ?hQx377 ?hYx377 ?hSx377 ?restx377; (case hix377 => (simp only [List.getElem?_toArray, List.getElem?_cons_succ, List.getElem?_cons_zero]; exact rfl)); (case k1x377 => kernel_rfl); (case k2x377 => kernel_rfl); (case k3x377 => kernel_rfl); (case k4x377 => kernel_rfl); (case k5x377 => kernel_rfl); (case k6x377 => kernel_rfl); (case hSx377 => assumption); (case hYx377 => (refine Or.inl ⟨rfl, ?hyx377⟩; intro w hSw; (try dsimp only at hSw); go_simp; (try with_reducible rfl))); (case hQx377 => exact (fun _ _ _ h => h)); (try simp only [Act.put, List.setIfInBounds_toArray, List.set_cons_zero, List.set_cons_succ]))
            (refine wpAnyL_take (n := 0) (i := 15) (oi := ?ox378) (v := ?vx378) ?hix378 ?k1x378 ?k2x378 ?k3x378 ?k4x378 ?k5x378 ?k6x378 ?hQx378 ?hYx378 ?hSx378 ?restx378; (case hix378 => (simp only [List.getElem?_toArray, List.getElem?_cons_succ, List.getElem?_cons_zero]; exact rfl)); (case k1x378 => kernel_rfl); (case k2x378 => kernel_rfl); (case k3x378 => kernel_rfl); (case k4x378 => kernel_rfl); (case k5x378 => kernel_rfl); (case k6x378 => kernel_rfl); (case hSx378 => assumption); (case hYx378 => (refine Or.inl ⟨rfl, ?hyx378⟩; intro w hSw; (try dsimp only at hSw); go_simp; (try with_reducible rfl))); (case hQx378 => exact (fun _ _ _ h => h)); (try simp only [Act.put, List.setIfInBounds_toArray, List.set_cons_zero, List.set_cons_succ]))
            (refine wpAnyL_take (n := 0) (i := 16) (oi := ?ox379) (v := ?vx379) ?hix379 ?k1x379 ?k2x379 ?k3x379 ?k4x379 ?k5x379 ?k6x379 ?hQx379 ?hYx379 ?hSx379 ?restx379; (case hix379 => (simp only [List.getElem?_toArray, List.getElem?_cons_succ, List.getElem?_cons_zero]; exact rfl)); (case k1x379 => kernel_rfl); (case k2x379 => kernel_rfl); (case k3x379 => kernel_rfl); (case k4x379 => kernel_rfl); (case k5x379 => kernel_rfl); (case k6x379 => kernel_rfl); (case hSx379 => assumption); (case hYx379 => (refine Or.inl ⟨rfl, ?hyx379⟩; intro w hSw; (try dsimp only at hSw); go_simp; (try with_reducible rfl))); (case hQx379 => exact (fun _ _ _ h => h)); (try simp only [Act.put, List.setIfInBounds_toArray, List.set_cons_zero, List.set_cons_succ]))
            (refine wpAnyL_take (n := 0) (i := 17) (oi := ?ox380) (v := ?vx380) ?hix380 ?k1x380 ?k2x380 ?k3x380 ?k4x380 ?k5x380 ?k6x380 ?hQx380 ?hYx380 ?hSx380 ?restx380; (case hix380 => (simp only [List.getElem?_toArray, List.getElem?_cons_succ, List.getElem?_cons_zero]; exact rfl)); (case k1x380 => kernel_rfl); (case k2x380 => kernel_rfl); (case k3x380 => kernel_rfl); (case k4x380 => kernel_rfl); (case k5x380 => kernel_rfl); (case k6x380 => kernel_rfl); (case hSx380 => assumption); (case hYx380 => (refine Or.inl ⟨rfl, ?hyx380⟩; intro w hSw; (try dsimp only at hSw); go_simp; (try with_reducible rfl))); (case hQx380 => exact (fun _ _ _ h => h)); (try simp only [Act.put, List.setIfInBounds_toArray, List.set_cons_zero, List.set_cons_succ]))
            (refine wpAnyL_take (n := 0) (i := 18) (oi := ?ox381) (v := ?vx381) ?hix381 ?k1x381 ?k2x381 ?k3x381 ?k4x381 ?k5x381 ?k6x381 ?hQx381 ?hYx381 ?hSx381 ?restx381; (case hix381 => (simp only [List.getElem?_toArray, List.getElem?_cons_succ, List.getElem?_cons_zero]; exact rfl)); (case k1x381 => kernel_rfl); (case k2x381 => kernel_rfl); (case k3x381 => kernel_rfl); (case k4x381 => kernel_rfl); (case k5x381 => kernel_rfl); (case k6x381 => kernel_rfl); (case hSx381 => assumption); (case hYx381 => (refine Or.inl ⟨rfl, ?hyx381⟩; intro w hSw; (try dsimp only at hSw); go_simp; (try with_reducible rfl))); (case hQx381 => exact (fun _ _ _ h => h)); (try simp only [Act.put, List.setIfInBounds_toArray, List.set_cons_zero, List.set_cons_succ]))
            (refine wpAnyL_take (n := 0) (i := 19) (oi := ?ox382) (v := ?vx382) ?hix382 ?k1x382 ?k2x382 ?k3x382 ?k4x382 ?k5x382 ?k6x382 ?hQx382 ?hYx382 ?hSx382 ?restx382; (case hix382 => (simp only [List.getElem?_toArray, List.getElem?_cons_succ, List.getElem?_cons_zero]; exact rfl)); (case k1x382 => kernel_rfl); (case k2x382 => kernel_rfl); (case k3x382 => kernel_rfl); (case k4x382 => kernel_rfl); (case k5x382 => kernel_rfl); (case k6x382 => kernel_rfl); (case hSx382 => assumption); (case hYx382 => (refine Or.inl ⟨rfl, ?hyx382⟩; intro w hSw; (try dsimp only at hSw); go_simp; (try with_reducible rfl))); (case hQx382 => exact (fun _ _ _ h => h)); (try simp only [Act.put, List.setIfInBounds_toArray, List.set_cons_zero, List.set_cons_succ]))
            (refine wpAnyL_take (n := 0) (i := 20) (oi := ?ox383) (v := ?vx383) ?hix383 ?k1x383 ?k2x383 ?k3x383 ?k4x383 ?k5x383 ?k6x383 ?hQx383 ?hYx383 ?hSx383 ?restx383; (case hix383 => (simp only [List.getElem?_toArray, List.getElem?_cons_succ, List.getElem?_cons_zero]; exact rfl)); (case k1x383 => kernel_rfl); (case k2x383 => kernel_rfl); (case k3x383 => kernel_rfl); (case k4x383 => kernel_rfl); (case k5x383 => kernel_rfl); (case k6x383 => kernel_rfl); (case hSx383 => assumption); (case hYx383 => (refine Or.inl ⟨rfl, ?hyx383⟩; intro w hSw; (try dsimp only at hSw); go_simp; (try with_reducible rfl))); (case hQx383 => exact (fun _ _ _ h => h)); (try simp only [Act.put, List.setIfInBounds_toArray, List.set_cons_zero, List.set_cons_succ]))
            (refine wpAnyL_take (n := 0) (i := 21) (oi := ?ox384) (v := ?vx384) ?hix384 ?k1x384 ?k2x384 ?k3x384 ?k4x384 ?k5x384 ?k6x384 ?hQx384 ?hYx384 ?hSx384 ?restx384; (case hix384 => (simp only [List.getElem?_toArray, List.getElem?_cons_succ, List.getElem?_cons_zero]; exact rfl)); (case k1x384 => kernel_rfl); (case k2x384 => kernel_rfl); (case k3x384 => kernel_rfl); (case k4x384 => kernel_rfl); (case k5x384 => kernel_rfl); (case k6x384 => kernel_rfl); (case hSx384 => assumption); (case hYx384 => (refine Or.inl ⟨rfl, ?hyx384⟩; intro w hSw; (try dsimp only at hSw); go_simp; (try with_reducible rfl))); (case hQx384 => exact (fun _ _ _ h => h)); (try simp only [Act.put, List.setIfInBounds_toArray, List.set_cons_zero, List.set_cons_succ]))
            (refine wpAnyL_take (n := 0) (i := 22) (oi := ?ox385) (v := ?vx385) ?hix385 ?k1x385 ?k2x385 ?k3x385 ?k4x385 ?k5x385 ?k6x385 ?hQx385 ?hYx385 ?hSx385 ?restx385; (case hix385 => (simp only [List.getElem?_toArray, List.getElem?_cons_succ, List.getElem?_cons_zero]; exact rfl)); (case k1x385 => kernel_rfl); (case k2x385 => kernel_rfl); (case k3x385 => kernel_rfl); (case k4x385 => kernel_rfl); (case k5x385 => kernel_rfl); (case k6x385 => kernel_rfl); (case hSx385 => assumption); (case hYx385 => (refine Or.inl ⟨rfl, ?hyx385⟩; intro w hSw; (try dsimp only at hSw); go_simp; (try with_reducible rfl))); (case hQx385 => exact (fun _ _ _ h => h)); (try simp only [Act.put, List.setIfInBounds_toArray, List.set_cons_zero, List.set_cons_succ]))
            (refine wpAnyL_take (n := 0) (i := 23) (oi := ?ox386) (v := ?vx386) ?hix386 ?k1x386 ?k2x386 ?k3x386 ?k4x386 ?k5x386 ?k6x386 ?hQx386 ?hYx386 ?hSx386 ?restx386; (case hix386 => (simp only [List.getElem?_toArray, List.getElem?_cons_succ, List.getElem?_cons_zero]; exact rfl)); (case k1x386 => kernel_rfl); (case k2x386 => kernel_rfl); (case k3x386 => kernel_rfl); (case k4x386 => kernel_rfl); (case k5x386 => kernel_rfl); (case k6x386 => kernel_rfl); (case hSx386 => assumption); (case hYx386 => (refine Or.inl ⟨rfl, ?hyx386⟩; intro w hSw; (try dsimp only at hSw); go_simp; (try with_reducible rfl))); (case hQx386 => exact (fun _ _ _ h => h)); (try simp only [Act.put, List.setIfInBounds_toArray, List.set_cons_zero, List.set_cons_succ]))
            (refine wpAnyL_take (n := 0) (i := 24) (oi := ?ox387) (v := ?vx387) ?hix387 ?k1x387 ?k2x387 ?k3x387 ?k4x387 ?k5x387 ?k6x387 ?hQx387 ?hYx387 ?hSx387 ?restx387; (case hix387 => (simp only [List.getElem?_toArray, List.getElem?_cons_succ, List.getElem?_cons_zero]; exact rfl)); (case k1x387 => kernel_rfl); (case k2x387 => kernel_rfl); (case k3x387 => kernel_rfl); (case k4x387 => kernel_rfl); (case k5x387 => kernel_rfl); (case k6x387 => kernel_rfl); (case hSx387 => assumption); (case hYx387 => (refine Or.inl ⟨rfl, ?hyx387⟩; intro w hSw; (try dsimp only at hSw); go_simp; (try with_reducible rfl))); (case hQx387 => exact (fun _ _ _ h => h)); (try simp only [Act.put, List.setIfInBounds_toArray, List.set_cons_zero, List.set_cons_succ]))
            (refine wpAnyL_take (n := 0) (i := 25) (oi := ?ox388) (v := ?vx388) ?hix388 ?k1x388 ?k2x388 ?k3x388 ?k4x388 ?k5x388 ?k6x388 ?hQx388 ?hYx388 ?hSx388 ?restx388; (case hix388 => (simp only [List.getElem?_toArray, List.getElem?_cons_succ, List.getElem?_cons_zero]; exact rfl)); (case k1x388 => kernel_rfl); (case k2x388 => kernel_rfl); (case k3x388 => kernel_rfl); (case k4x388 => kernel_rfl); (case k5x388 => kernel_rfl); (case k6x388 => kernel_rfl); (case hSx388 => assumption); (case hYx388 => (refine Or.inl ⟨rfl, ?hyx388⟩; intro w hSw; (try dsimp only at hSw); go_simp; (try with_reducible rfl))); (case hQx388 => exact (fun _ _ _ h => h)); (try simp only [Act.put, List.setIfInBounds_toArray, List.set_cons_zero, List.set_cons_succ]))
            (refine wpAnyL_done (by kernel_rfl) ?_ _)
            clear m1 m2 m3 m4
            go_upto_region 18 with fail
            rw [← HBB.out]
            have hq2 : ¬ bb < L.1 := by omega
            have hq3 : ¬ r.2 - l.seep.1 - O < n := by omega
            clear p2 p3
            go_upto_if 130 with (fail)
            go_cut [24] (fun a wx => a = .int .i64 n ∧ wx = w0)
            case first =>
              by_cases hv0 : v = 0
              · have hn := HN.out
                rw [if_pos hv0] at hn
                subst hv0
                have HN2 := Lib.hid hn
                clear hn hq3
                go_wp2_with fail
                go_meet
                exact ⟨by rw [HN2.out]; simp, rfl⟩
              · have hn := HN.out
                rw [if_neg hv0] at hn
                have HN2 := Lib.hid hn
                have hv1 : (v == 0) = false := by simpa using hv0
                clear hn hq3
                go_wp2_with fail
                go_meet
                exact ⟨by rw [HN2.out], rfl⟩
            case rest =>
              obtain ⟨rfl, rfl⟩ := hcut
              go_wp2_with fail
              have ht2 := HT.out.below HB6.out
              have hFl : F.length = nI := by have := HP4.out.n; have := HIL.out; simp only [List.length_set] at *; omega
              have hSl : S.length = nI := by have := HP4.out.m; have := HIL.out; simp only [List.length_set] at *; omega
              obtain ⟨fv, hfv⟩ : ∃ fv, F[h]? = some fv := ⟨_, List.getElem?_eq_getElem (by omega)⟩
              obtain ⟨sv, hsv⟩ : ∃ sv, S[h]? = some sv := ⟨_, List.getElem?_eq_getElem (by omega)⟩
              have v9 := ht2.oF.cellAt h (by omega)
              have v8 := ht2.oS.cellAt h (by omega)
              simp only at v9 v8
              rw [flat1_get hfv] at v9
              rw [flat1_get hsv] at v8
              have y0 := ht2.box.cell 0; have y1 := ht2.box.cell 1
              simp at y0 y1
              have HS25 := Lib.hid (fun (U : World) (hU : Below wc.heap.size wc U) => show U.cell? ⟨w.heap.size, 8, none⟩ = some (.int .i64 l.seep.2) ∧ U.cell? ⟨w.heap.size, 9, none⟩ = some (.slice (some ⟨b, o, none⟩) nI cI) ∧ U.cell? ⟨b, o + h * 2 + 1, none⟩ = some (.int .i64 r.2) ∧ U.cell? ⟨g, 0, none⟩ = some (.slice (some ⟨gf, 0, none⟩) nI cF) ∧ U.cell? ⟨gf, h, none⟩ = some (.int .i64 fv) from
                have q := HS16.out _ (below_tr HB6.out hU)
                ⟨q.2.1, q.2.2.1, q.2.2.2.2, bel_keep hU y0, bel_keep hU v9⟩)
              have HT2 := Lib.hid ht2; have HB7 := Lib.hid (Below.refl wc.heap.size wc)
              have HNF := Lib.hid (ht2.ap gf rfl)
              clear ht2 hfv hsv v9 v8 y0 y1 hFl hSl
              have m1 : IntKind.i64.wrap (n + O) = n + O := wi (by omega)
              have m2 : IntKind.i64.wrap (n + O + l.seep.2) = n + O + l.seep.2 := wi (by omega)
              refine wp_region_till [18] (fun U => U.cell? ⟨w.heap.size, 8, none⟩ = some (.int .i64 l.seep.2) ∧ U.cell? ⟨w.heap.size, 9, none⟩ = some (.slice (some ⟨b, o, none⟩) nI cI) ∧ U.cell? ⟨b, o + h * 2 + 1, none⟩ = some (.int .i64 r.2) ∧ U.cell? ⟨g, 0, none⟩ = some (.slice (some ⟨gf, 0, none⟩) nI cF) ∧ U.cell? ⟨gf, h, none⟩ = some (.int .i64 fv)) (by kernel_rfl) (by exact HS25.out _ HB7.out.drew) (fun hHeld => ?_)
              have hb9 := (Below.refl wc.heap.size wc).drew
              have t0 := below_tr HB6.out hb9; have t1 := below_tr HBR2.out hb9; have t2 := below_tr HB7.out hb9; have t3 := HT2.out.below hb9
              clear HB6 HBR2 HB7 HT2
              have HB6 := Lib.hid t0; have HBR2 := Lib.hid t1; have HB7 := Lib.hid t2; have HT2 := Lib.hid t3
              clear t0 t1 t2 t3
              clear hb9
              revert hHeld HB6 HBR2 HB7 HT2
              generalize wc.drew = w0
              intro hHeld HB6 HBR2 HB7 HT2
              (refine wpAnyL_take (n := 0) (i := 0) (oi := ?ox389) (v := ?vx389) ?hix389 ?k1x389 ?k2x389 ?k3x389 ?k4x389 ?k5x389 ?k6x389 ?hQx389 ?hYx389 ?hSx389 ?restx389; (case hix389 => (simp only [List.getElem?_toArray, List.getElem?_cons_succ, List.getElem?_cons_zero]; exact rfl)); (case k1x389 => kernel_rfl); (case k2x389 => kernel_rfl); (case k3x389 => kernel_rfl); (case k4x389 => kernel_rfl); (case k5x389 => kernel_rfl); (case k6x389 => kernel_rfl); (case hSx389 => assumption); (case hYx389 => (refine Or.inl ⟨rfl, ?hyx389⟩; intro w hSw; (try dsimp only at hSw); go_simp; (try with_reducible rfl))); (case hQx389 => exact (fun _ _ _ h => h)); (try simp only [Act.put, List.setIfInBounds_toArray, List.set_cons_zero, List.set_cons_succ]))
              (refine wpAnyL_take (n := 0) (i := 1) (oi := ?ox390) (v := ?vx390) ?hix390 ?k1x390 ?k2x390 ?k3x390 ?k4x390 ?k5x390 ?k6x390 ?hQx390 ?hYx390 ?hSx390 ?restx390; (case hix390 => (simp only [List.getElem?_toArray, List.getElem?_cons_succ, List.getElem?_cons_zero]; exact rfl)); (case k1x390 => kernel_rfl); (case k2x390 => kernel_rfl); (case k3x390 => kernel_rfl); (case k4x390 => kernel_rfl); (case k5x390 => kernel_rfl); (case k6x390 => kernel_rfl); (case hSx390 => assumption); (case hYx390 => (refine Or.inl ⟨rfl, ?hyx390⟩; intro w hSw; (try dsimp only at hSw); go_simp; (try with_reducible rfl))); (case hQx390 => exact (fun _ _ _ h => h)); (try simp only [Act.put, List.setIfInBounds_toArray, List.set_cons_zero, List.set_cons_succ]))
              (refine wpAnyL_take (n := 0) (i := 2) (oi := ?ox391) (v := ?vx391) ?hix391 ?k1x391 ?k2x391 ?k3x391 ?k4x391 ?k5x391 ?k6x391 ?hQx391 ?hYx391 ?hSx391 ?restx391; (case hix391 => (simp only [List.getElem?_toArray, List.getElem?_cons_succ, List.getElem?_cons_zero]; exact rfl)); (case k1x391 => kernel_rfl); (case k2x391 => kernel_rfl); (case k3x391 => kernel_rfl); (case k4x391 => kernel_rfl); (case k5x391 => kernel_rfl); (case k6x391 => kernel_rfl); (case hSx391 => assumption); (case hYx391 => (refine Or.inl ⟨rfl, ?hyx391⟩; intro w hSw; (try dsimp only at hSw); go_simp; (try with_reducible rfl))); (case hQx391 => exact (fun _ _ _ h => h)); (try simp only [Act.put, List.setIfInBounds_toArray, List.set_cons_zero, List.set_cons_succ]))
              (refine wpAnyL_take (n := 0) (i := 3) (oi := ?ox392) (v := ?vx392) ?hix392 ?k1x392 ?k2x392 ?k3x392 ?k4x392 ?k5x392 ?k6x392 ?hQx392 ?hYx392 ?hSx392 ?restx392; (case hix392 => (simp only [List.getElem?_toArray, List.getElem?_cons_succ, List.getElem?_cons_zero]; exact rfl)); (case k1x392 => kernel_rfl); (case k2x392 => kernel_rfl); (case k3x392 => kernel_rfl); (case k4x392 => kernel_rfl); (case k5x392 => kernel_rfl); (case k6x392 => kernel_rfl); (case hSx392 => assumption); (case hYx392 => (refine Or.inl ⟨rfl, ?hyx392⟩; intro w hSw; (try dsimp only at hSw); go_simp; (try with_reducible rfl))); (case hQx392 => exact (fun _ _ _ h => h)); (try simp only [Act.put, List.setIfInBounds_toArray, List.set_cons_zero, List.set_cons_succ]))
              (refine wpAnyL_take (n := 0) (i := 4) (oi := ?ox393) (v := ?vx393) ?hix393 ?k1x393 ?k2x393 ?k3x393 ?k4x393 ?k5x393 ?k6x393 ?hQx393 ?hYx393 ?hSx393 ?restx393; (case hix393 => (simp only [List.getElem?_toArray, List.getElem?_cons_succ, List.getElem?_cons_zero]; exact rfl)); (case k1x393 => kernel_rfl); (case k2x393 => kernel_rfl); (case k3x393 => kernel_rfl); (case k4x393 => kernel_rfl); (case k5x393 => kernel_rfl); (case k6x393 => kernel_rfl); (case hSx393 => assumption); (case hYx393 => (refine Or.inl ⟨rfl, ?hyx393⟩; intro w hSw; (try dsimp only at hSw); go_simp; (try with_reducible rfl))); (case hQx393 => exact (fun _ _ _ h => h)); (try simp only [Act.put, List.setIfInBounds_toArray, List.set_cons_zero, List.set_cons_succ]))
              (refine wpAnyL_take (n := 0) (i := 5) (oi := ?ox394) (v := ?vx394) ?hix394 ?k1x394 ?k2x394 ?k3x394 ?k4x394 ?k5x394 ?k6x394 ?hQx394 ?hYx394 ?hSx394 ?restx394; (case hix394 => (simp only [List.getElem?_toArray, List.getElem?_cons_succ, List.getElem?_cons_zero]; exact rfl)); (case k1x394 => kernel_rfl); (case k2x394 => kernel_rfl); (case k3x394 => kernel_rfl); (case k4x394 => kernel_rfl); (case k5x394 => kernel_rfl); (case k6x394 => kernel_rfl); (case hSx394 => assumption); (case hYx394 => (refine Or.inl ⟨rfl, ?hyx394⟩; intro w hSw; (try dsimp only at hSw); go_simp; (try with_reducible rfl))); (case hQx394 => exact (fun _ _ _ h => h)); (try simp only [Act.put, List.setIfInBounds_toArray, List.set_cons_zero, List.set_cons_succ]))
              (refine wpAnyL_take (n := 0) (i := 6) (oi := ?ox395) (v := ?vx395) ?hix395 ?k1x395 ?k2x395 ?k3x395 ?k4x395 ?k5x395 ?k6x395 ?hQx395 ?hYx395 ?hSx395 ?restx395; (case hix395 => (simp only [List.getElem?_toArray, List.getElem?_cons_succ, List.getElem?_cons_zero]; exact rfl)); (case k1x395 => kernel_rfl); (case k2x395 => kernel_rfl); (case k3x395 => kernel_rfl); (case k4x395 => kernel_rfl); (case k5x395 => kernel_rfl); (case k6x395 => kernel_rfl); (case hSx395 => assumption); (case hYx395 => (refine Or.inl ⟨rfl, ?hyx395⟩; intro w hSw; (try dsimp only at hSw); go_simp; (try with_reducible rfl))); (case hQx395 => exact (fun _ _ _ h => h)); (try simp only [Act.put, List.setIfInBounds_toArray, List.set_cons_zero, List.set_cons_succ]))
              (refine wpAnyL_take (n := 0) (i := 7) (oi := ?ox396) (v := ?vx396) ?hix396 ?k1x396 ?k2x396 ?k3x396 ?k4x396 ?k5x396 ?k6x396 ?hQx396 ?hYx396 ?hSx396 ?restx396; (case hix396 => (simp only [List.getElem?_toArray, List.getElem?_cons_succ, List.getElem?_cons_zero]; exact rfl)); (case k1x396 => kernel_rfl); (case k2x396 => kernel_rfl); (case k3x396 => kernel_rfl); (case k4x396 => kernel_rfl); (case k5x396 => kernel_rfl); (case k6x396 => kernel_rfl); (case hSx396 => assumption); (case hYx396 => (refine Or.inl ⟨rfl, ?hyx396⟩; intro w hSw; (try dsimp only at hSw); go_simp; (try with_reducible rfl))); (case hQx396 => exact (fun _ _ _ h => h)); (try simp only [Act.put, List.setIfInBounds_toArray, List.set_cons_zero, List.set_cons_succ]))
              (refine wpAnyL_take (n := 0) (i := 8) (oi := ?ox397) (v := ?vx397) ?hix397 ?k1x397 ?k2x397 ?k3x397 ?k4x397 ?k5x397 ?k6x397 ?hQx397 ?hYx397 ?hSx397 ?restx397; (case hix397 => (simp only [List.getElem?_toArray, List.getElem?_cons_succ, List.getElem?_cons_zero]; exact rfl)); (case k1x397 => kernel_rfl); (case k2x397 => kernel_rfl); (case k3x397 => kernel_rfl); (case k4x397 => kernel_rfl); (case k5x397 => kernel_rfl); (case k6x397 => kernel_rfl); (case hSx397 => assumption); (case hYx397 => (refine Or.inl ⟨rfl, ?hyx397⟩; intro w hSw; (try dsimp only at hSw); go_simp; (try with_reducible rfl))); (case hQx397 => exact (fun _ _ _ h => h)); (try simp only [Act.put, List.setIfInBounds_toArray, List.set_cons_zero, List.set_cons_succ]))
              (refine wpAnyL_take (n := 0) (i := 9) (oi := ?ox398) (v := ?vx398) ?hix398 ?k1x398 ?k2x398 ?k3x398 ?k4x398 ?k5x398 ?k6x398 ?hQx398 ?hYx398 ?hSx398 ?restx398; (case hix398 => (simp only [List.getElem?_toArray, List.getElem?_cons_succ, List.getElem?_cons_zero]; exact rfl)); (case k1x398 => kernel_rfl); (case k2x398 => kernel_rfl); (case k3x398 => kernel_rfl); (case k4x398 => kernel_rfl); (case k5x398 => kernel_rfl); (case k6x398 => kernel_rfl); (case hSx398 => assumption); (case hYx398 => (refine Or.inl ⟨rfl, ?hyx398⟩; intro w hSw; (try dsimp only at hSw); go_simp; (try with_reducible rfl))); (case hQx398 => exact (fun _ _ _ h => h)); (try simp only [Act.put, List.setIfInBounds_toArray, List.set_cons_zero, List.set_cons_succ]))
              (refine wpAnyL_take (n := 0) (i := 10) (oi := ?ox399) (v := ?vx399) ?hix399 ?k1x399 ?k2x399 ?k3x399 ?k4x399 ?k5x399 ?k6x399 ?hQx399 ?hYx399 ?hSx399 ?restx399; (case hix399 => (simp only [List.getElem?_toArray, List.getElem?_cons_succ, List.getElem?_cons_zero]; exact rfl)); (case k1x399 => kernel_rfl); (case k2x399 => kernel_rfl); (case k3x399 => kernel_rfl); (case k4x399 => kernel_rfl); (case k5x399 => kernel_rfl); (case k6x399 => kernel_rfl); (case hSx399 => assumption); (case hYx399 => (refine Or.inl ⟨rfl, ?hyx399⟩; intro w hSw; (try dsimp only at hSw); go_simp; (try with_reducible rfl))); (case hQx399 => exact (fun _ _ _ h => h)); (try simp only [Act.put, List.setIfInBounds_toArray, List.set_cons_zero, List.set_cons_succ]))
              (refine wpAnyL_take (n := 0) (i := 11) (oi := ?ox400) (v := ?vx400) ?hix400 ?k1x400 ?k2x400 ?k3x400 ?k4x400 ?k5x400 ?k6x400 ?hQx400 ?hYx400 ?hSx400 ?restx400; (case hix400 => (simp only [List.getElem?_toArray, List.getElem?_cons_succ, List.getElem?_cons_zero]; exact rfl)); (case k1x400 => kernel_rfl); (case k2x400 => kernel_rfl); (case k3x400 => kernel_rfl); (case k4x400 => kernel_rfl); (case k5x400 => kernel_rfl); (case k6x400 => kernel_rfl); (case hSx400 => assumption); (case hYx400 => (refine Or.inl ⟨rfl, ?hyx400⟩; intro w hSw; (try dsimp only at hSw); go_simp; (try with_reducible rfl))); (case hQx400 => exact (fun _ _ _ h => h)); (try simp only [Act.put, List.setIfInBounds_toArray, List.set_cons_zero, List.set_cons_succ]))
              (refine wpAnyL_take (n := 0) (i := 12) (oi := ?ox401) (v := ?vx401) ?hix401 ?k1x401 ?k2x401 ?k3x401 ?k4x401 ?k5x401 ?k6x401 ?hQx401 ?hYx401 ?hSx401 ?restx401; (case hix401 => (simp only [List.getElem?_toArray, List.getElem?_cons_succ, List.getElem?_cons_zero]; exact rfl)); (case k1x401 => kernel_rfl); (case k2x401 => kernel_rfl); (case k3x401 => kernel_rfl); (case k4x401 => kernel_rfl); (case k5x401 => kernel_rfl); (case k6x401 => kernel_rfl); (case hSx401 => assumption); (case hYx401 => (refine Or.inl ⟨rfl, ?hyx401⟩; intro w hSw; (try dsimp only at hSw); go_simp; (try with_reducible rfl))); (case hQx401 => exact (fun _ _ _ h => h)); (try simp only [Act.put, List.setIfInBounds_toArray, List.set_cons_zero, List.set_cons_succ]))
              (refine wpAnyL_take (n := 0) (i := 13) (oi := ?ox402) (v := ?vx402) ?hix402 ?k1x402 ?k2x402 ?k3x402 ?k4x402 ?k5x402 ?k6x402 ?hQx402 ?hYx402 ?hSx402 ?restx402; (case hix402 => (simp only [List.getElem?_toArray, List.getElem?_cons_succ, List.getElem?_cons_zero]; exact rfl)); (case k1x402 => kernel_rfl); (case k2x402 => kernel_rfl); (case k3x402 => kernel_rfl); (case k4x402 => kernel_rfl); (case k5x402 => kernel_rfl); (case k6x402 => kernel_rfl); (case hSx402 => assumption); (case hYx402 => (refine Or.inl ⟨rfl, ?hyx402⟩; intro w hSw; (try dsimp only at hSw); go_simp; (try with_reducible rfl))); (case hQx402 => exact (fun _ _ _ h => h)); (try simp only [Act.put, List.setIfInBounds_toArray, List.set_cons_zero, List.set_cons_succ]))
              (refine wpAnyL_take (n := 0) (i := 14) (oi := ?ox403) (v := ?vx403) ?hix403 ?k1x403 ?k2x403 ?k3x403 ?k4x403 ?k5x403 ?k6x403 ?hQx403 ?hYx403 ?hSx403 ?restx403; (case hix403 => (simp only [List.getElem?_toArray, List.getElem?_cons_succ, List.getElem?_cons_zero]; exact rfl)); (case k1x403 => kernel_rfl); (case k2x403 => kernel_rfl); (case k3x403 => kernel_rfl); (case k4x403 => kernel_rfl); (case k5x403 => kernel_rfl); (case k6x403 => kernel_rfl); (case hSx403 => assumption); (case hYx403 => (refine Or.inl ⟨rfl, ?hyx403⟩; intro w hSw; (try dsimp only at hSw); go_simp; (try with_reducible rfl))); (case hQx403 => exact (fun _ _ _ h => h)); (try simp only [Act.put, List.setIfInBounds_toArray, List.set_cons_zero, List.set_cons_succ]))
              (refine wpAnyL_take (n := 0) (i := 15) (oi := ?ox404) (v := ?vx404) ?hix404 ?k1x404 ?k2x404 ?k3x404 ?k4x404 ?k5x404 ?k6x404 ?hQx404 ?hYx404 ?hSx404 ?restx404; (case hix404 => (simp only [List.getElem?_toArray, List.getElem?_cons_succ, List.getElem?_cons_zero]; exact rfl)); (case k1x404 => kernel_rfl); (case k2x404 => kernel_rfl); (case k3x404 => kernel_rfl); (case k4x404 => kernel_rfl); (case k5x404 => kernel_rfl); (case k6x404 => kernel_rfl); (case hSx404 => assumption); (case hYx404 => (refine Or.inl ⟨rfl, ?hyx404⟩; intro w hSw; (try dsimp only at hSw); go_simp; (try with_reducible rfl))); (case hQx404 => exact (fun _ _ _ h => h)); (try simp only [Act.put, List.setIfInBounds_toArray, List.set_cons_zero, List.set_cons_succ]))
              (refine wpAnyL_take (n := 0) (i := 16) (oi := ?ox405) (v := ?vx405) ?hix405 ?k1x405 ?k2x405 ?k3x405 ?k4x405 ?k5x405 ?k6x405 ?hQx405 ?hYx405 ?hSx405 ?restx405; (case hix405 => (simp only [List.getElem?_toArray, List.getElem?_cons_succ, List.getElem?_cons_zero]; exact rfl)); (case k1x405 => kernel_rfl); (case k2x405 => kernel_rfl); (case k3x405 => kernel_rfl); (case k4x405 => kernel_rfl); (case k5x405 => kernel_rfl); (case k6x405 => kernel_rfl); (case hSx405 => assumption); (case hYx405 => (refine Or.inl ⟨rfl, ?hyx405⟩; intro w hSw; (try dsimp only at hSw); go_simp; (try with_reducible rfl))); (case hQx405 => exact (fun _ _ _ h => h)); (try simp only [Act.put, List.setIfInBounds_toArray, List.set_cons_zero, List.set_cons_succ]))
              (refine wpAnyL_take (n := 0) (i := 17) (oi := ?ox406) (v := ?vx406) ?hix406 ?k1x406 ?k2x406 ?k3x406 ?k4x406 ?k5x406 ?k6x406 ?hQx406 ?hYx406 ?hSx406 ?restx406; (case hix406 => (simp only [List.getElem?_toArray, List.getElem?_cons_succ, List.getElem?_cons_zero]; exact rfl)); (case k1x406 => kernel_rfl); (case k2x406 => kernel_rfl); (case k3x406 => kernel_rfl); (case k4x406 => kernel_rfl); (case k5x406 => kernel_rfl); (case k6x406 => kernel_rfl); (case hSx406 => assumption); (case hYx406 => (refine Or.inl ⟨rfl, ?hyx406⟩; intro w hSw; (try dsimp only at hSw); go_simp; (try with_reducible rfl))); (case hQx406 => exact (fun _ _ _ h => h)); (try simp only [Act.put, List.setIfInBounds_toArray, List.set_cons_zero, List.set_cons_succ]))
              refine wpAnyL_ready (rs := [18]) (by kernel_rfl) (by simp) ?_
              refine AllReadyL.last (o := ?o18x407) ?hi18x407 ?he18x407 (fun K hK => ?_) AllReadyL.nil
              (case hi18x407 => (simp only [List.getElem?_toArray, List.getElem?_cons_succ, List.getElem?_cons_zero]; exact rfl))
              (case he18x407 => kernel_rfl)
              have fz := HT2.out.oF.frozenAt h
              have vz := (HS25.out _ HB7.out).2.2.2.2
              go_simp
              (try clear hHeld)
              refine hK.out _ _ ?_
              clear hK K
              (try simp only [Act.put, List.setIfInBounds_toArray, List.set_cons_zero, List.set_cons_succ])
              (refine wpAnyL_done (by kernel_rfl) ?_ _)
              clear m1 m2 fz vz
              rw [← HI2.out]
              have hg9 : W.heap.size ≤ gf := by have := HGW.out; omega
              have hg8 : W.heap.size ≤ gs := by have := HGW.out; omega
              have hbr6 := HBR2.out.setCell (p := ⟨gf, h, none⟩) hg9 (.int .i64 i)
              have ht6 := HT2.out.setF h i
              simp only at ht6
              clear HBR2 HT2 HB6 HB7 HT HS25 HS16 HS10
              revert hbr6 ht6
              generalize (World.setCell w0 ⟨gf, h, none⟩ (.int .i64 i)) = W6
              intro hbr6 ht6
              have hFl : (F.set h i).length = nI := by have := HP4.out.n; have := HIL.out; omega
              have hSl : S.length = nI := by have := HP4.out.m; have := HIL.out; simp only [List.length_set] at *; omega
              have hfv : (F.set h i)[h]? = some i := List.getElem?_set_self (by simp only [List.length_set] at hFl; omega)
              obtain ⟨sv, hsv⟩ : ∃ sv, S[h]? = some sv := ⟨_, List.getElem?_eq_getElem (by omega)⟩
              have v9 := ht6.oF.cellAt h (by omega)
              have v8 := ht6.oS.cellAt h (by omega)
              simp only at v9 v8
              rw [flat1_get hfv] at v9
              rw [flat1_get hsv] at v8
              have y0 := ht6.box.cell 0; have y1 := ht6.box.cell 1
              simp at y0 y1
              have HS26 := Lib.hid (fun (U : World) (hU : Below W6.heap.size W6 U) => show U.cell? ⟨g, 0, none⟩ = some (.slice (some ⟨gf, 0, none⟩) nI cF) ∧ U.cell? ⟨g, 1, none⟩ = some (.slice (some ⟨gs, 0, none⟩) nI cS) ∧ U.cell? ⟨gf, h, none⟩ = some (.int .i64 i) ∧ U.cell? ⟨gs, h, none⟩ = some (.int .i64 sv) from
                ⟨bel_keep hU y0, bel_keep hU y1, bel_keep hU v9, bel_keep hU v8⟩)
              have HT6 := Lib.hid ht6; have HB7 := Lib.hid (Below.refl W6.heap.size W6); have HB8 := Lib.hid hbr6
              clear ht6 hbr6 hfv hsv v9 v8 y0 y1 hFl hSl
              have m1 : IntKind.i64.wrap (i - n) = i - n := wi (by omega)
              have m2 : IntKind.i64.wrap (i - n - O) = i - n - O := wi (by omega)
              go_upto_region 26 with fail
              refine wp_region_till [13] (fun U => U.cell? ⟨g, 0, none⟩ = some (.slice (some ⟨gf, 0, none⟩) nI cF) ∧ U.cell? ⟨g, 1, none⟩ = some (.slice (some ⟨gs, 0, none⟩) nI cS) ∧ U.cell? ⟨gf, h, none⟩ = some (.int .i64 i) ∧ U.cell? ⟨gs, h, none⟩ = some (.int .i64 sv)) (by kernel_rfl) (by exact HS26.out _ HB7.out.drew) (fun hHeld => ?_)
              have hb9 := (Below.refl W6.heap.size W6).drew
              have t0 := below_tr HB7.out hb9; have t1 := below_tr HB8.out hb9; have t2 := HT6.out.below hb9
              clear HB7 HB8 HT6
              have HB7 := Lib.hid t0; have HB8 := Lib.hid t1; have HT6 := Lib.hid t2
              clear t0 t1 t2
              clear hb9
              revert hHeld HB7 HB8 HT6
              generalize W6.drew = w0
              intro hHeld HB7 HB8 HT6
              (refine wpAnyL_take (n := 0) (i := 0) (oi := ?ox408) (v := ?vx408) ?hix408 ?k1x408 ?k2x408 ?k3x408 ?k4x408 ?k5x408 ?k6x408 ?hQx408 ?hYx408 ?hSx408 ?restx408; (case hix408 => (simp only [List.getElem?_toArray, List.getElem?_cons_succ, List.getElem?_cons_zero]; exact rfl)); (case k1x408 => kernel_rfl); (case k2x408 => kernel_rfl); (case k3x408 => kernel_rfl); (case k4x408 => kernel_rfl); (case k5x408 => kernel_rfl); (case k6x408 => kernel_rfl); (case hSx408 => assumption); (case hYx408 => (refine Or.inl ⟨rfl, ?hyx408⟩; intro w hSw; (try dsimp only at hSw); go_simp; (try with_reducible rfl))); (case hQx408 => exact (fun _ _ _ h => h)); (try simp only [Act.put, List.setIfInBounds_toArray, List.set_cons_zero, List.set_cons_succ]))
              (refine wpAnyL_take (n := 0) (i := 1) (oi := ?ox409) (v := ?vx409) ?hix409 ?k1x409 ?k2x409 ?k3x409 ?k4x409 ?k5x409 ?k6x409 ?hQx409 ?hYx409 ?hSx409 ?restx409; (case hix409 => (simp only [List.getElem?_toArray, List.getElem?_cons_succ, List.getElem?_cons_zero]; exact rfl)); (case k1x409 => kernel_rfl); (case k2x409 => kernel_rfl); (case k3x409 => kernel_rfl); (case k4x409 => kernel_rfl); (case k5x409 => kernel_rfl); (case k6x409 => kernel_rfl); (case hSx409 => assumption); (case hYx409 => (refine Or.inl ⟨rfl, ?hyx409⟩; intro w hSw; (try dsimp only at hSw); go_simp; (try with_reducible rfl))); (case hQx409 => exact (fun _ _ _ h => h)); (try simp only [Act.put, List.setIfInBounds_toArray, List.set_cons_zero, List.set_cons_succ]))
              (refine wpAnyL_take (n := 0) (i := 2) (oi := ?ox410) (v := ?vx410) ?hix410 ?k1x410 ?k2x410 ?k3x410 ?k4x410 ?k5x410 ?k6x410 ?hQx410 ?hYx410 ?hSx410 ?restx410; (case hix410 => (simp only [List.getElem?_toArray, List.getElem?_cons_succ, List.getElem?_cons_zero]; exact rfl)); (case k1x410 => kernel_rfl); (case k2x410 => kernel_rfl); (case k3x410 => kernel_rfl); (case k4x410 => kernel_rfl); (case k5x410 => kernel_rfl); (case k6x410 => kernel_rfl); (case hSx410 => assumption); (case hYx410 => (refine Or.inl ⟨rfl, ?hyx410⟩; intro w hSw; (try dsimp only at hSw); go_simp; (try with_reducible rfl))); (case hQx410 => exact (fun _ _ _ h => h)); (try simp only [Act.put, List.setIfInBounds_toArray, List.set_cons_zero, List.set_cons_succ]))
              (refine wpAnyL_take (n := 0) (i := 3) (oi := ?ox411) (v := ?vx411) ?hix411 ?k1x411 ?k2x411 ?k3x411 ?k4x411 ?k5x411 ?k6x411 ?hQx411 ?hYx411 ?hSx411 ?restx411; (case hix411 => (simp only [List.getElem?_toArray, List.getElem?_cons_succ, List.getElem?_cons_zero]; exact rfl)); (case k1x411 => kernel_rfl); (case k2x411 => kernel_rfl); (case k3x411 => kernel_rfl); (case k4x411 => kernel_rfl); (case k5x411 => kernel_rfl); (case k6x411 => kernel_rfl); (case hSx411 => assumption); (case hYx411 => (refine Or.inl ⟨rfl, ?hyx411⟩; intro w hSw; (try dsimp only at hSw); go_simp; (try with_reducible rfl))); (case hQx411 => exact (fun _ _ _ h => h)); (try simp only [Act.put, List.setIfInBounds_toArray, List.set_cons_zero, List.set_cons_succ]))
              (refine wpAnyL_take (n := 0) (i := 4) (oi := ?ox412) (v := ?vx412) ?hix412 ?k1x412 ?k2x412 ?k3x412 ?k4x412 ?k5x412 ?k6x412 ?hQx412 ?hYx412 ?hSx412 ?restx412; (case hix412 => (simp only [List.getElem?_toArray, List.getElem?_cons_succ, List.getElem?_cons_zero]; exact rfl)); (case k1x412 => kernel_rfl); (case k2x412 => kernel_rfl); (case k3x412 => kernel_rfl); (case k4x412 => kernel_rfl); (case k5x412 => kernel_rfl); (case k6x412 => kernel_rfl); (case hSx412 => assumption); (case hYx412 => (refine Or.inl ⟨rfl, ?hyx412⟩; intro w hSw; (try dsimp only at hSw); go_simp; (try with_reducible rfl))); (case hQx412 => exact (fun _ _ _ h => h)); (try simp only [Act.put, List.setIfInBounds_toArray, List.set_cons_zero, List.set_cons_succ]))
              (refine wpAnyL_take (n := 0) (i := 5) (oi := ?ox413) (v := ?vx413) ?hix413 ?k1x413 ?k2x413 ?k3x413 ?k4x413 ?k5x413 ?k6x413 ?hQx413 ?hYx413 ?hSx413 ?restx413; (case hix413 => (simp only [List.getElem?_toArray, List.getElem?_cons_succ, List.getElem?_cons_zero]; exact rfl)); (case k1x413 => kernel_rfl); (case k2x413 => kernel_rfl); (case k3x413 => kernel_rfl); (case k4x413 => kernel_rfl); (case k5x413 => kernel_rfl); (case k6x413 => kernel_rfl); (case hSx413 => assumption); (case hYx413 => (refine Or.inl ⟨rfl, ?hyx413⟩; intro w hSw; (try dsimp only at hSw); go_simp; (try with_reducible rfl))); (case hQx413 => exact (fun _ _ _ h => h)); (try simp only [Act.put, List.setIfInBounds_toArray, List.set_cons_zero, List.set_cons_succ]))
              (refine wpAnyL_take (n := 0) (i := 6) (oi := ?ox414) (v := ?vx414) ?hix414 ?k1x414 ?k2x414 ?k3x414 ?k4x414 ?k5x414 ?k6x414 ?hQx414 ?hYx414 ?hSx414 ?restx414; (case hix414 => (simp only [List.getElem?_toArray, List.getElem?_cons_succ, List.getElem?_cons_zero]; exact rfl)); (case k1x414 => kernel_rfl); (case k2x414 => kernel_rfl); (case k3x414 => kernel_rfl); (case k4x414 => kernel_rfl); (case k5x414 => kernel_rfl); (case k6x414 => kernel_rfl); (case hSx414 => assumption); (case hYx414 => (refine Or.inl ⟨rfl, ?hyx414⟩; intro w hSw; (try dsimp only at hSw); go_simp; (try with_reducible rfl))); (case hQx414 => exact (fun _ _ _ h => h)); (try simp only [Act.put, List.setIfInBounds_toArray, List.set_cons_zero, List.set_cons_succ]))
              (refine wpAnyL_take (n := 0) (i := 7) (oi := ?ox415) (v := ?vx415) ?hix415 ?k1x415 ?k2x415 ?k3x415 ?k4x415 ?k5x415 ?k6x415 ?hQx415 ?hYx415 ?hSx415 ?restx415; (case hix415 => (simp only [List.getElem?_toArray, List.getElem?_cons_succ, List.getElem?_cons_zero]; exact rfl)); (case k1x415 => kernel_rfl); (case k2x415 => kernel_rfl); (case k3x415 => kernel_rfl); (case k4x415 => kernel_rfl); (case k5x415 => kernel_rfl); (case k6x415 => kernel_rfl); (case hSx415 => assumption); (case hYx415 => (refine Or.inl ⟨rfl, ?hyx415⟩; intro w hSw; (try dsimp only at hSw); go_simp; (try with_reducible rfl))); (case hQx415 => exact (fun _ _ _ h => h)); (try simp only [Act.put, List.setIfInBounds_toArray, List.set_cons_zero, List.set_cons_succ]))
              (refine wpAnyL_take (n := 0) (i := 8) (oi := ?ox416) (v := ?vx416) ?hix416 ?k1x416 ?k2x416 ?k3x416 ?k4x416 ?k5x416 ?k6x416 ?hQx416 ?hYx416 ?hSx416 ?restx416; (case hix416 => (simp only [List.getElem?_toArray, List.getElem?_cons_succ, List.getElem?_cons_zero]; exact rfl)); (case k1x416 => kernel_rfl); (case k2x416 => kernel_rfl); (case k3x416 => kernel_rfl); (case k4x416 => kernel_rfl); (case k5x416 => kernel_rfl); (case k6x416 => kernel_rfl); (case hSx416 => assumption); (case hYx416 => (refine Or.inl ⟨rfl, ?hyx416⟩; intro w hSw; (try dsimp only at hSw); go_simp; (try with_reducible rfl))); (case hQx416 => exact (fun _ _ _ h => h)); (try simp only [Act.put, List.setIfInBounds_toArray, List.set_cons_zero, List.set_cons_succ]))
              (refine wpAnyL_take (n := 0) (i := 9) (oi := ?ox417) (v := ?vx417) ?hix417 ?k1x417 ?k2x417 ?k3x417 ?k4x417 ?k5x417 ?k6x417 ?hQx417 ?hYx417 ?hSx417 ?restx417; (case hix417 => (simp only [List.getElem?_toArray, List.getElem?_cons_succ, List.getElem?_cons_zero]; exact rfl)); (case k1x417 => kernel_rfl); (case k2x417 => kernel_rfl); (case k3x417 => kernel_rfl); (case k4x417 => kernel_rfl); (case k5x417 => kernel_rfl); (case k6x417 => kernel_rfl); (case hSx417 => assumption); (case hYx417 => (refine Or.inl ⟨rfl, ?hyx417⟩; intro w hSw; (try dsimp only at hSw); go_simp; (try with_reducible rfl))); (case hQx417 => exact (fun _ _ _ h => h)); (try simp only [Act.put, List.setIfInBounds_toArray, List.set_cons_zero, List.set_cons_succ]))
              (refine wpAnyL_take (n := 0) (i := 10) (oi := ?ox418) (v := ?vx418) ?hix418 ?k1x418 ?k2x418 ?k3x418 ?k4x418 ?k5x418 ?k6x418 ?hQx418 ?hYx418 ?hSx418 ?restx418; (case hix418 => (simp only [List.getElem?_toArray, List.getElem?_cons_succ, List.getElem?_cons_zero]; exact rfl)); (case k1x418 => kernel_rfl); (case k2x418 => kernel_rfl); (case k3x418 => kernel_rfl); (case k4x418 => kernel_rfl); (case k5x418 => kernel_rfl); (case k6x418 => kernel_rfl); (case hSx418 => assumption); (case hYx418 => (refine Or.inl ⟨rfl, ?hyx418⟩; intro w hSw; (try dsimp only at hSw); go_simp; (try with_reducible rfl))); (case hQx418 => exact (fun _ _ _ h => h)); (try simp only [Act.put, List.setIfInBounds_toArray, List.set_cons_zero, List.set_cons_succ]))
              (refine wpAnyL_take (n := 0) (i := 11) (oi := ?ox419) (v := ?vx419) ?hix419 ?k1x419 ?k2x419 ?k3x419 ?k4x419 ?k5x419 ?k6x419 ?hQx419 ?hYx419 ?hSx419 ?restx419; (case hix419 => (simp only [List.getElem?_toArray, List.getElem?_cons_succ, List.getElem?_cons_zero]; exact rfl)); (case k1x419 => kernel_rfl); (case k2x419 => kernel_rfl); (case k3x419 => kernel_rfl); (case k4x419 => kernel_rfl); (case k5x419 => kernel_rfl); (case k6x419 => kernel_rfl); (case hSx419 => assumption); (case hYx419 => (refine Or.inl ⟨rfl, ?hyx419⟩; intro w hSw; (try dsimp only at hSw); go_simp; (try with_reducible rfl))); (case hQx419 => exact (fun _ _ _ h => h)); (try simp only [Act.put, List.setIfInBounds_toArray, List.set_cons_zero, List.set_cons_succ]))
              (refine wpAnyL_take (n := 0) (i := 12) (oi := ?ox420) (v := ?vx420) ?hix420 ?k1x420 ?k2x420 ?k3x420 ?k4x420 ?k5x420 ?k6x420 ?hQx420 ?hYx420 ?hSx420 ?restx420; (case hix420 => (simp only [List.getElem?_toArray, List.getElem?_cons_succ, List.getElem?_cons_zero]; exact rfl)); (case k1x420 => kernel_rfl); (case k2x420 => kernel_rfl); (case k3x420 => kernel_rfl); (case k4x420 => kernel_rfl); (case k5x420 => kernel_rfl); (case k6x420 => kernel_rfl); (case hSx420 => assumption); (case hYx420 => (refine Or.inl ⟨rfl, ?hyx420⟩; intro w hSw; (try dsimp only at hSw); go_simp; (try with_reducible rfl))); (case hQx420 => exact (fun _ _ _ h => h)); (try simp only [Act.put, List.setIfInBounds_toArray, List.set_cons_zero, List.set_cons_succ]))
              refine wpAnyL_ready (rs := [13]) (by kernel_rfl) (by simp) ?_
              refine AllReadyL.last (o := ?o13x421) ?hi13x421 ?he13x421 (fun K hK => ?_) AllReadyL.nil
              (case hi13x421 => (simp only [List.getElem?_toArray, List.getElem?_cons_succ, List.getElem?_cons_zero]; exact rfl))
              (case he13x421 => kernel_rfl)
              have fz := HT6.out.oS.frozenAt h
              have vz := (HS26.out _ HB7.out).2.2.2
              go_simp
              (try clear hHeld)
              refine hK.out _ _ ?_
              clear hK K
              (try simp only [Act.put, List.setIfInBounds_toArray, List.set_cons_zero, List.set_cons_succ])
              (refine wpAnyL_done (by kernel_rfl) ?_ _)
              clear m1 m2 fz vz
              rw [← HSP.out]
              have HB9 := Lib.hid (HB8.out.setCell (p := ⟨gs, h, none⟩) hg8 (.int .i64 sp))
              have HT9 := Lib.hid (HT6.out.setS h sp)
              clear HB7 HB8 HT6 HS26
              revert HB9 HT9
              generalize (World.setCell w0 ⟨gs, h, none⟩ (.int .i64 sp)) = W9
              intro HB9 HT9
              go_wp2_with fail
              go_roundw
              case rel => exact ⟨h, F.set h i, S.set h sp, bb, by have := HJ.out; omega, rfl, rfl, HT9.out, HP4.out, HB9.out⟩
              case measure => simp [intOf] <;> omega
end
end Go.Proofs.Ytpijmfbpdglchaa
