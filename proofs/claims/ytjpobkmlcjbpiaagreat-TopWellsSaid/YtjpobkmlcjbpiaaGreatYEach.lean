/- CONTRACTS of the closures of water.Learn (written by wip/mkyeach.py). -/
import Derived.Test.YtjpobkmlcjbpiaaGreatYRun
import Derived.Test.YtjpobkmlcjbpiaaGreatYRead
set_option linter.unusedVariables false
set_option linter.unusedSimpArgs false
namespace Go.Proofs.YtjpobkmlcjbpiaaGreat
open Go.RowKit Go.Proofs Go.WideMaps
attribute [local go_sem ↓] Go.wp_at_zero Go.wp_at_succ

theorem below_setB {B : Nat} {w W : World} (h : Below B w W) {b : Nat} (hb : B ≤ b) (o : Obj) : Below B w (ChangeMaps.setBlock W b o) := below_put h hb o
/-- what Learn's closures share, as it lies in memory -/
structure LearnM (E : WE) (tso0 : Int) (snow left : Int) (lv : Nat → Int) (W1 Br Bm M : Nat) (ps : List ((Int × Int) × (Int × Int))) (W : World) : Prop where
  br : Blk W Br 116 #[.func (.func 44) #[.pointer (some ⟨W1, 0, none⟩)] #[]]
  bm : Blk W Bm 122 #[.map (some M)]
  m : IsM W M ps
  way : Blk W W1 87 (wayC E.CS E.sn0 E.sn1 E.so0 E.so1 E.melt E.DS E.tsn tso0 E.LV E.RN lv snow left)
  rds : E.Rds W
  lvs : Rd enc1 1 W E.LV.A E.LV.n E.L0
theorem LearnM.below {E : WE} {tso0 snow left : Int} {lv : Nat → Int} {W1 Br Bm M : Nat} {ps : List ((Int × Int) × (Int × Int))} {W W' : World} (h : LearnM E tso0 snow left lv W1 Br Bm M ps W) (hb : Below W.heap.size W W') : LearnM E tso0 snow left lv W1 Br Bm M ps W' :=
  ⟨h.br.below hb h.br.lt, h.bm.below hb h.bm.lt, h.m.below hb, h.way.below hb h.way.lt, h.rds.below hb, h.lvs.below hb⟩
/-- a soak in place of another -/
def WE.soak (E : WE) (n : Int) : WE := { E with tso := n }
/-- spots that there are -/
def PsIn (E : WE) (ps : List ((Int × Int) × (Int × Int))) : Prop := ∀ p ∈ ps, (0 ≤ p.1.1 ∧ p.1.1 < E.CS.n) ∧ 0 ≤ p.1.2 ∧ p.1.2 < E.DS.n

/-- what lies in a block -/
def DefM (D : Nat) (o : Obj) (W : World) : Prop := W.heap[D]? = some o
theorem DefM.below {D : Nat} {o : Obj} {W W' : World} (h : DefM D o W) (hb : Below W.heap.size W W') : DefM D o W' := (hb.block D (Array.getElem?_eq_some_iff.1 h).1).trans h

theorem right3_c (v lo hi : Int) (w : World) : Calls Tryz.prog 49 #[.int .i64 v, .agg #[.int .i64 lo, .int .i64 hi]] w fun e w' => e = .returned (.bool (decide (lo ≤ v))) ∧ Below w.heap.size w w' := by
  have hal := (Below.refl w.heap.size w).alloc (Nat.le_refl _) (.cells #[.int .i64 lo, .int .i64 hi] 44)
  have hx := Blk.new w 44 #[.int .i64 lo, .int .i64 hi]
  have x0 := hx.cell 0; have x1 := hx.cell 1
  simp at x0 x1
  have HB := Lib.hid hal
  clear hal hx
  go_enter Tryz.func49, Tryz.ntmps49
  go_wp2_with fail
  go_ret
  exact ⟨by simp, HB.out⟩
def rel3 (v : Int) (r : Int × Int) : Prop := r.1 ≤ v
set_option linter.unusedSimpArgs false in
set_option maxRecDepth 100000 in
set_option maxHeartbeats 4000000 in
theorem each3_c {E : WE} {n tso0 snow left : Int} {lv : Nat → Int} {W1 Br Bm M : Nat} {ps : List ((Int × Int) × (Int × Int))} {W : World} (hok : (E.soak n).Ok) (hd1 : 1 ≤ E.DS.n) (hl8 : E.LV.n ≤ 8) (hm : LearnM E tso0 snow left lv W1 Br Bm M ps W) (hps : PsIn E ps) :
    Calls Tryz.prog 46 #[.int .i64 n, .func (.func 49) #[] #[], .pointer (some ⟨Br, 0, none⟩), .pointer (some ⟨Bm, 0, none⟩)] W fun e w' => ∃ b, e = .returned (.bool b) ∧ ((∀ p ∈ ps, rel3 (lvA ((E.soak n).st (p.1.2.toNat + 1)).lv p.1.1.toNat) p.2) → b = true) ∧ Below W.heap.size W w' := by
  have hrun := run_c (E := E.soak n) hok (tso0 := tso0) (snow := snow) (left := left) (lv := lv) (W1 := W1) (w := W) hd1 hm.way ⟨hm.rds.c, hm.rds.d, hm.rds.r⟩ hm.lvs hl8
  have HRUN := Lib.hid (show Calls Tryz.prog 44 #[.pointer (some ⟨W1, 0, none⟩), .int .i64 n] W _ from hrun)
  have r0 := hm.br.cell 0
  simp at r0
  have HM := Lib.hid hm; have HOK := Lib.hid hok; have HPS := Lib.hid hps
  clear hrun hm hok hps
  go_enter Tryz.func46, Tryz.ntmps46
  go_wp2_with fail
  go_at_call 44
  refine (HRUN.out).mono ?_
  rintro e w2 ⟨A, c, rs, rfl, hlev, hb2⟩
  have hm2 := HM.out.below hb2
  have r1 := hm2.bm.cell 0
  simp at r1
  have hrg := run_range_map (P := Tryz.prog) w2 122 126 44 M (ents ps) ps.length Tryz.underlying122 hm2.m
  have HM2 := Lib.hid hm2; have HLEV := Lib.hid hlev; have HB2 := Lib.hid hb2
  clear hb2 hm2 hlev HM HRUN r0
  go_wp2_with fail
  clear hrg r1
  go_loopw [8, 9] (fun _ _ wr => ∃ (seen : Array Nat) (c0 : Nat), wr.heap[w2.heap.size]? = some (.mapIter (some M) ps.length seen c0) ∧ ps.length ≤ c0 ∧ Below w2.heap.size w2 wr) (fun _ _ wr => (leftOf (ents ps) (wr.iterSeen w2.heap.size)).size)
  case atStart => exact ⟨#[], ps.length, heap_alloc_new w2 _, Nat.le_refl _, (Below.refl _ _).alloc (Nat.le_refl _) _⟩
  case round =>
    obtain ⟨seen, c0, hit, hc0, hb⟩ := hrel
    have hm := HM2.out.m.below hb
    rcases run_next_at (P := Tryz.prog) wr 0 w2.heap.size M ps.length c0 seen (ents ps) ps.length hit hm (ents_hold ps) hc0 with ⟨h0, hrun⟩ | ⟨en, he, w1, hw1, hrun⟩
    · have HB := Lib.hid hb
      clear hit hm hb h0
      go_wp2_with fail
      go_ret
      exact ⟨true, rfl, fun _ => rfl, below_tr HB2.out HB.out⟩
    · have hb1 : Below w2.heap.size w2 w1 := by rcases hw1 with rfl | rfl <;> first | exact hb | exact hb.drew
      have hsz : w2.heap.size < w1.heap.size := by
        have := (Array.getElem?_eq_some_iff.1 hit).1
        rcases hw1 with rfl | rfl <;> exact this
      have hms : (leftOf (ents ps) (seen.push en.born)).size < (leftOf (ents ps) seen).size := left_shrinks (ents ps) seen en he
      have hsn : wr.iterSeen w2.heap.size = seen := by unfold World.iterSeen; rw [hit]
      have HMS := Lib.hid hms; have HSN := Lib.hid hsn
      have hin := (mem_left he).1
      have hit3 : (ChangeMaps.setBlock w1 w2.heap.size (.mapIter (some M) ps.length (seen.push en.born) ps.length)).heap[w2.heap.size]? = some (.mapIter (some M) ps.length (seen.push en.born) ps.length) := World.putObj_heap_same hsz
      have hb3 := below_setB hb1 (Nat.le_refl _) (.mapIter (some M) ps.length (seen.push en.born) ps.length)
      have hent := run_entry_at (P := Tryz.prog) (ChangeMaps.setBlock w1 w2.heap.size (.mapIter (some M) ps.length (seen.push en.born) ps.length)) w2.heap.size M ps.length seen (ents ps) ps.length en hit3 (HM2.out.m.below hb3) hin (ents_born ps)
      obtain ⟨p, hp, hk, hv⟩ := ents_mem hin
      rw [hk, hv] at hrun hent
      obtain ⟨⟨cl, dy⟩, lo, hi⟩ := p
      have hpin := HPS.out _ hp
      dsimp only at hpin
      obtain ⟨ci, rfl⟩ : ∃ ci : Nat, cl = (ci : Int) := ⟨cl.toNat, by omega⟩
      obtain ⟨di, rfl⟩ : ∃ di : Nat, dy = (di : Int) := ⟨dy.toNat, by omega⟩
      have hci : ci < E.CS.n := by omega
      have hdi : di < E.DS.n := by omega
      simp only [keyN, valN] at hrun hent
      have HP := Lib.hid hp; have HIT := Lib.hid hit3; have HB3 := Lib.hid hb3
      clear hit hm hb hms hsn hin hit3 hb1 hb3 hp hk hv he hc0 hsz hw1
      revert hrun hent HIT HB3
      generalize ChangeMaps.setBlock w1 w2.heap.size (.mapIter (some M) ps.length (seen.push en.born) ps.length) = w3
      intro hrun hent HIT HB3
      have hlev3 := HLEV.out.below HB3.out
      have hln := hlev3.rd.len
      obtain ⟨row, hrow⟩ : ∃ row, rs[di]? = some row := ⟨_, List.getElem?_eq_getElem (by rw [hln]; exact hdi)⟩
      obtain ⟨hrn, hrl, hrr⟩ := hlev3.rows di row hrow
      obtain ⟨lb, lz, rfl, hlb, hlc⟩ := hlev3.rd.2 (show 0 < E.DS.n by omega)
      have hcell := hlc di row hrow 0 _ rfl
      have hci2 : ci < row.n := by rw [hrn]; exact hci
      obtain ⟨rb, ro, v, hrA, hrb, hrv, hvc⟩ := hrr.at1 hci2
      have hvl : v = lvA ((E.soak n).st (di + 1)).lv ci := by unfold lvA; rw [← hrl, List.getD_eq_getElem?_getD, hrv]; rfl
      rw [hrA] at hcell
      have hrn' : row.n = E.CS.n := hrn
      rw [hrn'] at hcell
      simp only [Nat.mul_one, Nat.add_zero] at hcell
      have HVL := Lib.hid hvl
      have i1 : (0 : Int) ≤ (di : Int) := by omega
      have i2 : (di : Int) < (E.DS.n : Int) := by omega
      have i5 : (di : Int) < ((E.soak n).DS.n : Int) := i2
      have i6 : di < (E.soak n).DS.n := hdi
      have i3 : (0 : Int) ≤ (ci : Int) := by omega
      have i4 : (ci : Int) < (E.CS.n : Int) := by omega
      have hal := ((Below.refl w3.heap.size w3).alloc (Nat.le_refl _) (.cells #[.int .i64 (ci : Int), .int .i64 (di : Int)] 126)).alloc (by simp) (.cells #[.int .i64 lo, .int .i64 hi] 44)
      have z1 := (hal.cell (p := ⟨lb, lz + di, none⟩) hlb).trans hcell
      have z2 := (hal.cell (p := ⟨rb, ro + ci, none⟩) hrb).trans hvc
      have hs1 := (Blk.new w3 126 #[.int .i64 (ci : Int), .int .i64 (di : Int)]).alloc (.cells #[.int .i64 lo, .int .i64 hi] 44)
      have hs2 := Blk.new (w3.alloc (.cells #[.int .i64 (ci : Int), .int .i64 (di : Int)] 126)) 44 #[.int .i64 lo, .int .i64 hi]
      simp only [World.size_alloc] at hs2
      have q0 : ((w3.alloc (.cells #[.int .i64 (ci : Int), .int .i64 (di : Int)] 126)).alloc (.cells #[.int .i64 lo, .int .i64 hi] 44)).cell? ⟨w3.heap.size, 0, none⟩ = some (.int .i64 (ci : Int)) := hs1.cell 0
      have q1 : ((w3.alloc (.cells #[.int .i64 (ci : Int), .int .i64 (di : Int)] 126)).alloc (.cells #[.int .i64 lo, .int .i64 hi] 44)).cell? ⟨w3.heap.size, 1, none⟩ = some (.int .i64 (di : Int)) := hs1.cell 1
      have q2 : ((w3.alloc (.cells #[.int .i64 (ci : Int), .int .i64 (di : Int)] 126)).alloc (.cells #[.int .i64 lo, .int .i64 hi] 44)).cell? ⟨w3.heap.size + 1, 0, none⟩ = some (.int .i64 lo) := hs2.cell 0
      have q3 : ((w3.alloc (.cells #[.int .i64 (ci : Int), .int .i64 (di : Int)] 126)).alloc (.cells #[.int .i64 lo, .int .i64 hi] 44)).cell? ⟨w3.heap.size + 1, 1, none⟩ = some (.int .i64 hi) := hs2.cell 1
      have HAL := Lib.hid hal; have HRA := Lib.hid hrA
      have hits : w2.heap.size < w3.heap.size := (Array.getElem?_eq_some_iff.1 HIT.out).1
      clear hlev3 hrow hrn hrl hrr hlb hlc hcell hci2 hrb hrv hvc hvl hal hs1 hs2 hrA hrn' hln
      go_upto_region 5 with fail
      clear hrun hent
      have hit9 : ((w3.alloc (.cells #[.int .i64 (ci : Int), .int .i64 (di : Int)] 126)).alloc (.cells #[.int .i64 lo, .int .i64 hi] 44)).heap[w2.heap.size]? = some (.mapIter (some M) ps.length (seen.push en.born) ps.length) := (HAL.out.block _ hits).trans HIT.out
      have hb9 := below_tr HB3.out HAL.out
      have HI9 := Lib.hid (show DefM w2.heap.size (.mapIter (some M) ps.length (seen.push en.born) ps.length) ((w3.alloc (.cells #[.int .i64 (ci : Int), .int .i64 (di : Int)] 126)).alloc (.cells #[.int .i64 lo, .int .i64 hi] 44)) from hit9)
      have HB9 := Lib.hid hb9
      clear hit9 hb9 HIT HB3 HAL
      revert z1 z2 q0 q1 q2 q3 HI9 HB9
      generalize hg8 : w3.heap.size = B8
      generalize World.alloc (World.alloc w3 _) _ = w4
      intro z1 z2 q0 q1 q2 q3 HI9 HB9
      clear hits hg8
      by_cases hd : lo ≤ v
      · have HRC := Lib.hid (fun U => by have h := right3_c v lo hi U; rw [decide_eq_true hd] at h; exact h)
        clear hd
        refine wp_region_till [11] (fun U => U.cell? ⟨B8, 0, none⟩ = some (.int .i64 (ci : Int)) ∧ U.cell? ⟨B8, 1, none⟩ = some (.int .i64 (di : Int)) ∧ U.cell? ⟨B8 + 1, 0, none⟩ = some (.int .i64 lo) ∧ U.cell? ⟨B8 + 1, 1, none⟩ = some (.int .i64 hi) ∧ U.cell? ⟨lb, lz + di, none⟩ = some (.slice (some ⟨rb, ro, none⟩) E.CS.n row.c) ∧ U.cell? ⟨rb, ro + ci, none⟩ = some (.int .i64 v)) (by kernel_rfl) (by exact ⟨q0, q1, q2, q3, z1, z2⟩) (fun hHeld => ?_)
        have hb9 := (Below.refl w4.heap.size w4).drew
        have t0 := HI9.out.below hb9; have t1 := below_tr HB9.out hb9
        clear HI9 HB9
        have HI9 := Lib.hid t0; have HB9 := Lib.hid t1
        clear t0 t1
        clear hb9
        revert hHeld HI9 HB9
        generalize w4.drew = w0
        intro hHeld HI9 HB9
        (refine wpAnyL_take (n := 0) (i := 0) (oi := ?ox1) (v := ?vx1) ?hix1 ?k1x1 ?k2x1 ?k3x1 ?k4x1 ?k5x1 ?k6x1 ?hQx1 ?hYx1 ?hSx1 ?restx1; (case hix1 => (simp only [List.getElem?_toArray, List.getElem?_cons_succ, List.getElem?_cons_zero]; exact rfl)); (case k1x1 => kernel_rfl); (case k2x1 => kernel_rfl); (case k3x1 => kernel_rfl); (case k4x1 => kernel_rfl); (case k5x1 => kernel_rfl); (case k6x1 => kernel_rfl); (case hSx1 => assumption); (case hYx1 => (refine Or.inl ⟨rfl, ?hyx1⟩; intro w hSw; (try dsimp only at hSw); go_simp; (try with_reducible rfl))); (case hQx1 => exact (fun _ _ _ h => h)); (try simp only [Act.put, List.setIfInBounds_toArray, List.set_cons_zero, List.set_cons_succ]))
        (refine wpAnyL_take (n := 4) (i := 1) (oi := ?ox2) (v := ?vx2) ?hix2 ?k1x2 ?k2x2 ?k3x2 ?k4x2 ?k5x2 ?k6x2 ?hQx2 ?hYx2 ?hSx2 ?restx2; (case hix2 => (simp only [List.getElem?_toArray, List.getElem?_cons_succ, List.getElem?_cons_zero]; exact rfl)); (case k1x2 => kernel_rfl); (case k2x2 => kernel_rfl); (case k3x2 => kernel_rfl); (case k4x2 => kernel_rfl); (case k5x2 => kernel_rfl); (case k6x2 => kernel_rfl); (case hSx2 => assumption); (case hYx2 => (refine Or.inl ⟨rfl, ?hyx2⟩; intro w hSw; (try dsimp only at hSw); go_simp; (try with_reducible rfl))); (case hQx2 => exact (fun _ _ _ h => h)); (try simp only [Act.put, List.setIfInBounds_toArray, List.set_cons_zero, List.set_cons_succ]))
        (refine wpAnyL_take (n := 5) (i := 2) (oi := ?ox3) (v := ?vx3) ?hix3 ?k1x3 ?k2x3 ?k3x3 ?k4x3 ?k5x3 ?k6x3 ?hQx3 ?hYx3 ?hSx3 ?restx3; (case hix3 => (simp only [List.getElem?_toArray, List.getElem?_cons_succ, List.getElem?_cons_zero]; exact rfl)); (case k1x3 => kernel_rfl); (case k2x3 => kernel_rfl); (case k3x3 => kernel_rfl); (case k4x3 => kernel_rfl); (case k5x3 => kernel_rfl); (case k6x3 => kernel_rfl); (case hSx3 => assumption); (case hYx3 => (refine Or.inl ⟨rfl, ?hyx3⟩; intro w hSw; (try dsimp only at hSw); go_simp; (try with_reducible rfl))); (case hQx3 => exact (fun _ _ _ h => h)); (try simp only [Act.put, List.setIfInBounds_toArray, List.set_cons_zero, List.set_cons_succ]))
        (refine wpAnyL_take (n := 4) (i := 3) (oi := ?ox4) (v := ?vx4) ?hix4 ?k1x4 ?k2x4 ?k3x4 ?k4x4 ?k5x4 ?k6x4 ?hQx4 ?hYx4 ?hSx4 ?restx4; (case hix4 => (simp only [List.getElem?_toArray, List.getElem?_cons_succ, List.getElem?_cons_zero]; exact rfl)); (case k1x4 => kernel_rfl); (case k2x4 => kernel_rfl); (case k3x4 => kernel_rfl); (case k4x4 => kernel_rfl); (case k5x4 => kernel_rfl); (case k6x4 => kernel_rfl); (case hSx4 => assumption); (case hYx4 => (refine Or.inl ⟨rfl, ?hyx4⟩; intro w hSw; (try dsimp only at hSw); go_simp; (try with_reducible rfl))); (case hQx4 => exact (fun _ _ _ h => h)); (try simp only [Act.put, List.setIfInBounds_toArray, List.set_cons_zero, List.set_cons_succ]))
        (refine wpAnyL_take (n := 3) (i := 4) (oi := ?ox5) (v := ?vx5) ?hix5 ?k1x5 ?k2x5 ?k3x5 ?k4x5 ?k5x5 ?k6x5 ?hQx5 ?hYx5 ?hSx5 ?restx5; (case hix5 => (simp only [List.getElem?_toArray, List.getElem?_cons_succ, List.getElem?_cons_zero]; exact rfl)); (case k1x5 => kernel_rfl); (case k2x5 => kernel_rfl); (case k3x5 => kernel_rfl); (case k4x5 => kernel_rfl); (case k5x5 => kernel_rfl); (case k6x5 => kernel_rfl); (case hSx5 => assumption); (case hYx5 => (refine Or.inl ⟨rfl, ?hyx5⟩; intro w hSw; (try dsimp only at hSw); go_simp; (try with_reducible rfl))); (case hQx5 => exact (fun _ _ _ h => h)); (try simp only [Act.put, List.setIfInBounds_toArray, List.set_cons_zero, List.set_cons_succ]))
        (refine wpAnyL_take (n := 2) (i := 5) (oi := ?ox6) (v := ?vx6) ?hix6 ?k1x6 ?k2x6 ?k3x6 ?k4x6 ?k5x6 ?k6x6 ?hQx6 ?hYx6 ?hSx6 ?restx6; (case hix6 => (simp only [List.getElem?_toArray, List.getElem?_cons_succ, List.getElem?_cons_zero]; exact rfl)); (case k1x6 => kernel_rfl); (case k2x6 => kernel_rfl); (case k3x6 => kernel_rfl); (case k4x6 => kernel_rfl); (case k5x6 => kernel_rfl); (case k6x6 => kernel_rfl); (case hSx6 => assumption); (case hYx6 => (refine Or.inl ⟨rfl, ?hyx6⟩; intro w hSw; (try dsimp only at hSw); go_simp; (try with_reducible rfl))); (case hQx6 => exact (fun _ _ _ h => h)); (try simp only [Act.put, List.setIfInBounds_toArray, List.set_cons_zero, List.set_cons_succ]))
        (refine wpAnyL_take (n := 3) (i := 6) (oi := ?ox7) (v := ?vx7) ?hix7 ?k1x7 ?k2x7 ?k3x7 ?k4x7 ?k5x7 ?k6x7 ?hQx7 ?hYx7 ?hSx7 ?restx7; (case hix7 => (simp only [List.getElem?_toArray, List.getElem?_cons_succ, List.getElem?_cons_zero]; exact rfl)); (case k1x7 => kernel_rfl); (case k2x7 => kernel_rfl); (case k3x7 => kernel_rfl); (case k4x7 => kernel_rfl); (case k5x7 => kernel_rfl); (case k6x7 => kernel_rfl); (case hSx7 => assumption); (case hYx7 => (refine Or.inl ⟨rfl, ?hyx7⟩; intro w hSw; (try dsimp only at hSw); go_simp; (try with_reducible rfl))); (case hQx7 => exact (fun _ _ _ h => h)); (try simp only [Act.put, List.setIfInBounds_toArray, List.set_cons_zero, List.set_cons_succ]))
        (refine wpAnyL_take (n := 2) (i := 7) (oi := ?ox8) (v := ?vx8) ?hix8 ?k1x8 ?k2x8 ?k3x8 ?k4x8 ?k5x8 ?k6x8 ?hQx8 ?hYx8 ?hSx8 ?restx8; (case hix8 => (simp only [List.getElem?_toArray, List.getElem?_cons_succ, List.getElem?_cons_zero]; exact rfl)); (case k1x8 => kernel_rfl); (case k2x8 => kernel_rfl); (case k3x8 => kernel_rfl); (case k4x8 => kernel_rfl); (case k5x8 => kernel_rfl); (case k6x8 => kernel_rfl); (case hSx8 => assumption); (case hYx8 => (refine Or.inl ⟨rfl, ?hyx8⟩; intro w hSw; (try dsimp only at hSw); go_simp; (try with_reducible rfl))); (case hQx8 => exact (fun _ _ _ h => h)); (try simp only [Act.put, List.setIfInBounds_toArray, List.set_cons_zero, List.set_cons_succ]))
        (refine wpAnyL_take (n := 1) (i := 8) (oi := ?ox9) (v := ?vx9) ?hix9 ?k1x9 ?k2x9 ?k3x9 ?k4x9 ?k5x9 ?k6x9 ?hQx9 ?hYx9 ?hSx9 ?restx9; (case hix9 => (simp only [List.getElem?_toArray, List.getElem?_cons_succ, List.getElem?_cons_zero]; exact rfl)); (case k1x9 => kernel_rfl); (case k2x9 => kernel_rfl); (case k3x9 => kernel_rfl); (case k4x9 => kernel_rfl); (case k5x9 => kernel_rfl); (case k6x9 => kernel_rfl); (case hSx9 => assumption); (case hYx9 => (refine Or.inl ⟨rfl, ?hyx9⟩; intro w hSw; (try dsimp only at hSw); go_simp; (try with_reducible rfl))); (case hQx9 => exact (fun _ _ _ h => h)); (try simp only [Act.put, List.setIfInBounds_toArray, List.set_cons_zero, List.set_cons_succ]))
        (refine wpAnyL_take (n := 0) (i := 9) (oi := ?ox10) (v := ?vx10) ?hix10 ?k1x10 ?k2x10 ?k3x10 ?k4x10 ?k5x10 ?k6x10 ?hQx10 ?hYx10 ?hSx10 ?restx10; (case hix10 => (simp only [List.getElem?_toArray, List.getElem?_cons_succ, List.getElem?_cons_zero]; exact rfl)); (case k1x10 => kernel_rfl); (case k2x10 => kernel_rfl); (case k3x10 => kernel_rfl); (case k4x10 => kernel_rfl); (case k5x10 => kernel_rfl); (case k6x10 => kernel_rfl); (case hSx10 => assumption); (case hYx10 => (refine Or.inl ⟨rfl, ?hyx10⟩; intro w hSw; (try dsimp only at hSw); go_simp; (try with_reducible rfl))); (case hQx10 => exact (fun _ _ _ h => h)); (try simp only [Act.put, List.setIfInBounds_toArray, List.set_cons_zero, List.set_cons_succ]))
        (refine wpAnyL_take (n := 0) (i := 10) (oi := ?ox11) (v := ?vx11) ?hix11 ?k1x11 ?k2x11 ?k3x11 ?k4x11 ?k5x11 ?k6x11 ?hQx11 ?hYx11 ?hSx11 ?restx11; (case hix11 => (simp only [List.getElem?_toArray, List.getElem?_cons_succ, List.getElem?_cons_zero]; exact rfl)); (case k1x11 => kernel_rfl); (case k2x11 => kernel_rfl); (case k3x11 => kernel_rfl); (case k4x11 => kernel_rfl); (case k5x11 => kernel_rfl); (case k6x11 => kernel_rfl); (case hSx11 => assumption); (case hYx11 => (refine Or.inl ⟨rfl, ?hyx11⟩; intro w hSw; (try dsimp only at hSw); go_simp; (try with_reducible rfl))); (case hQx11 => exact (fun _ _ _ h => h)); (try simp only [Act.put, List.setIfInBounds_toArray, List.set_cons_zero, List.set_cons_succ]))
        refine wpAnyL_ready (rs := [11]) (by kernel_rfl) (by simp) ?_
        refine AllReadyL.last (o := ?o11x12) ?hi11x12 ?he11x12 (fun K hK => ?_) AllReadyL.nil
        (case hi11x12 => (simp only [List.getElem?_toArray, List.getElem?_cons_succ, List.getElem?_cons_zero]; exact rfl))
        (case he11x12 => kernel_rfl)
        go_simp
        go_at_call 49
        refine (HRC.out _).mono ?_
        rintro e w1 ⟨rfl, hb9⟩
        have t0 := HI9.out.below hb9; have t1 := below_tr HB9.out hb9
        clear HI9 HB9
        have HI9 := Lib.hid t0; have HB9 := Lib.hid t1
        clear t0 t1
        clear hb9 
        (try go_wp2_with fail)
        (try clear hHeld)
        refine hK.out _ _ ?_
        clear hK K
        (try simp only [Act.put, List.setIfInBounds_toArray, List.set_cons_zero, List.set_cons_succ])
        (refine wpAnyL_free (i := 12) (oi := ?ox13) (v := ?vx13) ?hix13 ?k1x13 ?k2x13 ?k3x13 ?k4x13 ?k5x13 ?hQx13 ?hYx13 ?restx13; (case hix13 => (simp only [List.getElem?_toArray, List.getElem?_cons_succ, List.getElem?_cons_zero]; exact rfl)); (case k1x13 => kernel_rfl); (case k2x13 => kernel_rfl); (case k3x13 => kernel_rfl); (case k4x13 => kernel_rfl); (case k5x13 => kernel_rfl); (case hYx13 => (refine Or.inl ⟨rfl, ?hyx13⟩; intro w hSw; (try dsimp only at hSw); go_simp; (try with_reducible rfl))); (case hQx13 => exact (fun _ _ _ h => h)); (try simp only [Act.put, List.setIfInBounds_toArray, List.set_cons_zero, List.set_cons_succ]))
        (refine wpAnyL_done (by kernel_rfl) ?_ _)
        go_wp2_with fail
        go_roundw
        case rel => exact ⟨_, _, HI9.out, Nat.le_refl _, HB9.out⟩
        case measure =>
          have e1 : w1.iterSeen w2.heap.size = seen.push en.born := by unfold World.iterSeen; rw [show w1.heap[w2.heap.size]? = _ from HI9.out]
          rw [e1, HSN.out]
          exact HMS.out
      · have HRC := Lib.hid (fun U => by have h := right3_c v lo hi U; rw [decide_eq_false hd] at h; exact h)
        have HD := Lib.hid hd
        clear hd
        refine wp_region_till [11] (fun U => U.cell? ⟨B8, 0, none⟩ = some (.int .i64 (ci : Int)) ∧ U.cell? ⟨B8, 1, none⟩ = some (.int .i64 (di : Int)) ∧ U.cell? ⟨B8 + 1, 0, none⟩ = some (.int .i64 lo) ∧ U.cell? ⟨B8 + 1, 1, none⟩ = some (.int .i64 hi) ∧ U.cell? ⟨lb, lz + di, none⟩ = some (.slice (some ⟨rb, ro, none⟩) E.CS.n row.c) ∧ U.cell? ⟨rb, ro + ci, none⟩ = some (.int .i64 v)) (by kernel_rfl) (by exact ⟨q0, q1, q2, q3, z1, z2⟩) (fun hHeld => ?_)
        have hb9 := (Below.refl w4.heap.size w4).drew
        have t0 := HI9.out.below hb9; have t1 := below_tr HB9.out hb9
        clear HI9 HB9
        have HI9 := Lib.hid t0; have HB9 := Lib.hid t1
        clear t0 t1
        clear hb9
        revert hHeld HI9 HB9
        generalize w4.drew = w0
        intro hHeld HI9 HB9
        (refine wpAnyL_take (n := 0) (i := 0) (oi := ?ox14) (v := ?vx14) ?hix14 ?k1x14 ?k2x14 ?k3x14 ?k4x14 ?k5x14 ?k6x14 ?hQx14 ?hYx14 ?hSx14 ?restx14; (case hix14 => (simp only [List.getElem?_toArray, List.getElem?_cons_succ, List.getElem?_cons_zero]; exact rfl)); (case k1x14 => kernel_rfl); (case k2x14 => kernel_rfl); (case k3x14 => kernel_rfl); (case k4x14 => kernel_rfl); (case k5x14 => kernel_rfl); (case k6x14 => kernel_rfl); (case hSx14 => assumption); (case hYx14 => (refine Or.inl ⟨rfl, ?hyx14⟩; intro w hSw; (try dsimp only at hSw); go_simp; (try with_reducible rfl))); (case hQx14 => exact (fun _ _ _ h => h)); (try simp only [Act.put, List.setIfInBounds_toArray, List.set_cons_zero, List.set_cons_succ]))
        (refine wpAnyL_take (n := 4) (i := 1) (oi := ?ox15) (v := ?vx15) ?hix15 ?k1x15 ?k2x15 ?k3x15 ?k4x15 ?k5x15 ?k6x15 ?hQx15 ?hYx15 ?hSx15 ?restx15; (case hix15 => (simp only [List.getElem?_toArray, List.getElem?_cons_succ, List.getElem?_cons_zero]; exact rfl)); (case k1x15 => kernel_rfl); (case k2x15 => kernel_rfl); (case k3x15 => kernel_rfl); (case k4x15 => kernel_rfl); (case k5x15 => kernel_rfl); (case k6x15 => kernel_rfl); (case hSx15 => assumption); (case hYx15 => (refine Or.inl ⟨rfl, ?hyx15⟩; intro w hSw; (try dsimp only at hSw); go_simp; (try with_reducible rfl))); (case hQx15 => exact (fun _ _ _ h => h)); (try simp only [Act.put, List.setIfInBounds_toArray, List.set_cons_zero, List.set_cons_succ]))
        (refine wpAnyL_take (n := 5) (i := 2) (oi := ?ox16) (v := ?vx16) ?hix16 ?k1x16 ?k2x16 ?k3x16 ?k4x16 ?k5x16 ?k6x16 ?hQx16 ?hYx16 ?hSx16 ?restx16; (case hix16 => (simp only [List.getElem?_toArray, List.getElem?_cons_succ, List.getElem?_cons_zero]; exact rfl)); (case k1x16 => kernel_rfl); (case k2x16 => kernel_rfl); (case k3x16 => kernel_rfl); (case k4x16 => kernel_rfl); (case k5x16 => kernel_rfl); (case k6x16 => kernel_rfl); (case hSx16 => assumption); (case hYx16 => (refine Or.inl ⟨rfl, ?hyx16⟩; intro w hSw; (try dsimp only at hSw); go_simp; (try with_reducible rfl))); (case hQx16 => exact (fun _ _ _ h => h)); (try simp only [Act.put, List.setIfInBounds_toArray, List.set_cons_zero, List.set_cons_succ]))
        (refine wpAnyL_take (n := 4) (i := 3) (oi := ?ox17) (v := ?vx17) ?hix17 ?k1x17 ?k2x17 ?k3x17 ?k4x17 ?k5x17 ?k6x17 ?hQx17 ?hYx17 ?hSx17 ?restx17; (case hix17 => (simp only [List.getElem?_toArray, List.getElem?_cons_succ, List.getElem?_cons_zero]; exact rfl)); (case k1x17 => kernel_rfl); (case k2x17 => kernel_rfl); (case k3x17 => kernel_rfl); (case k4x17 => kernel_rfl); (case k5x17 => kernel_rfl); (case k6x17 => kernel_rfl); (case hSx17 => assumption); (case hYx17 => (refine Or.inl ⟨rfl, ?hyx17⟩; intro w hSw; (try dsimp only at hSw); go_simp; (try with_reducible rfl))); (case hQx17 => exact (fun _ _ _ h => h)); (try simp only [Act.put, List.setIfInBounds_toArray, List.set_cons_zero, List.set_cons_succ]))
        (refine wpAnyL_take (n := 3) (i := 4) (oi := ?ox18) (v := ?vx18) ?hix18 ?k1x18 ?k2x18 ?k3x18 ?k4x18 ?k5x18 ?k6x18 ?hQx18 ?hYx18 ?hSx18 ?restx18; (case hix18 => (simp only [List.getElem?_toArray, List.getElem?_cons_succ, List.getElem?_cons_zero]; exact rfl)); (case k1x18 => kernel_rfl); (case k2x18 => kernel_rfl); (case k3x18 => kernel_rfl); (case k4x18 => kernel_rfl); (case k5x18 => kernel_rfl); (case k6x18 => kernel_rfl); (case hSx18 => assumption); (case hYx18 => (refine Or.inl ⟨rfl, ?hyx18⟩; intro w hSw; (try dsimp only at hSw); go_simp; (try with_reducible rfl))); (case hQx18 => exact (fun _ _ _ h => h)); (try simp only [Act.put, List.setIfInBounds_toArray, List.set_cons_zero, List.set_cons_succ]))
        (refine wpAnyL_take (n := 2) (i := 5) (oi := ?ox19) (v := ?vx19) ?hix19 ?k1x19 ?k2x19 ?k3x19 ?k4x19 ?k5x19 ?k6x19 ?hQx19 ?hYx19 ?hSx19 ?restx19; (case hix19 => (simp only [List.getElem?_toArray, List.getElem?_cons_succ, List.getElem?_cons_zero]; exact rfl)); (case k1x19 => kernel_rfl); (case k2x19 => kernel_rfl); (case k3x19 => kernel_rfl); (case k4x19 => kernel_rfl); (case k5x19 => kernel_rfl); (case k6x19 => kernel_rfl); (case hSx19 => assumption); (case hYx19 => (refine Or.inl ⟨rfl, ?hyx19⟩; intro w hSw; (try dsimp only at hSw); go_simp; (try with_reducible rfl))); (case hQx19 => exact (fun _ _ _ h => h)); (try simp only [Act.put, List.setIfInBounds_toArray, List.set_cons_zero, List.set_cons_succ]))
        (refine wpAnyL_take (n := 3) (i := 6) (oi := ?ox20) (v := ?vx20) ?hix20 ?k1x20 ?k2x20 ?k3x20 ?k4x20 ?k5x20 ?k6x20 ?hQx20 ?hYx20 ?hSx20 ?restx20; (case hix20 => (simp only [List.getElem?_toArray, List.getElem?_cons_succ, List.getElem?_cons_zero]; exact rfl)); (case k1x20 => kernel_rfl); (case k2x20 => kernel_rfl); (case k3x20 => kernel_rfl); (case k4x20 => kernel_rfl); (case k5x20 => kernel_rfl); (case k6x20 => kernel_rfl); (case hSx20 => assumption); (case hYx20 => (refine Or.inl ⟨rfl, ?hyx20⟩; intro w hSw; (try dsimp only at hSw); go_simp; (try with_reducible rfl))); (case hQx20 => exact (fun _ _ _ h => h)); (try simp only [Act.put, List.setIfInBounds_toArray, List.set_cons_zero, List.set_cons_succ]))
        (refine wpAnyL_take (n := 2) (i := 7) (oi := ?ox21) (v := ?vx21) ?hix21 ?k1x21 ?k2x21 ?k3x21 ?k4x21 ?k5x21 ?k6x21 ?hQx21 ?hYx21 ?hSx21 ?restx21; (case hix21 => (simp only [List.getElem?_toArray, List.getElem?_cons_succ, List.getElem?_cons_zero]; exact rfl)); (case k1x21 => kernel_rfl); (case k2x21 => kernel_rfl); (case k3x21 => kernel_rfl); (case k4x21 => kernel_rfl); (case k5x21 => kernel_rfl); (case k6x21 => kernel_rfl); (case hSx21 => assumption); (case hYx21 => (refine Or.inl ⟨rfl, ?hyx21⟩; intro w hSw; (try dsimp only at hSw); go_simp; (try with_reducible rfl))); (case hQx21 => exact (fun _ _ _ h => h)); (try simp only [Act.put, List.setIfInBounds_toArray, List.set_cons_zero, List.set_cons_succ]))
        (refine wpAnyL_take (n := 1) (i := 8) (oi := ?ox22) (v := ?vx22) ?hix22 ?k1x22 ?k2x22 ?k3x22 ?k4x22 ?k5x22 ?k6x22 ?hQx22 ?hYx22 ?hSx22 ?restx22; (case hix22 => (simp only [List.getElem?_toArray, List.getElem?_cons_succ, List.getElem?_cons_zero]; exact rfl)); (case k1x22 => kernel_rfl); (case k2x22 => kernel_rfl); (case k3x22 => kernel_rfl); (case k4x22 => kernel_rfl); (case k5x22 => kernel_rfl); (case k6x22 => kernel_rfl); (case hSx22 => assumption); (case hYx22 => (refine Or.inl ⟨rfl, ?hyx22⟩; intro w hSw; (try dsimp only at hSw); go_simp; (try with_reducible rfl))); (case hQx22 => exact (fun _ _ _ h => h)); (try simp only [Act.put, List.setIfInBounds_toArray, List.set_cons_zero, List.set_cons_succ]))
        (refine wpAnyL_take (n := 0) (i := 9) (oi := ?ox23) (v := ?vx23) ?hix23 ?k1x23 ?k2x23 ?k3x23 ?k4x23 ?k5x23 ?k6x23 ?hQx23 ?hYx23 ?hSx23 ?restx23; (case hix23 => (simp only [List.getElem?_toArray, List.getElem?_cons_succ, List.getElem?_cons_zero]; exact rfl)); (case k1x23 => kernel_rfl); (case k2x23 => kernel_rfl); (case k3x23 => kernel_rfl); (case k4x23 => kernel_rfl); (case k5x23 => kernel_rfl); (case k6x23 => kernel_rfl); (case hSx23 => assumption); (case hYx23 => (refine Or.inl ⟨rfl, ?hyx23⟩; intro w hSw; (try dsimp only at hSw); go_simp; (try with_reducible rfl))); (case hQx23 => exact (fun _ _ _ h => h)); (try simp only [Act.put, List.setIfInBounds_toArray, List.set_cons_zero, List.set_cons_succ]))
        (refine wpAnyL_take (n := 0) (i := 10) (oi := ?ox24) (v := ?vx24) ?hix24 ?k1x24 ?k2x24 ?k3x24 ?k4x24 ?k5x24 ?k6x24 ?hQx24 ?hYx24 ?hSx24 ?restx24; (case hix24 => (simp only [List.getElem?_toArray, List.getElem?_cons_succ, List.getElem?_cons_zero]; exact rfl)); (case k1x24 => kernel_rfl); (case k2x24 => kernel_rfl); (case k3x24 => kernel_rfl); (case k4x24 => kernel_rfl); (case k5x24 => kernel_rfl); (case k6x24 => kernel_rfl); (case hSx24 => assumption); (case hYx24 => (refine Or.inl ⟨rfl, ?hyx24⟩; intro w hSw; (try dsimp only at hSw); go_simp; (try with_reducible rfl))); (case hQx24 => exact (fun _ _ _ h => h)); (try simp only [Act.put, List.setIfInBounds_toArray, List.set_cons_zero, List.set_cons_succ]))
        refine wpAnyL_ready (rs := [11]) (by kernel_rfl) (by simp) ?_
        refine AllReadyL.last (o := ?o11x25) ?hi11x25 ?he11x25 (fun K hK => ?_) AllReadyL.nil
        (case hi11x25 => (simp only [List.getElem?_toArray, List.getElem?_cons_succ, List.getElem?_cons_zero]; exact rfl))
        (case he11x25 => kernel_rfl)
        go_simp
        go_at_call 49
        refine (HRC.out _).mono ?_
        rintro e w1 ⟨rfl, hb9⟩
        have t0 := HI9.out.below hb9; have t1 := below_tr HB9.out hb9
        clear HI9 HB9
        have HI9 := Lib.hid t0; have HB9 := Lib.hid t1
        clear t0 t1
        clear hb9 
        (try go_wp2_with fail)
        (try clear hHeld)
        refine hK.out _ _ ?_
        clear hK K
        (try simp only [Act.put, List.setIfInBounds_toArray, List.set_cons_zero, List.set_cons_succ])
        (refine wpAnyL_free (i := 12) (oi := ?ox26) (v := ?vx26) ?hix26 ?k1x26 ?k2x26 ?k3x26 ?k4x26 ?k5x26 ?hQx26 ?hYx26 ?restx26; (case hix26 => (simp only [List.getElem?_toArray, List.getElem?_cons_succ, List.getElem?_cons_zero]; exact rfl)); (case k1x26 => kernel_rfl); (case k2x26 => kernel_rfl); (case k3x26 => kernel_rfl); (case k4x26 => kernel_rfl); (case k5x26 => kernel_rfl); (case hYx26 => (refine Or.inl ⟨rfl, ?hyx26⟩; intro w hSw; (try dsimp only at hSw); go_simp; (try with_reducible rfl))); (case hQx26 => exact (fun _ _ _ h => h)); (try simp only [Act.put, List.setIfInBounds_toArray, List.set_cons_zero, List.set_cons_succ]))
        (refine wpAnyL_done (by kernel_rfl) ?_ _)
        go_wp2_with fail
        go_ret
        refine ⟨false, rfl, fun hall => ?_, below_tr HB2.out HB9.out⟩
        have h1 := hall _ HP.out
        have h2 : lvA ((E.soak n).st (((di : Nat) : Int).toNat + 1)).lv ((ci : Nat) : Int).toNat = v := by rw [HVL.out]; simp
        unfold rel3 at h1
        dsimp only at h1
        rw [h2] at h1
        exact absurd h1 (by have := HD.out; omega)
/-- whether a soak is right by all readings, of one side -/
theorem holds3_c {E : WE} {n tso0 snow left : Int} {lv : Nat → Int} {W1 Br Bm Be M : Nat} {ps : List ((Int × Int) × (Int × Int))} {W : World} (hok : (E.soak n).Ok) (hd1 : 1 ≤ E.DS.n) (hl8 : E.LV.n ≤ 8) (hm : LearnM E tso0 snow left lv W1 Br Bm M ps W) (hps : PsIn E ps)
    (he : Blk W Be 127 #[.func (.func 46) #[] #[.pointer (some ⟨Br, 0, none⟩), .pointer (some ⟨Bm, 0, none⟩)]]) :
    Calls Tryz.prog 48 #[.int .i64 n, .pointer (some ⟨Be, 0, none⟩)] W fun e w' => ∃ b, e = .returned (.bool b) ∧ ((∀ p ∈ ps, rel3 (lvA ((E.soak n).st (p.1.2.toNat + 1)).lv p.1.1.toNat) p.2) → b = true) ∧ Below W.heap.size W w' := by
  have hc := each3_c hok hd1 hl8 hm hps
  have HC := Lib.hid hc
  have e0 := he.cell 0
  simp at e0
  clear hc he hm hps hok
  go_enter Tryz.func48, Tryz.ntmps48
  go_wp2_with fail
  go_at_call 46
  refine (HC.out).mono ?_
  rintro e w2 ⟨b, rfl, hb, hb2⟩
  have HB := Lib.hid hb; have HB2 := Lib.hid hb2
  clear hb hb2
  go_wp2_with fail
  go_ret
  exact ⟨_, rfl, fun h => by simp [HB.out h], HB2.out⟩

theorem right4_c (v lo hi : Int) (w : World) : Calls Tryz.prog 51 #[.int .i64 v, .agg #[.int .i64 lo, .int .i64 hi]] w fun e w' => e = .returned (.bool (decide (v ≤ hi))) ∧ Below w.heap.size w w' := by
  have hal := (Below.refl w.heap.size w).alloc (Nat.le_refl _) (.cells #[.int .i64 lo, .int .i64 hi] 44)
  have hx := Blk.new w 44 #[.int .i64 lo, .int .i64 hi]
  have x0 := hx.cell 0; have x1 := hx.cell 1
  simp at x0 x1
  have HB := Lib.hid hal
  clear hal hx
  go_enter Tryz.func51, Tryz.ntmps51
  go_wp2_with fail
  go_ret
  exact ⟨by simp, HB.out⟩
def rel4 (v : Int) (r : Int × Int) : Prop := v ≤ r.2
set_option linter.unusedSimpArgs false in
set_option maxRecDepth 100000 in
set_option maxHeartbeats 4000000 in
theorem each4_c {E : WE} {n tso0 snow left : Int} {lv : Nat → Int} {W1 Br Bm M : Nat} {ps : List ((Int × Int) × (Int × Int))} {W : World} (hok : (E.soak n).Ok) (hd1 : 1 ≤ E.DS.n) (hl8 : E.LV.n ≤ 8) (hm : LearnM E tso0 snow left lv W1 Br Bm M ps W) (hps : PsIn E ps) :
    Calls Tryz.prog 46 #[.int .i64 n, .func (.func 51) #[] #[], .pointer (some ⟨Br, 0, none⟩), .pointer (some ⟨Bm, 0, none⟩)] W fun e w' => ∃ b, e = .returned (.bool b) ∧ ((∀ p ∈ ps, rel4 (lvA ((E.soak n).st (p.1.2.toNat + 1)).lv p.1.1.toNat) p.2) → b = true) ∧ Below W.heap.size W w' := by
  have hrun := run_c (E := E.soak n) hok (tso0 := tso0) (snow := snow) (left := left) (lv := lv) (W1 := W1) (w := W) hd1 hm.way ⟨hm.rds.c, hm.rds.d, hm.rds.r⟩ hm.lvs hl8
  have HRUN := Lib.hid (show Calls Tryz.prog 44 #[.pointer (some ⟨W1, 0, none⟩), .int .i64 n] W _ from hrun)
  have r0 := hm.br.cell 0
  simp at r0
  have HM := Lib.hid hm; have HOK := Lib.hid hok; have HPS := Lib.hid hps
  clear hrun hm hok hps
  go_enter Tryz.func46, Tryz.ntmps46
  go_wp2_with fail
  go_at_call 44
  refine (HRUN.out).mono ?_
  rintro e w2 ⟨A, c, rs, rfl, hlev, hb2⟩
  have hm2 := HM.out.below hb2
  have r1 := hm2.bm.cell 0
  simp at r1
  have hrg := run_range_map (P := Tryz.prog) w2 122 126 44 M (ents ps) ps.length Tryz.underlying122 hm2.m
  have HM2 := Lib.hid hm2; have HLEV := Lib.hid hlev; have HB2 := Lib.hid hb2
  clear hb2 hm2 hlev HM HRUN r0
  go_wp2_with fail
  clear hrg r1
  go_loopw [8, 9] (fun _ _ wr => ∃ (seen : Array Nat) (c0 : Nat), wr.heap[w2.heap.size]? = some (.mapIter (some M) ps.length seen c0) ∧ ps.length ≤ c0 ∧ Below w2.heap.size w2 wr) (fun _ _ wr => (leftOf (ents ps) (wr.iterSeen w2.heap.size)).size)
  case atStart => exact ⟨#[], ps.length, heap_alloc_new w2 _, Nat.le_refl _, (Below.refl _ _).alloc (Nat.le_refl _) _⟩
  case round =>
    obtain ⟨seen, c0, hit, hc0, hb⟩ := hrel
    have hm := HM2.out.m.below hb
    rcases run_next_at (P := Tryz.prog) wr 0 w2.heap.size M ps.length c0 seen (ents ps) ps.length hit hm (ents_hold ps) hc0 with ⟨h0, hrun⟩ | ⟨en, he, w1, hw1, hrun⟩
    · have HB := Lib.hid hb
      clear hit hm hb h0
      go_wp2_with fail
      go_ret
      exact ⟨true, rfl, fun _ => rfl, below_tr HB2.out HB.out⟩
    · have hb1 : Below w2.heap.size w2 w1 := by rcases hw1 with rfl | rfl <;> first | exact hb | exact hb.drew
      have hsz : w2.heap.size < w1.heap.size := by
        have := (Array.getElem?_eq_some_iff.1 hit).1
        rcases hw1 with rfl | rfl <;> exact this
      have hms : (leftOf (ents ps) (seen.push en.born)).size < (leftOf (ents ps) seen).size := left_shrinks (ents ps) seen en he
      have hsn : wr.iterSeen w2.heap.size = seen := by unfold World.iterSeen; rw [hit]
      have HMS := Lib.hid hms; have HSN := Lib.hid hsn
      have hin := (mem_left he).1
      have hit3 : (ChangeMaps.setBlock w1 w2.heap.size (.mapIter (some M) ps.length (seen.push en.born) ps.length)).heap[w2.heap.size]? = some (.mapIter (some M) ps.length (seen.push en.born) ps.length) := World.putObj_heap_same hsz
      have hb3 := below_setB hb1 (Nat.le_refl _) (.mapIter (some M) ps.length (seen.push en.born) ps.length)
      have hent := run_entry_at (P := Tryz.prog) (ChangeMaps.setBlock w1 w2.heap.size (.mapIter (some M) ps.length (seen.push en.born) ps.length)) w2.heap.size M ps.length seen (ents ps) ps.length en hit3 (HM2.out.m.below hb3) hin (ents_born ps)
      obtain ⟨p, hp, hk, hv⟩ := ents_mem hin
      rw [hk, hv] at hrun hent
      obtain ⟨⟨cl, dy⟩, lo, hi⟩ := p
      have hpin := HPS.out _ hp
      dsimp only at hpin
      obtain ⟨ci, rfl⟩ : ∃ ci : Nat, cl = (ci : Int) := ⟨cl.toNat, by omega⟩
      obtain ⟨di, rfl⟩ : ∃ di : Nat, dy = (di : Int) := ⟨dy.toNat, by omega⟩
      have hci : ci < E.CS.n := by omega
      have hdi : di < E.DS.n := by omega
      simp only [keyN, valN] at hrun hent
      have HP := Lib.hid hp; have HIT := Lib.hid hit3; have HB3 := Lib.hid hb3
      clear hit hm hb hms hsn hin hit3 hb1 hb3 hp hk hv he hc0 hsz hw1
      revert hrun hent HIT HB3
      generalize ChangeMaps.setBlock w1 w2.heap.size (.mapIter (some M) ps.length (seen.push en.born) ps.length) = w3
      intro hrun hent HIT HB3
      have hlev3 := HLEV.out.below HB3.out
      have hln := hlev3.rd.len
      obtain ⟨row, hrow⟩ : ∃ row, rs[di]? = some row := ⟨_, List.getElem?_eq_getElem (by rw [hln]; exact hdi)⟩
      obtain ⟨hrn, hrl, hrr⟩ := hlev3.rows di row hrow
      obtain ⟨lb, lz, rfl, hlb, hlc⟩ := hlev3.rd.2 (show 0 < E.DS.n by omega)
      have hcell := hlc di row hrow 0 _ rfl
      have hci2 : ci < row.n := by rw [hrn]; exact hci
      obtain ⟨rb, ro, v, hrA, hrb, hrv, hvc⟩ := hrr.at1 hci2
      have hvl : v = lvA ((E.soak n).st (di + 1)).lv ci := by unfold lvA; rw [← hrl, List.getD_eq_getElem?_getD, hrv]; rfl
      rw [hrA] at hcell
      have hrn' : row.n = E.CS.n := hrn
      rw [hrn'] at hcell
      simp only [Nat.mul_one, Nat.add_zero] at hcell
      have HVL := Lib.hid hvl
      have i1 : (0 : Int) ≤ (di : Int) := by omega
      have i2 : (di : Int) < (E.DS.n : Int) := by omega
      have i5 : (di : Int) < ((E.soak n).DS.n : Int) := i2
      have i6 : di < (E.soak n).DS.n := hdi
      have i3 : (0 : Int) ≤ (ci : Int) := by omega
      have i4 : (ci : Int) < (E.CS.n : Int) := by omega
      have hal := ((Below.refl w3.heap.size w3).alloc (Nat.le_refl _) (.cells #[.int .i64 (ci : Int), .int .i64 (di : Int)] 126)).alloc (by simp) (.cells #[.int .i64 lo, .int .i64 hi] 44)
      have z1 := (hal.cell (p := ⟨lb, lz + di, none⟩) hlb).trans hcell
      have z2 := (hal.cell (p := ⟨rb, ro + ci, none⟩) hrb).trans hvc
      have hs1 := (Blk.new w3 126 #[.int .i64 (ci : Int), .int .i64 (di : Int)]).alloc (.cells #[.int .i64 lo, .int .i64 hi] 44)
      have hs2 := Blk.new (w3.alloc (.cells #[.int .i64 (ci : Int), .int .i64 (di : Int)] 126)) 44 #[.int .i64 lo, .int .i64 hi]
      simp only [World.size_alloc] at hs2
      have q0 : ((w3.alloc (.cells #[.int .i64 (ci : Int), .int .i64 (di : Int)] 126)).alloc (.cells #[.int .i64 lo, .int .i64 hi] 44)).cell? ⟨w3.heap.size, 0, none⟩ = some (.int .i64 (ci : Int)) := hs1.cell 0
      have q1 : ((w3.alloc (.cells #[.int .i64 (ci : Int), .int .i64 (di : Int)] 126)).alloc (.cells #[.int .i64 lo, .int .i64 hi] 44)).cell? ⟨w3.heap.size, 1, none⟩ = some (.int .i64 (di : Int)) := hs1.cell 1
      have q2 : ((w3.alloc (.cells #[.int .i64 (ci : Int), .int .i64 (di : Int)] 126)).alloc (.cells #[.int .i64 lo, .int .i64 hi] 44)).cell? ⟨w3.heap.size + 1, 0, none⟩ = some (.int .i64 lo) := hs2.cell 0
      have q3 : ((w3.alloc (.cells #[.int .i64 (ci : Int), .int .i64 (di : Int)] 126)).alloc (.cells #[.int .i64 lo, .int .i64 hi] 44)).cell? ⟨w3.heap.size + 1, 1, none⟩ = some (.int .i64 hi) := hs2.cell 1
      have HAL := Lib.hid hal; have HRA := Lib.hid hrA
      have hits : w2.heap.size < w3.heap.size := (Array.getElem?_eq_some_iff.1 HIT.out).1
      clear hlev3 hrow hrn hrl hrr hlb hlc hcell hci2 hrb hrv hvc hvl hal hs1 hs2 hrA hrn' hln
      go_upto_region 5 with fail
      clear hrun hent
      have hit9 : ((w3.alloc (.cells #[.int .i64 (ci : Int), .int .i64 (di : Int)] 126)).alloc (.cells #[.int .i64 lo, .int .i64 hi] 44)).heap[w2.heap.size]? = some (.mapIter (some M) ps.length (seen.push en.born) ps.length) := (HAL.out.block _ hits).trans HIT.out
      have hb9 := below_tr HB3.out HAL.out
      have HI9 := Lib.hid (show DefM w2.heap.size (.mapIter (some M) ps.length (seen.push en.born) ps.length) ((w3.alloc (.cells #[.int .i64 (ci : Int), .int .i64 (di : Int)] 126)).alloc (.cells #[.int .i64 lo, .int .i64 hi] 44)) from hit9)
      have HB9 := Lib.hid hb9
      clear hit9 hb9 HIT HB3 HAL
      revert z1 z2 q0 q1 q2 q3 HI9 HB9
      generalize hg8 : w3.heap.size = B8
      generalize World.alloc (World.alloc w3 _) _ = w4
      intro z1 z2 q0 q1 q2 q3 HI9 HB9
      clear hits hg8
      by_cases hd : v ≤ hi
      · have HRC := Lib.hid (fun U => by have h := right4_c v lo hi U; rw [decide_eq_true hd] at h; exact h)
        clear hd
        refine wp_region_till [11] (fun U => U.cell? ⟨B8, 0, none⟩ = some (.int .i64 (ci : Int)) ∧ U.cell? ⟨B8, 1, none⟩ = some (.int .i64 (di : Int)) ∧ U.cell? ⟨B8 + 1, 0, none⟩ = some (.int .i64 lo) ∧ U.cell? ⟨B8 + 1, 1, none⟩ = some (.int .i64 hi) ∧ U.cell? ⟨lb, lz + di, none⟩ = some (.slice (some ⟨rb, ro, none⟩) E.CS.n row.c) ∧ U.cell? ⟨rb, ro + ci, none⟩ = some (.int .i64 v)) (by kernel_rfl) (by exact ⟨q0, q1, q2, q3, z1, z2⟩) (fun hHeld => ?_)
        have hb9 := (Below.refl w4.heap.size w4).drew
        have t0 := HI9.out.below hb9; have t1 := below_tr HB9.out hb9
        clear HI9 HB9
        have HI9 := Lib.hid t0; have HB9 := Lib.hid t1
        clear t0 t1
        clear hb9
        revert hHeld HI9 HB9
        generalize w4.drew = w0
        intro hHeld HI9 HB9
        (refine wpAnyL_take (n := 0) (i := 0) (oi := ?ox27) (v := ?vx27) ?hix27 ?k1x27 ?k2x27 ?k3x27 ?k4x27 ?k5x27 ?k6x27 ?hQx27 ?hYx27 ?hSx27 ?restx27; (case hix27 => (simp only [List.getElem?_toArray, List.getElem?_cons_succ, List.getElem?_cons_zero]; exact rfl)); (case k1x27 => kernel_rfl); (case k2x27 => kernel_rfl); (case k3x27 => kernel_rfl); (case k4x27 => kernel_rfl); (case k5x27 => kernel_rfl); (case k6x27 => kernel_rfl); (case hSx27 => assumption); (case hYx27 => (refine Or.inl ⟨rfl, ?hyx27⟩; intro w hSw; (try dsimp only at hSw); go_simp; (try with_reducible rfl))); (case hQx27 => exact (fun _ _ _ h => h)); (try simp only [Act.put, List.setIfInBounds_toArray, List.set_cons_zero, List.set_cons_succ]))
        (refine wpAnyL_take (n := 4) (i := 1) (oi := ?ox28) (v := ?vx28) ?hix28 ?k1x28 ?k2x28 ?k3x28 ?k4x28 ?k5x28 ?k6x28 ?hQx28 ?hYx28 ?hSx28 ?restx28; (case hix28 => (simp only [List.getElem?_toArray, List.getElem?_cons_succ, List.getElem?_cons_zero]; exact rfl)); (case k1x28 => kernel_rfl); (case k2x28 => kernel_rfl); (case k3x28 => kernel_rfl); (case k4x28 => kernel_rfl); (case k5x28 => kernel_rfl); (case k6x28 => kernel_rfl); (case hSx28 => assumption); (case hYx28 => (refine Or.inl ⟨rfl, ?hyx28⟩; intro w hSw; (try dsimp only at hSw); go_simp; (try with_reducible rfl))); (case hQx28 => exact (fun _ _ _ h => h)); (try simp only [Act.put, List.setIfInBounds_toArray, List.set_cons_zero, List.set_cons_succ]))
        (refine wpAnyL_take (n := 5) (i := 2) (oi := ?ox29) (v := ?vx29) ?hix29 ?k1x29 ?k2x29 ?k3x29 ?k4x29 ?k5x29 ?k6x29 ?hQx29 ?hYx29 ?hSx29 ?restx29; (case hix29 => (simp only [List.getElem?_toArray, List.getElem?_cons_succ, List.getElem?_cons_zero]; exact rfl)); (case k1x29 => kernel_rfl); (case k2x29 => kernel_rfl); (case k3x29 => kernel_rfl); (case k4x29 => kernel_rfl); (case k5x29 => kernel_rfl); (case k6x29 => kernel_rfl); (case hSx29 => assumption); (case hYx29 => (refine Or.inl ⟨rfl, ?hyx29⟩; intro w hSw; (try dsimp only at hSw); go_simp; (try with_reducible rfl))); (case hQx29 => exact (fun _ _ _ h => h)); (try simp only [Act.put, List.setIfInBounds_toArray, List.set_cons_zero, List.set_cons_succ]))
        (refine wpAnyL_take (n := 4) (i := 3) (oi := ?ox30) (v := ?vx30) ?hix30 ?k1x30 ?k2x30 ?k3x30 ?k4x30 ?k5x30 ?k6x30 ?hQx30 ?hYx30 ?hSx30 ?restx30; (case hix30 => (simp only [List.getElem?_toArray, List.getElem?_cons_succ, List.getElem?_cons_zero]; exact rfl)); (case k1x30 => kernel_rfl); (case k2x30 => kernel_rfl); (case k3x30 => kernel_rfl); (case k4x30 => kernel_rfl); (case k5x30 => kernel_rfl); (case k6x30 => kernel_rfl); (case hSx30 => assumption); (case hYx30 => (refine Or.inl ⟨rfl, ?hyx30⟩; intro w hSw; (try dsimp only at hSw); go_simp; (try with_reducible rfl))); (case hQx30 => exact (fun _ _ _ h => h)); (try simp only [Act.put, List.setIfInBounds_toArray, List.set_cons_zero, List.set_cons_succ]))
        (refine wpAnyL_take (n := 3) (i := 4) (oi := ?ox31) (v := ?vx31) ?hix31 ?k1x31 ?k2x31 ?k3x31 ?k4x31 ?k5x31 ?k6x31 ?hQx31 ?hYx31 ?hSx31 ?restx31; (case hix31 => (simp only [List.getElem?_toArray, List.getElem?_cons_succ, List.getElem?_cons_zero]; exact rfl)); (case k1x31 => kernel_rfl); (case k2x31 => kernel_rfl); (case k3x31 => kernel_rfl); (case k4x31 => kernel_rfl); (case k5x31 => kernel_rfl); (case k6x31 => kernel_rfl); (case hSx31 => assumption); (case hYx31 => (refine Or.inl ⟨rfl, ?hyx31⟩; intro w hSw; (try dsimp only at hSw); go_simp; (try with_reducible rfl))); (case hQx31 => exact (fun _ _ _ h => h)); (try simp only [Act.put, List.setIfInBounds_toArray, List.set_cons_zero, List.set_cons_succ]))
        (refine wpAnyL_take (n := 2) (i := 5) (oi := ?ox32) (v := ?vx32) ?hix32 ?k1x32 ?k2x32 ?k3x32 ?k4x32 ?k5x32 ?k6x32 ?hQx32 ?hYx32 ?hSx32 ?restx32; (case hix32 => (simp only [List.getElem?_toArray, List.getElem?_cons_succ, List.getElem?_cons_zero]; exact rfl)); (case k1x32 => kernel_rfl); (case k2x32 => kernel_rfl); (case k3x32 => kernel_rfl); (case k4x32 => kernel_rfl); (case k5x32 => kernel_rfl); (case k6x32 => kernel_rfl); (case hSx32 => assumption); (case hYx32 => (refine Or.inl ⟨rfl, ?hyx32⟩; intro w hSw; (try dsimp only at hSw); go_simp; (try with_reducible rfl))); (case hQx32 => exact (fun _ _ _ h => h)); (try simp only [Act.put, List.setIfInBounds_toArray, List.set_cons_zero, List.set_cons_succ]))
        (refine wpAnyL_take (n := 3) (i := 6) (oi := ?ox33) (v := ?vx33) ?hix33 ?k1x33 ?k2x33 ?k3x33 ?k4x33 ?k5x33 ?k6x33 ?hQx33 ?hYx33 ?hSx33 ?restx33; (case hix33 => (simp only [List.getElem?_toArray, List.getElem?_cons_succ, List.getElem?_cons_zero]; exact rfl)); (case k1x33 => kernel_rfl); (case k2x33 => kernel_rfl); (case k3x33 => kernel_rfl); (case k4x33 => kernel_rfl); (case k5x33 => kernel_rfl); (case k6x33 => kernel_rfl); (case hSx33 => assumption); (case hYx33 => (refine Or.inl ⟨rfl, ?hyx33⟩; intro w hSw; (try dsimp only at hSw); go_simp; (try with_reducible rfl))); (case hQx33 => exact (fun _ _ _ h => h)); (try simp only [Act.put, List.setIfInBounds_toArray, List.set_cons_zero, List.set_cons_succ]))
        (refine wpAnyL_take (n := 2) (i := 7) (oi := ?ox34) (v := ?vx34) ?hix34 ?k1x34 ?k2x34 ?k3x34 ?k4x34 ?k5x34 ?k6x34 ?hQx34 ?hYx34 ?hSx34 ?restx34; (case hix34 => (simp only [List.getElem?_toArray, List.getElem?_cons_succ, List.getElem?_cons_zero]; exact rfl)); (case k1x34 => kernel_rfl); (case k2x34 => kernel_rfl); (case k3x34 => kernel_rfl); (case k4x34 => kernel_rfl); (case k5x34 => kernel_rfl); (case k6x34 => kernel_rfl); (case hSx34 => assumption); (case hYx34 => (refine Or.inl ⟨rfl, ?hyx34⟩; intro w hSw; (try dsimp only at hSw); go_simp; (try with_reducible rfl))); (case hQx34 => exact (fun _ _ _ h => h)); (try simp only [Act.put, List.setIfInBounds_toArray, List.set_cons_zero, List.set_cons_succ]))
        (refine wpAnyL_take (n := 1) (i := 8) (oi := ?ox35) (v := ?vx35) ?hix35 ?k1x35 ?k2x35 ?k3x35 ?k4x35 ?k5x35 ?k6x35 ?hQx35 ?hYx35 ?hSx35 ?restx35; (case hix35 => (simp only [List.getElem?_toArray, List.getElem?_cons_succ, List.getElem?_cons_zero]; exact rfl)); (case k1x35 => kernel_rfl); (case k2x35 => kernel_rfl); (case k3x35 => kernel_rfl); (case k4x35 => kernel_rfl); (case k5x35 => kernel_rfl); (case k6x35 => kernel_rfl); (case hSx35 => assumption); (case hYx35 => (refine Or.inl ⟨rfl, ?hyx35⟩; intro w hSw; (try dsimp only at hSw); go_simp; (try with_reducible rfl))); (case hQx35 => exact (fun _ _ _ h => h)); (try simp only [Act.put, List.setIfInBounds_toArray, List.set_cons_zero, List.set_cons_succ]))
        (refine wpAnyL_take (n := 0) (i := 9) (oi := ?ox36) (v := ?vx36) ?hix36 ?k1x36 ?k2x36 ?k3x36 ?k4x36 ?k5x36 ?k6x36 ?hQx36 ?hYx36 ?hSx36 ?restx36; (case hix36 => (simp only [List.getElem?_toArray, List.getElem?_cons_succ, List.getElem?_cons_zero]; exact rfl)); (case k1x36 => kernel_rfl); (case k2x36 => kernel_rfl); (case k3x36 => kernel_rfl); (case k4x36 => kernel_rfl); (case k5x36 => kernel_rfl); (case k6x36 => kernel_rfl); (case hSx36 => assumption); (case hYx36 => (refine Or.inl ⟨rfl, ?hyx36⟩; intro w hSw; (try dsimp only at hSw); go_simp; (try with_reducible rfl))); (case hQx36 => exact (fun _ _ _ h => h)); (try simp only [Act.put, List.setIfInBounds_toArray, List.set_cons_zero, List.set_cons_succ]))
        (refine wpAnyL_take (n := 0) (i := 10) (oi := ?ox37) (v := ?vx37) ?hix37 ?k1x37 ?k2x37 ?k3x37 ?k4x37 ?k5x37 ?k6x37 ?hQx37 ?hYx37 ?hSx37 ?restx37; (case hix37 => (simp only [List.getElem?_toArray, List.getElem?_cons_succ, List.getElem?_cons_zero]; exact rfl)); (case k1x37 => kernel_rfl); (case k2x37 => kernel_rfl); (case k3x37 => kernel_rfl); (case k4x37 => kernel_rfl); (case k5x37 => kernel_rfl); (case k6x37 => kernel_rfl); (case hSx37 => assumption); (case hYx37 => (refine Or.inl ⟨rfl, ?hyx37⟩; intro w hSw; (try dsimp only at hSw); go_simp; (try with_reducible rfl))); (case hQx37 => exact (fun _ _ _ h => h)); (try simp only [Act.put, List.setIfInBounds_toArray, List.set_cons_zero, List.set_cons_succ]))
        refine wpAnyL_ready (rs := [11]) (by kernel_rfl) (by simp) ?_
        refine AllReadyL.last (o := ?o11x38) ?hi11x38 ?he11x38 (fun K hK => ?_) AllReadyL.nil
        (case hi11x38 => (simp only [List.getElem?_toArray, List.getElem?_cons_succ, List.getElem?_cons_zero]; exact rfl))
        (case he11x38 => kernel_rfl)
        go_simp
        go_at_call 51
        refine (HRC.out _).mono ?_
        rintro e w1 ⟨rfl, hb9⟩
        have t0 := HI9.out.below hb9; have t1 := below_tr HB9.out hb9
        clear HI9 HB9
        have HI9 := Lib.hid t0; have HB9 := Lib.hid t1
        clear t0 t1
        clear hb9 
        (try go_wp2_with fail)
        (try clear hHeld)
        refine hK.out _ _ ?_
        clear hK K
        (try simp only [Act.put, List.setIfInBounds_toArray, List.set_cons_zero, List.set_cons_succ])
        (refine wpAnyL_free (i := 12) (oi := ?ox39) (v := ?vx39) ?hix39 ?k1x39 ?k2x39 ?k3x39 ?k4x39 ?k5x39 ?hQx39 ?hYx39 ?restx39; (case hix39 => (simp only [List.getElem?_toArray, List.getElem?_cons_succ, List.getElem?_cons_zero]; exact rfl)); (case k1x39 => kernel_rfl); (case k2x39 => kernel_rfl); (case k3x39 => kernel_rfl); (case k4x39 => kernel_rfl); (case k5x39 => kernel_rfl); (case hYx39 => (refine Or.inl ⟨rfl, ?hyx39⟩; intro w hSw; (try dsimp only at hSw); go_simp; (try with_reducible rfl))); (case hQx39 => exact (fun _ _ _ h => h)); (try simp only [Act.put, List.setIfInBounds_toArray, List.set_cons_zero, List.set_cons_succ]))
        (refine wpAnyL_done (by kernel_rfl) ?_ _)
        go_wp2_with fail
        go_roundw
        case rel => exact ⟨_, _, HI9.out, Nat.le_refl _, HB9.out⟩
        case measure =>
          have e1 : w1.iterSeen w2.heap.size = seen.push en.born := by unfold World.iterSeen; rw [show w1.heap[w2.heap.size]? = _ from HI9.out]
          rw [e1, HSN.out]
          exact HMS.out
      · have HRC := Lib.hid (fun U => by have h := right4_c v lo hi U; rw [decide_eq_false hd] at h; exact h)
        have HD := Lib.hid hd
        clear hd
        refine wp_region_till [11] (fun U => U.cell? ⟨B8, 0, none⟩ = some (.int .i64 (ci : Int)) ∧ U.cell? ⟨B8, 1, none⟩ = some (.int .i64 (di : Int)) ∧ U.cell? ⟨B8 + 1, 0, none⟩ = some (.int .i64 lo) ∧ U.cell? ⟨B8 + 1, 1, none⟩ = some (.int .i64 hi) ∧ U.cell? ⟨lb, lz + di, none⟩ = some (.slice (some ⟨rb, ro, none⟩) E.CS.n row.c) ∧ U.cell? ⟨rb, ro + ci, none⟩ = some (.int .i64 v)) (by kernel_rfl) (by exact ⟨q0, q1, q2, q3, z1, z2⟩) (fun hHeld => ?_)
        have hb9 := (Below.refl w4.heap.size w4).drew
        have t0 := HI9.out.below hb9; have t1 := below_tr HB9.out hb9
        clear HI9 HB9
        have HI9 := Lib.hid t0; have HB9 := Lib.hid t1
        clear t0 t1
        clear hb9
        revert hHeld HI9 HB9
        generalize w4.drew = w0
        intro hHeld HI9 HB9
        (refine wpAnyL_take (n := 0) (i := 0) (oi := ?ox40) (v := ?vx40) ?hix40 ?k1x40 ?k2x40 ?k3x40 ?k4x40 ?k5x40 ?k6x40 ?hQx40 ?hYx40 ?hSx40 ?restx40; (case hix40 => (simp only [List.getElem?_toArray, List.getElem?_cons_succ, List.getElem?_cons_zero]; exact rfl)); (case k1x40 => kernel_rfl); (case k2x40 => kernel_rfl); (case k3x40 => kernel_rfl); (case k4x40 => kernel_rfl); (case k5x40 => kernel_rfl); (case k6x40 => kernel_rfl); (case hSx40 => assumption); (case hYx40 => (refine Or.inl ⟨rfl, ?hyx40⟩; intro w hSw; (try dsimp only at hSw); go_simp; (try with_reducible rfl))); (case hQx40 => exact (fun _ _ _ h => h)); (try simp only [Act.put, List.setIfInBounds_toArray, List.set_cons_zero, List.set_cons_succ]))
        (refine wpAnyL_take (n := 4) (i := 1) (oi := ?ox41) (v := ?vx41) ?hix41 ?k1x41 ?k2x41 ?k3x41 ?k4x41 ?k5x41 ?k6x41 ?hQx41 ?hYx41 ?hSx41 ?restx41; (case hix41 => (simp only [List.getElem?_toArray, List.getElem?_cons_succ, List.getElem?_cons_zero]; exact rfl)); (case k1x41 => kernel_rfl); (case k2x41 => kernel_rfl); (case k3x41 => kernel_rfl); (case k4x41 => kernel_rfl); (case k5x41 => kernel_rfl); (case k6x41 => kernel_rfl); (case hSx41 => assumption); (case hYx41 => (refine Or.inl ⟨rfl, ?hyx41⟩; intro w hSw; (try dsimp only at hSw); go_simp; (try with_reducible rfl))); (case hQx41 => exact (fun _ _ _ h => h)); (try simp only [Act.put, List.setIfInBounds_toArray, List.set_cons_zero, List.set_cons_succ]))
        (refine wpAnyL_take (n := 5) (i := 2) (oi := ?ox42) (v := ?vx42) ?hix42 ?k1x42 ?k2x42 ?k3x42 ?k4x42 ?k5x42 ?k6x42 ?hQx42 ?hYx42 ?hSx42 ?restx42; (case hix42 => (simp only [List.getElem?_toArray, List.getElem?_cons_succ, List.getElem?_cons_zero]; exact rfl)); (case k1x42 => kernel_rfl); (case k2x42 => kernel_rfl); (case k3x42 => kernel_rfl); (case k4x42 => kernel_rfl); (case k5x42 => kernel_rfl); (case k6x42 => kernel_rfl); (case hSx42 => assumption); (case hYx42 => (refine Or.inl ⟨rfl, ?hyx42⟩; intro w hSw; (try dsimp only at hSw); go_simp; (try with_reducible rfl))); (case hQx42 => exact (fun _ _ _ h => h)); (try simp only [Act.put, List.setIfInBounds_toArray, List.set_cons_zero, List.set_cons_succ]))
        (refine wpAnyL_take (n := 4) (i := 3) (oi := ?ox43) (v := ?vx43) ?hix43 ?k1x43 ?k2x43 ?k3x43 ?k4x43 ?k5x43 ?k6x43 ?hQx43 ?hYx43 ?hSx43 ?restx43; (case hix43 => (simp only [List.getElem?_toArray, List.getElem?_cons_succ, List.getElem?_cons_zero]; exact rfl)); (case k1x43 => kernel_rfl); (case k2x43 => kernel_rfl); (case k3x43 => kernel_rfl); (case k4x43 => kernel_rfl); (case k5x43 => kernel_rfl); (case k6x43 => kernel_rfl); (case hSx43 => assumption); (case hYx43 => (refine Or.inl ⟨rfl, ?hyx43⟩; intro w hSw; (try dsimp only at hSw); go_simp; (try with_reducible rfl))); (case hQx43 => exact (fun _ _ _ h => h)); (try simp only [Act.put, List.setIfInBounds_toArray, List.set_cons_zero, List.set_cons_succ]))
        (refine wpAnyL_take (n := 3) (i := 4) (oi := ?ox44) (v := ?vx44) ?hix44 ?k1x44 ?k2x44 ?k3x44 ?k4x44 ?k5x44 ?k6x44 ?hQx44 ?hYx44 ?hSx44 ?restx44; (case hix44 => (simp only [List.getElem?_toArray, List.getElem?_cons_succ, List.getElem?_cons_zero]; exact rfl)); (case k1x44 => kernel_rfl); (case k2x44 => kernel_rfl); (case k3x44 => kernel_rfl); (case k4x44 => kernel_rfl); (case k5x44 => kernel_rfl); (case k6x44 => kernel_rfl); (case hSx44 => assumption); (case hYx44 => (refine Or.inl ⟨rfl, ?hyx44⟩; intro w hSw; (try dsimp only at hSw); go_simp; (try with_reducible rfl))); (case hQx44 => exact (fun _ _ _ h => h)); (try simp only [Act.put, List.setIfInBounds_toArray, List.set_cons_zero, List.set_cons_succ]))
        (refine wpAnyL_take (n := 2) (i := 5) (oi := ?ox45) (v := ?vx45) ?hix45 ?k1x45 ?k2x45 ?k3x45 ?k4x45 ?k5x45 ?k6x45 ?hQx45 ?hYx45 ?hSx45 ?restx45; (case hix45 => (simp only [List.getElem?_toArray, List.getElem?_cons_succ, List.getElem?_cons_zero]; exact rfl)); (case k1x45 => kernel_rfl); (case k2x45 => kernel_rfl); (case k3x45 => kernel_rfl); (case k4x45 => kernel_rfl); (case k5x45 => kernel_rfl); (case k6x45 => kernel_rfl); (case hSx45 => assumption); (case hYx45 => (refine Or.inl ⟨rfl, ?hyx45⟩; intro w hSw; (try dsimp only at hSw); go_simp; (try with_reducible rfl))); (case hQx45 => exact (fun _ _ _ h => h)); (try simp only [Act.put, List.setIfInBounds_toArray, List.set_cons_zero, List.set_cons_succ]))
        (refine wpAnyL_take (n := 3) (i := 6) (oi := ?ox46) (v := ?vx46) ?hix46 ?k1x46 ?k2x46 ?k3x46 ?k4x46 ?k5x46 ?k6x46 ?hQx46 ?hYx46 ?hSx46 ?restx46; (case hix46 => (simp only [List.getElem?_toArray, List.getElem?_cons_succ, List.getElem?_cons_zero]; exact rfl)); (case k1x46 => kernel_rfl); (case k2x46 => kernel_rfl); (case k3x46 => kernel_rfl); (case k4x46 => kernel_rfl); (case k5x46 => kernel_rfl); (case k6x46 => kernel_rfl); (case hSx46 => assumption); (case hYx46 => (refine Or.inl ⟨rfl, ?hyx46⟩; intro w hSw; (try dsimp only at hSw); go_simp; (try with_reducible rfl))); (case hQx46 => exact (fun _ _ _ h => h)); (try simp only [Act.put, List.setIfInBounds_toArray, List.set_cons_zero, List.set_cons_succ]))
        (refine wpAnyL_take (n := 2) (i := 7) (oi := ?ox47) (v := ?vx47) ?hix47 ?k1x47 ?k2x47 ?k3x47 ?k4x47 ?k5x47 ?k6x47 ?hQx47 ?hYx47 ?hSx47 ?restx47; (case hix47 => (simp only [List.getElem?_toArray, List.getElem?_cons_succ, List.getElem?_cons_zero]; exact rfl)); (case k1x47 => kernel_rfl); (case k2x47 => kernel_rfl); (case k3x47 => kernel_rfl); (case k4x47 => kernel_rfl); (case k5x47 => kernel_rfl); (case k6x47 => kernel_rfl); (case hSx47 => assumption); (case hYx47 => (refine Or.inl ⟨rfl, ?hyx47⟩; intro w hSw; (try dsimp only at hSw); go_simp; (try with_reducible rfl))); (case hQx47 => exact (fun _ _ _ h => h)); (try simp only [Act.put, List.setIfInBounds_toArray, List.set_cons_zero, List.set_cons_succ]))
        (refine wpAnyL_take (n := 1) (i := 8) (oi := ?ox48) (v := ?vx48) ?hix48 ?k1x48 ?k2x48 ?k3x48 ?k4x48 ?k5x48 ?k6x48 ?hQx48 ?hYx48 ?hSx48 ?restx48; (case hix48 => (simp only [List.getElem?_toArray, List.getElem?_cons_succ, List.getElem?_cons_zero]; exact rfl)); (case k1x48 => kernel_rfl); (case k2x48 => kernel_rfl); (case k3x48 => kernel_rfl); (case k4x48 => kernel_rfl); (case k5x48 => kernel_rfl); (case k6x48 => kernel_rfl); (case hSx48 => assumption); (case hYx48 => (refine Or.inl ⟨rfl, ?hyx48⟩; intro w hSw; (try dsimp only at hSw); go_simp; (try with_reducible rfl))); (case hQx48 => exact (fun _ _ _ h => h)); (try simp only [Act.put, List.setIfInBounds_toArray, List.set_cons_zero, List.set_cons_succ]))
        (refine wpAnyL_take (n := 0) (i := 9) (oi := ?ox49) (v := ?vx49) ?hix49 ?k1x49 ?k2x49 ?k3x49 ?k4x49 ?k5x49 ?k6x49 ?hQx49 ?hYx49 ?hSx49 ?restx49; (case hix49 => (simp only [List.getElem?_toArray, List.getElem?_cons_succ, List.getElem?_cons_zero]; exact rfl)); (case k1x49 => kernel_rfl); (case k2x49 => kernel_rfl); (case k3x49 => kernel_rfl); (case k4x49 => kernel_rfl); (case k5x49 => kernel_rfl); (case k6x49 => kernel_rfl); (case hSx49 => assumption); (case hYx49 => (refine Or.inl ⟨rfl, ?hyx49⟩; intro w hSw; (try dsimp only at hSw); go_simp; (try with_reducible rfl))); (case hQx49 => exact (fun _ _ _ h => h)); (try simp only [Act.put, List.setIfInBounds_toArray, List.set_cons_zero, List.set_cons_succ]))
        (refine wpAnyL_take (n := 0) (i := 10) (oi := ?ox50) (v := ?vx50) ?hix50 ?k1x50 ?k2x50 ?k3x50 ?k4x50 ?k5x50 ?k6x50 ?hQx50 ?hYx50 ?hSx50 ?restx50; (case hix50 => (simp only [List.getElem?_toArray, List.getElem?_cons_succ, List.getElem?_cons_zero]; exact rfl)); (case k1x50 => kernel_rfl); (case k2x50 => kernel_rfl); (case k3x50 => kernel_rfl); (case k4x50 => kernel_rfl); (case k5x50 => kernel_rfl); (case k6x50 => kernel_rfl); (case hSx50 => assumption); (case hYx50 => (refine Or.inl ⟨rfl, ?hyx50⟩; intro w hSw; (try dsimp only at hSw); go_simp; (try with_reducible rfl))); (case hQx50 => exact (fun _ _ _ h => h)); (try simp only [Act.put, List.setIfInBounds_toArray, List.set_cons_zero, List.set_cons_succ]))
        refine wpAnyL_ready (rs := [11]) (by kernel_rfl) (by simp) ?_
        refine AllReadyL.last (o := ?o11x51) ?hi11x51 ?he11x51 (fun K hK => ?_) AllReadyL.nil
        (case hi11x51 => (simp only [List.getElem?_toArray, List.getElem?_cons_succ, List.getElem?_cons_zero]; exact rfl))
        (case he11x51 => kernel_rfl)
        go_simp
        go_at_call 51
        refine (HRC.out _).mono ?_
        rintro e w1 ⟨rfl, hb9⟩
        have t0 := HI9.out.below hb9; have t1 := below_tr HB9.out hb9
        clear HI9 HB9
        have HI9 := Lib.hid t0; have HB9 := Lib.hid t1
        clear t0 t1
        clear hb9 
        (try go_wp2_with fail)
        (try clear hHeld)
        refine hK.out _ _ ?_
        clear hK K
        (try simp only [Act.put, List.setIfInBounds_toArray, List.set_cons_zero, List.set_cons_succ])
        (refine wpAnyL_free (i := 12) (oi := ?ox52) (v := ?vx52) ?hix52 ?k1x52 ?k2x52 ?k3x52 ?k4x52 ?k5x52 ?hQx52 ?hYx52 ?restx52; (case hix52 => (simp only [List.getElem?_toArray, List.getElem?_cons_succ, List.getElem?_cons_zero]; exact rfl)); (case k1x52 => kernel_rfl); (case k2x52 => kernel_rfl); (case k3x52 => kernel_rfl); (case k4x52 => kernel_rfl); (case k5x52 => kernel_rfl); (case hYx52 => (refine Or.inl ⟨rfl, ?hyx52⟩; intro w hSw; (try dsimp only at hSw); go_simp; (try with_reducible rfl))); (case hQx52 => exact (fun _ _ _ h => h)); (try simp only [Act.put, List.setIfInBounds_toArray, List.set_cons_zero, List.set_cons_succ]))
        (refine wpAnyL_done (by kernel_rfl) ?_ _)
        go_wp2_with fail
        go_ret
        refine ⟨false, rfl, fun hall => ?_, below_tr HB2.out HB9.out⟩
        have h1 := hall _ HP.out
        have h2 : lvA ((E.soak n).st (((di : Nat) : Int).toNat + 1)).lv ((ci : Nat) : Int).toNat = v := by rw [HVL.out]; simp
        unfold rel4 at h1
        dsimp only at h1
        rw [h2] at h1
        exact absurd h1 (by have := HD.out; omega)
/-- whether a soak is right by all readings, of one side -/
theorem holds4_c {E : WE} {n tso0 snow left : Int} {lv : Nat → Int} {W1 Br Bm Be M : Nat} {ps : List ((Int × Int) × (Int × Int))} {W : World} (hok : (E.soak n).Ok) (hd1 : 1 ≤ E.DS.n) (hl8 : E.LV.n ≤ 8) (hm : LearnM E tso0 snow left lv W1 Br Bm M ps W) (hps : PsIn E ps)
    (he : Blk W Be 127 #[.func (.func 46) #[] #[.pointer (some ⟨Br, 0, none⟩), .pointer (some ⟨Bm, 0, none⟩)]]) :
    Calls Tryz.prog 50 #[.int .i64 n, .pointer (some ⟨Be, 0, none⟩)] W fun e w' => ∃ b, e = .returned (.bool b) ∧ ((∀ p ∈ ps, rel4 (lvA ((E.soak n).st (p.1.2.toNat + 1)).lv p.1.1.toNat) p.2) → b = false) ∧ Below W.heap.size W w' := by
  have hc := each4_c hok hd1 hl8 hm hps
  have HC := Lib.hid hc
  have e0 := he.cell 0
  simp at e0
  clear hc he hm hps hok
  go_enter Tryz.func50, Tryz.ntmps50
  go_wp2_with fail
  go_at_call 46
  refine (HC.out).mono ?_
  rintro e w2 ⟨b, rfl, hb, hb2⟩
  have HB := Lib.hid hb; have HB2 := Lib.hid hb2
  clear hb hb2
  go_wp2_with fail
  go_ret
  exact ⟨_, rfl, fun h => by simp [HB.out h], HB2.out⟩
end Go.Proofs.YtjpobkmlcjbpiaaGreat
