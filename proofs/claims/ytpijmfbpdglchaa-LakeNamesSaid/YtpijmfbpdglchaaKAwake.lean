/- THE CONTRACT of the law's awake: what the chapter shows. -/
import Derived.Test.YtpijmfbpdglchaaKCheap
import Derived.Test.YtpijmfbpdglchaaKRiseC
import Derived.Test.YtpijmfbpdglchaaKBase
set_option linter.unusedVariables false
set_option linter.unusedSimpArgs false
namespace Go.Proofs.Ytpijmfbpdglchaa
open Go.RowKit Go.Proofs
attribute [local go_sem ↓] Go.wp_at_zero Go.wp_at_succ

/-- A block whose cells are those of a list reads as the list. -/
theorem Rd.of_blkE {α : Type} {enc : α → List Value} {k n : Nat} {w : World} {g : Nat} {t : TypeId} {cs : Array Value} {l : List α} (henc : ∀ x, (enc x).length = k) (h : Blk w g t cs) (hc : l.flatMap enc = cs.toList) (hl : l.length = n) : Rd enc k w (some ⟨g, 0, none⟩) n l :=
  ⟨hl, fun _ => ⟨g, 0, rfl, h.lt, fun i x hx j v hv => by
    rw [Nat.zero_add, h.cell]
    have := flatMap_get henc l i x j v hx hv
    rw [hc] at this
    simpa using this⟩⟩
/-- the lake of the chapter, and its works -/
def valL : Lak := ⟨[0, 100, 250, 450], 3, 2, (2, 3), (50, 60), (0, 10), [(100, 120), (80, 100), (0, 60), (0, 100)]⟩
def pumW : List Wrk := [⟨1, 60, 7⟩, ⟨0, 40, 5⟩]
theorem valL_ok : errA valL pumW [] = 0 := by decide +kernel
theorem val_stt : (aftL valL (netL valL pumW [])).map (sttOf valL.vols) = [⟨true, 140, 180, 1⟩, ⟨true, 210, 280, 2⟩, ⟨true, 200, 340, 2⟩, ⟨true, 190, 249, 1⟩] := by decide +kernel
theorem val_best : Best valL pumW [0, 1] := by
  refine ⟨by decide +kernel, by decide +kernel, fun c hc he => ?_⟩
  have h : ∀ c ∈ treeC 2 2 [], enB valL pumW c = true → ltC pumW c [0, 1] = false := by decide +kernel
  exact h c (treeC_mem.2 hc) he
theorem run_eql_stt (a : Bool) (b c d : Int) (a' : Bool) (b' c' d' : Int) (W : World) : (binOp .eql 66 (.agg #[.bool a, .int .i64 b, .int .i64 c, .int .i64 d]) (.agg #[.bool a', .int .i64 b', .int .i64 c', .int .i64 d'])).run Try.prog W = .ok (.bool (decide (a = a' ∧ b = b' ∧ c = c' ∧ d = d'))) W := by
  rw [run_eql_struct]
  have : (Op.equalIn 10000 66 (.agg #[.bool a, .int .i64 b, .int .i64 c, .int .i64 d]) (.agg #[.bool a', .int .i64 b', .int .i64 c', .int .i64 d'])).run Try.prog W = .ok (decide (a = a' ∧ b = b' ∧ c = c' ∧ d = d')) W := by
    simp [go_sem, Try.underlying66]
    by_cases h1 : a = a' <;> by_cases h2 : b = b' <;> by_cases h3 : c = c' <;> by_cases h4 : d = d' <;> simp [h1, h2, h3, h4]
  rw [this]; rfl
set_option maxRecDepth 100000 in
set_option maxHeartbeats 1000000 in
theorem valley_c (w : World) : Calls Try.prog 53 #[] w fun e w' => ∃ VA IA, e = .returned (.agg (lA VA 4 4 IA 4 4 valL)) ∧ RdL w' VA 4 IA 4 valL ∧ Below w.heap.size w w' := by
  obtain ⟨W, hW⟩ : ∃ W, W = ((w.alloc (.cells #[.slice (some ⟨w.heap.size + 1, 0, none⟩) 4 4, .int .i64 3, .int .i64 2, .int .i64 2, .int .i64 3, .int .i64 50, .int .i64 60, .int .i64 0, .int .i64 10, .slice (some ⟨w.heap.size + 1 + 1, 0, none⟩) 4 4] 38)).alloc (.cells #[.int .i64 0, .int .i64 100, .int .i64 250, .int .i64 450] 3)).alloc (.cells #[.int .i64 100, .int .i64 120, .int .i64 80, .int .i64 100, .int .i64 0, .int .i64 60, .int .i64 0, .int .i64 100] 35) := ⟨_, rfl⟩
  have hb : Below w.heap.size w W := by rw [hW]; exact (((Below.refl _ w).alloc (Nat.le_refl _) _).alloc (by simp) _).alloc (by simp; omega) _
  have hx := ((Blk.new w 38 #[.slice (some ⟨w.heap.size + 1, 0, none⟩) 4 4, .int .i64 3, .int .i64 2, .int .i64 2, .int .i64 3, .int .i64 50, .int .i64 60, .int .i64 0, .int .i64 10, .slice (some ⟨w.heap.size + 1 + 1, 0, none⟩) 4 4]).alloc (.cells #[.int .i64 0, .int .i64 100, .int .i64 250, .int .i64 450] 3)).alloc (.cells #[.int .i64 100, .int .i64 120, .int .i64 80, .int .i64 100, .int .i64 0, .int .i64 60, .int .i64 0, .int .i64 100] 35)
  have hv := (Blk.new (w.alloc (.cells #[.slice (some ⟨w.heap.size + 1, 0, none⟩) 4 4, .int .i64 3, .int .i64 2, .int .i64 2, .int .i64 3, .int .i64 50, .int .i64 60, .int .i64 0, .int .i64 10, .slice (some ⟨w.heap.size + 1 + 1, 0, none⟩) 4 4] 38)) 3 #[.int .i64 0, .int .i64 100, .int .i64 250, .int .i64 450]).alloc (.cells #[.int .i64 100, .int .i64 120, .int .i64 80, .int .i64 100, .int .i64 0, .int .i64 60, .int .i64 0, .int .i64 100] 35)
  have hi := Blk.new ((w.alloc (.cells #[.slice (some ⟨w.heap.size + 1, 0, none⟩) 4 4, .int .i64 3, .int .i64 2, .int .i64 2, .int .i64 3, .int .i64 50, .int .i64 60, .int .i64 0, .int .i64 10, .slice (some ⟨w.heap.size + 1 + 1, 0, none⟩) 4 4] 38)).alloc (.cells #[.int .i64 0, .int .i64 100, .int .i64 250, .int .i64 450] 3)) 35 #[.int .i64 100, .int .i64 120, .int .i64 80, .int .i64 100, .int .i64 0, .int .i64 60, .int .i64 0, .int .i64 100]
  simp only [World.size_alloc] at hv hi
  rw [← hW] at hx hv hi
  have hrv : Rd enc1 1 W (some ⟨w.heap.size + 1, 0, none⟩) 4 valL.vols := Rd.of_blkE enc1_len hv rfl rfl
  have hri : Rd enc2 2 W (some ⟨w.heap.size + 1 + 1, 0, none⟩) 4 valL.inflow := Rd.of_blkE enc2_len hi rfl rfl
  have pc : ∀ i, W.cell? ⟨w.heap.size, i, none⟩ = (#[.slice (some ⟨w.heap.size + 1, 0, none⟩) 4 4, .int .i64 3, .int .i64 2, .int .i64 2, .int .i64 3, .int .i64 50, .int .i64 60, .int .i64 0, .int .i64 10, .slice (some ⟨w.heap.size + 1 + 1, 0, none⟩) 4 4] : Array Value)[i]? := fun i => hx.cell i
  have p0 := pc 0; have p1 := pc 1; have p2 := pc 2; have p3 := pc 3; have p4 := pc 4; have p5 := pc 5; have p6 := pc 6; have p7 := pc 7; have p8 := pc 8; have p9 := pc 9
  simp at p0 p1 p2 p3 p4 p5 p6 p7 p8 p9
  have HB := Lib.hid hb; have HV := Lib.hid hrv; have HI := Lib.hid hri; have HW := Lib.hid hW
  clear hb hx hv hi hrv hri hW pc
  go_enter Try.func53, Try.ntmps53
  go_wp2_with fail
  rw [← HW.out]
  refine bodyPost_ret (v := .agg (lA (some ⟨w.heap.size + 1, 0, none⟩) 4 4 (some ⟨w.heap.size + 1 + 1, 0, none⟩) 4 4 valL)) ?_ rfl ⟨_, _, rfl, ⟨HV.out, HI.out⟩, HB.out⟩
  simp [results, Try.f53, go_sem, p0, p1, p2, p3, p4, p5, p6, p7, p8, p9]
  exact ⟨rfl, rfl, rfl, rfl, rfl, rfl, rfl, rfl⟩
set_option maxRecDepth 100000 in
set_option maxHeartbeats 1000000 in
theorem pumps_c (w : World) : Calls Try.prog 54 #[] w fun e w' => ∃ A, e = .returned (.slice A 2 2) ∧ Rd encW 3 w' A 2 pumW ∧ Below w.heap.size w w' := by
  have hz := Blk.new w 71 #[.int .i64 1, .int .i64 60, .int .i64 7, .int .i64 0, .int .i64 40, .int .i64 5]
  have hr : Rd encW 3 (w.alloc (.cells #[.int .i64 1, .int .i64 60, .int .i64 7, .int .i64 0, .int .i64 40, .int .i64 5] 71)) (some ⟨w.heap.size, 0, none⟩) 2 pumW := Rd.of_blkE encW_len hz rfl rfl
  have HR := Lib.hid hr
  clear hz hr
  go_enter Try.func54, Try.ntmps54
  go_wp2_with fail
  go_ret
  exact ⟨_, rfl, HR.out, (Below.refl _ _).alloc (Nat.le_refl _) _⟩
theorem Rd.atT {w : World} {A : Option Addr} {n : Nat} {l : List Stt} (h : Rd encT 4 w A n l) {i : Nat} (hi : i < n) :
    ∃ b o x, A = some ⟨b, o, none⟩ ∧ b < w.heap.size ∧ l[i]? = some x ∧ w.cell? ⟨b, o + i * 4, none⟩ = some (.bool x.holds) ∧ w.cell? ⟨b, o + i * 4 + 1, none⟩ = some (.int .i64 x.lo) ∧ w.cell? ⟨b, o + i * 4 + 2, none⟩ = some (.int .i64 x.hi) ∧ w.cell? ⟨b, o + i * 4 + 3, none⟩ = some (.int .i64 x.lev) := by
  obtain ⟨b, o, x, e, hb, hx, hc⟩ := h.at_ hi
  exact ⟨b, o, x, e, hb, hx, hc 0 _ rfl, hc 1 _ rfl, hc 2 _ rfl, hc 3 _ rfl⟩
set_option maxRecDepth 100000 in
set_option maxHeartbeats 4000000 in
theorem awake_c (w : World) : Calls Try.prog 18 #[] w fun e w' => e = .returned (.bool true) ∧ Below w.heap.size w w' := by
  have HV := Lib.hid valley_c; have HP := Lib.hid pumps_c
  go_enter Try.func18, Try.ntmps18
  go_wp2_with fail
  refine (HV.out _).mono ?_
  rintro e w1 ⟨VA, IA, rfl, hl1, hb1⟩
  have HL1 := Lib.hid hl1; have HB1 := Lib.hid hb1
  clear hl1 hb1
  go_wp2_with fail
  refine (HP.out _).mono ?_
  rintro e w2 ⟨WA, rfl, hw2, hb2⟩
  have HRI := Lib.hid (Rise_c (CA := none) (nC := 0) (cV := 4) (cI := 4) (cW := 2) (cC := 0) (w := w2) (l := valL) (ws := pumW) (c := []) ⟨HL1.out.below hb2, hw2, Rd.nil _ _ _ _⟩ (Nat.le_refl _) (Nat.le_refl _) (by unfold maxLen; omega) (by unfold maxLen; omega) (by unfold maxLen; omega) (by unfold maxLen; omega))
  have HB2 := Lib.hid (below_tr HB1.out hb2)
  rw [valL_ok, val_stt] at HRI
  clear hb2 hw2
  go_wp2_with fail
  refine HRI.out.mono ?_
  intro e w3 hri
  obtain ⟨A3, n3, c3, rfl, _, _, hr3, hb3⟩ := hri
  have hr3 := hr3 rfl
  obtain rfl : n3 = 4 := hr3.len.symm
  have HR3 := Lib.hid hr3; have HB3 := Lib.hid (below_tr HB2.out hb3)
  clear hr3 hb3 HRI
  go_wp2_with fail
  refine (HV.out _).mono ?_
  rintro e w4 ⟨VA4, IA4, rfl, hl4, hb4⟩
  have HL4 := Lib.hid hl4; have HB4 := Lib.hid (below_tr HB3.out hb4); have HR4 := Lib.hid (HR3.out.below hb4)
  clear hl4 hb4
  go_wp2_with fail
  refine (HP.out _).mono ?_
  rintro e w5 ⟨WA5, rfl, hw5, hb5⟩
  have hok := errA_zero.1 valL_ok
  have HCH := Lib.hid (Cheapest_c (cV := 4) (cI := 4) (cW := 2) (w := w5) (HL4.out.below hb5) hw5 (Nat.le_refl _) (Nat.le_refl _) hok.l hok.w)
  have HB5 := Lib.hid (below_tr HB4.out hb5); have HR5 := Lib.hid (HR4.out.below hb5)
  clear hb5 hw5 hok
  go_wp2_with fail
  refine HCH.out.mono ?_
  intro e w6 hch
  obtain ⟨hch, hb6⟩ := hch
  have HB6 := Lib.hid (below_tr HB5.out hb6)
  have hr6 := HR5.out.below hb6
  rcases hch with ⟨A6, n6, c6, b, rfl, hn6, hr, hbest⟩ | ⟨hno, _⟩
  · obtain rfl := hbest.uniq val_best
    obtain rfl : n6 = 2 := hr.len.symm
    obtain ⟨b0, o0, x0, hA, hlt0, hx0, s0, s1, s2, s3⟩ := hr6.atT (i := 0) (by omega)
    subst hA
    obtain ⟨b1, o1, x1, hA, _, hx1, s4, s5, s6, s7⟩ := hr6.atT (i := 1) (by omega)
    cases hA
    obtain ⟨b1, o1, x2, hA, _, hx2, s8, s9, s10, s11⟩ := hr6.atT (i := 2) (by omega)
    cases hA
    obtain ⟨b1, o1, x3, hA, _, hx3, s12, s13, s14, s15⟩ := hr6.atT (i := 3) (by omega)
    cases hA
    cases hx0; cases hx1; cases hx2; cases hx3
    simp only [Nat.zero_mul, Nat.one_mul, Nat.add_zero, Nat.reduceMul] at s0 s1 s2 s3 s4 s5 s6 s7 s8 s9 s10 s11 s12 s13 s14 s15
    have hp12 : priceC pumW [0, 1] = 12 := by decide +kernel
    rw [hp12]
    have heq := run_eql_stt
    have HIN := Lib.hid (ints_c (c := c6) (c' := 2) (hr.below ((Below.refl w6.heap.size w6).alloc (Nat.le_refl _) (.cells #[.int .i64 0, .int .i64 1] 3))) (rd_two w6 0 1 rfl) (by omega))
    rw [decide_eq_true rfl] at HIN
    clear hr6 hr hbest hb6 hp12
    go_wp2_with (go_at_call 23; refine HIN.out.mono ?_; rintro e w7 ⟨rfl, hb7⟩)
    go_ret
    exact ⟨rfl, (HB6.out.alloc HB6.out.size _).trans (hb7.mono (by have := HB6.out.size; simp; omega))⟩
  · have := hno [0, 1] (by decide +kernel)
    rw [show enB valL pumW [0, 1] = true by decide +kernel] at this
    cases this
end Go.Proofs.Ytpijmfbpdglchaa
