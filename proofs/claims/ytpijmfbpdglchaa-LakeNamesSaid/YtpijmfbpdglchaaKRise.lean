/- CONTRACTS: Break, ProveWorks, Rise. -/
import Derived.Test.YtpijmfbpdglchaaKFirst
import Derived.Test.YtpijmfbpdglchaaKWorked
set_option linter.unusedVariables false
set_option linter.unusedSimpArgs false
namespace Go.Proofs.Ytpijmfbpdglchaa
open Go.RowKit Go.Proofs
attribute [local go_sem ↓] Go.wp_at_zero Go.wp_at_succ

theorem infoT : (Try.prog.info? 66).map (fun i => (i.zero, i.size, i.bytes)) = some (some (.agg #[.bool false, .int .i64 0, .int .i64 0, .int .i64 0]), 4, 32) := by kernel_rfl
/-- the answer of Break -/
def brkRes (l : Lak) (ws : List Wrk) (c : List Int) : Int × Int × Int :=
  if errA l ws c ≠ 0 then (0, 0, errA l ws c) else if brkF (aftL l (netL l ws c)) < 0 then (0, 0, 7) else (brkF (aftL l (netL l ws c)), brkE (aftL l (netL l ws c)), 0)
section
variable {VA IA WA CA : Option Addr} {nV nI nW nC cV cI cW cC : Nat} {l : Lak} {ws : List Wrk} {c : List Int} {w : World}

set_option maxRecDepth 100000 in
set_option maxHeartbeats 2000000 in
theorem Break_c (hP : RdP w VA nV IA nI l WA nW ws CA nC c) (hcV : nV ≤ cV) (hcI : nI ≤ cI) (hnV : nV ≤ maxLen) (hnI : nI ≤ maxLen) (hnW : nW ≤ maxLen) (hnC : nC ≤ maxLen) :
    Calls Try.prog 33 #[.agg (lA VA nV cV IA nI cI l), .slice WA nW cW, .slice CA nC cC] w fun e w' =>
      e = .returned (.tuple #[.int .i64 (brkRes l ws c).1, .int .i64 (brkRes l ws c).2.1, .int .i64 (brkRes l ws c).2.2]) ∧ Below w.heap.size w w' := by
  have hb := (Below.refl w.heap.size w).alloc (Nat.le_refl _) (.cells (lA VA nV cV IA nI cI l) 38)
  have HC := Lib.hid (worked_c (cV := cV) (cI := cI) (cW := cW) (cC := cC) (hP.below hb) hcV hcI hnV hnI hnW hnC)
  have HX := Lib.hid (Blk.new w 38 (lA VA nV cV IA nI cI l))
  have HB := Lib.hid hb; have HP := Lib.hid hP
  have HNI := Lib.hid hnI
  obtain ⟨⟨r1, r2, r3⟩, hr⟩ : ∃ r, r = brkRes l ws c := ⟨_, rfl⟩
  rw [← hr]
  simp only
  clear hb
  by_cases he : errA l ws c = 0
  · have hok := errA_zero.1 he
    have hbr : brkRes l ws c = if brkF (aftL l (netL l ws c)) < 0 then (0, 0, 7) else (brkF (aftL l (netL l ws c)), brkE (aftL l (netL l ws c)), 0) := by unfold brkRes; rw [if_neg (by simp [he])]
    rw [he] at HC
    have HF := Lib.hid (fun (U : World) (hU : Below w.heap.size w U) => first_c (cV := cV) (cI := cI) (cW := cW) (cC := cC) (hP.below hU) hok.l hok.w hok.c)
    have HH := Lib.hid (fun (U : World) (hU : Below w.heap.size w U) => hours_c (cV := cV) (cI := cI) (cW := cW) (cC := cC) (hP.below hU) hok.l hok.w hok.c)
    obtain ⟨F, hF⟩ : ∃ F, F = brkF (aftL l (netL l ws c)) := ⟨_, rfl⟩
    obtain ⟨E, hE⟩ : ∃ E, E = brkE (aftL l (netL l ws c)) := ⟨_, rfl⟩
    obtain ⟨L, hL⟩ : ∃ L, L = aftL l (netL l ws c) := ⟨_, rfl⟩
    rw [← hL] at hE HH
    rw [← hF] at HF
    rw [← hL, ← hE] at hbr
    rw [← hL] at hF
    rw [← hF] at hbr
    rw [hbr] at hr
    clear hP hok he hbr hF hL hnI hnV hnW hnC
    by_cases hlt : F < 0
    · rw [if_pos hlt] at hr
      simp only [Prod.mk.injEq] at hr
      obtain ⟨rfl, rfl, rfl⟩ := hr
      clear HH hE
      go_enter Try.func33, Try.ntmps33
      go_wp2_with fail
      refine HC.out.mono ?_
      rintro e w1 ⟨rfl, hb1⟩
      have hx1 := HX.out.below hb1 (by simp)
      have pc : ∀ i, w1.cell? ⟨w.heap.size, i, none⟩ = (lA VA nV cV IA nI cI l)[i]? := fun i => hx1.cell i
      have p0 := pc 0; have p1 := pc 1; have p2 := pc 2; have p3 := pc 3; have p4 := pc 4; have p5 := pc 5; have p6 := pc 6; have p7 := pc 7; have p8 := pc 8; have p9 := pc 9
      simp at p0 p1 p2 p3 p4 p5 p6 p7 p8 p9
      have HB1 := Lib.hid (below_tr HB.out hb1)
      clear hb1 hx1 pc
      go_wp2_with (go_at_call 68; refine (HF.out _ (HB1.out.alloc HB1.out.size _)).mono ?_; rintro e w2 ⟨rfl, hb2⟩)
      go_ret3
      exact ⟨rfl, (HB1.out.alloc HB1.out.size _).trans (hb2.mono (by have := HB1.out.size; simp; omega))⟩
    · rw [if_neg hlt] at hr
      simp only [Prod.mk.injEq] at hr
      obtain ⟨rfl, rfl, rfl⟩ := hr
      have hge : 0 ≤ r1 := by omega
      have HE := Lib.hid hE
      clear hlt hE
      go_enter Try.func33, Try.ntmps33
      go_wp2_with fail
      refine HC.out.mono ?_
      rintro e w1 ⟨rfl, hb1⟩
      have hx1 := HX.out.below hb1 (by simp)
      have pc : ∀ i, w1.cell? ⟨w.heap.size, i, none⟩ = (lA VA nV cV IA nI cI l)[i]? := fun i => hx1.cell i
      have p0 := pc 0; have p1 := pc 1; have p2 := pc 2; have p3 := pc 3; have p4 := pc 4; have p5 := pc 5; have p6 := pc 6; have p7 := pc 7; have p8 := pc 8; have p9 := pc 9
      simp at p0 p1 p2 p3 p4 p5 p6 p7 p8 p9
      have HB1 := Lib.hid (below_tr HB.out hb1)
      clear hb1 hx1 pc
      go_wp2_with fail
      refine (HF.out _ (HB1.out.alloc HB1.out.size _)).mono ?_
      rintro e w2 ⟨rfl, hb2⟩
      have hx2 := (Blk.new w1 126 (pA VA nV cV IA nI cI l WA nW cW CA nC cC)).below hb2 (by simp)
      have pc : ∀ i, w2.cell? ⟨w1.heap.size, i, none⟩ = (pA VA nV cV IA nI cI l WA nW cW CA nC cC)[i]? := fun i => hx2.cell i
      have p0 := pc 0; have p1 := pc 1; have p2 := pc 2; have p3 := pc 3; have p4 := pc 4; have p5 := pc 5; have p6 := pc 6; have p7 := pc 7; have p8 := pc 8; have p9 := pc 9; have p10 := pc 10; have p11 := pc 11
      simp at p0 p1 p2 p3 p4 p5 p6 p7 p8 p9 p10 p11
      have HB2 := Lib.hid ((HB1.out.alloc HB1.out.size (.cells (pA VA nV cV IA nI cI l WA nW cW CA nC cC) 126)).trans (hb2.mono (by have := HB1.out.size; simp; omega)))
      clear hb2 hx2 pc
      go_wp2_with fail
      refine (HH.out _ HB2.out).mono ?_
      rintro e w3 ⟨A, n, cp, rfl, rfl, hrd, hb3⟩
      have HB3 := Lib.hid (below_tr HB2.out hb3)
      have HI := Lib.hid (idxA_c (cp := cp) hrd HNI.out)
      rw [← HE.out] at HI
      clear hb3 hrd
      go_wp2_with (go_at_call 69; refine HI.out.mono ?_; rintro e w4 ⟨rfl, hb4⟩)
      go_ret3
      exact ⟨rfl, below_tr HB3.out hb4⟩
  · have hr' : brkRes l ws c = (0, 0, errA l ws c) := by unfold brkRes; rw [if_pos he]
    rw [hr'] at hr
    obtain ⟨E, hE⟩ : ∃ E, E = errA l ws c := ⟨_, rfl⟩
    rw [← hE] at hr HC he
    simp only [Prod.mk.injEq] at hr
    obtain ⟨rfl, rfl, rfl⟩ := hr
    clear hE hr' hP
    go_enter Try.func33, Try.ntmps33
    go_wp2_with fail
    refine HC.out.mono ?_
    rintro e w1 ⟨rfl, hb1⟩
    go_wp2_with fail
    go_ret3
    exact ⟨rfl, below_tr HB.out hb1⟩

/-- is a choice enough, as ProveWorks says -/
def proveB (l : Lak) (ws : List Wrk) (c : List Int) : Bool := decide (errA l ws c = 0) && decide (brkF (aftL l (netL l ws c)) < 0)
set_option maxRecDepth 100000 in
set_option maxHeartbeats 2000000 in
theorem prove_c (hP : RdP w VA nV IA nI l WA nW ws CA nC c) (hcV : nV ≤ cV) (hcI : nI ≤ cI) (hnV : nV ≤ maxLen) (hnI : nI ≤ maxLen) (hnW : nW ≤ maxLen) (hnC : nC ≤ maxLen) :
    Calls Try.prog 26 #[.agg (lA VA nV cV IA nI cI l), .slice WA nW cW, .slice CA nC cC] w fun e w' =>
      e = .returned (.bool (proveB l ws c)) ∧ Below w.heap.size w w' := by
  have hb := (Below.refl w.heap.size w).alloc (Nat.le_refl _) (.cells (lA VA nV cV IA nI cI l) 38)
  have HC := Lib.hid (worked_c (cV := cV) (cI := cI) (cW := cW) (cC := cC) (hP.below hb) hcV hcI hnV hnI hnW hnC)
  have HX := Lib.hid (Blk.new w 38 (lA VA nV cV IA nI cI l))
  have HB := Lib.hid hb; have HP := Lib.hid hP
  obtain ⟨r, hr⟩ : ∃ r, r = proveB l ws c := ⟨_, rfl⟩
  rw [← hr]
  unfold proveB at hr
  clear hb
  by_cases he : errA l ws c = 0
  · have hok := errA_zero.1 he
    rw [he] at HC hr
    have HF := Lib.hid (fun (U : World) (hU : Below w.heap.size w U) => enough_c (cV := cV) (cI := cI) (cW := cW) (cC := cC) (hP.below hU) hok.l hok.w hok.c)
    rw [decide_eq_true rfl, Bool.true_and] at hr
    rw [← hr] at HF
    clear hr he hok hP hnI hnV hnW hnC
    go_enter Try.func26, Try.ntmps26
    go_wp2_with fail
    refine HC.out.mono ?_
    rintro e w1 ⟨rfl, hb1⟩
    have hx1 := HX.out.below hb1 (by simp)
    have pc : ∀ i, w1.cell? ⟨w.heap.size, i, none⟩ = (lA VA nV cV IA nI cI l)[i]? := fun i => hx1.cell i
    have p0 := pc 0; have p1 := pc 1; have p2 := pc 2; have p3 := pc 3; have p4 := pc 4; have p5 := pc 5; have p6 := pc 6; have p7 := pc 7; have p8 := pc 8; have p9 := pc 9
    simp at p0 p1 p2 p3 p4 p5 p6 p7 p8 p9
    have HB1 := Lib.hid (below_tr HB.out hb1)
    clear hb1 hx1 pc
    go_wp2_with (go_at_call 60; refine (HF.out _ HB1.out).mono ?_; rintro e w2 ⟨rfl, hb2⟩)
    go_ret
    exact ⟨rfl, below_tr HB1.out hb2⟩
  · obtain ⟨E, hE⟩ : ∃ E, E = errA l ws c := ⟨_, rfl⟩
    rw [← hE] at HC he hr
    rw [decide_eq_false he, Bool.false_and] at hr
    subst hr
    clear hE hP
    go_enter Try.func26, Try.ntmps26
    go_wp2_with fail
    refine HC.out.mono ?_
    rintro e w1 ⟨rfl, hb1⟩
    go_wp2_with fail
    go_ret
    exact ⟨rfl, below_tr HB.out hb1⟩
end
end Go.Proofs.Ytpijmfbpdglchaa
