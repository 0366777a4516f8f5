/- CONTRACTS: two ranges together; what comes of a range in an hour. -/
import Derived.Test.YtpijmfbpdglchaaKBase
set_option linter.unusedVariables false
set_option linter.unusedSimpArgs false
namespace Go.Proofs.Ytpijmfbpdglchaa
open Go.RowKit Go.Proofs
attribute [local go_sem ↓] Go.wp_at_zero Go.wp_at_succ

theorem run_eql_rng (a b c d : Int) (W : World) : (binOp .eql 35 (.agg #[.int .i64 a, .int .i64 b]) (.agg #[.int .i64 c, .int .i64 d])).run Try.prog W = .ok (.bool (decide (a = c ∧ b = d))) W := by
  rw [run_eql_struct]
  have : (Op.equalIn 10000 35 (.agg #[.int .i64 a, .int .i64 b]) (.agg #[.int .i64 c, .int .i64 d])).run Try.prog W = .ok (decide (a = c ∧ b = d)) W := by
    simp [go_sem, Try.underlying35]
    by_cases h1 : a = c <;> by_cases h2 : b = d <;> simp [h1, h2]
  rw [this]; rfl
theorem rd_two (w : World) (a b : Int) {g : Nat} (hg : g = w.heap.size) : Rd enc1 1 (w.alloc (.cells #[.int .i64 a, .int .i64 b] 3)) (some ⟨g, 0, none⟩) 2 [a, b] := by
  subst hg
  refine ⟨rfl, fun _ => ⟨w.heap.size, 0, rfl, by simp, fun i x hx j u hu => ?_⟩⟩
  have hj : j = 0 := by
    have := (List.getElem?_eq_some_iff.1 hu).1
    simp [enc1] at this; exact this
  subst hj
  simp [enc1] at hu
  subst hu
  have hc := (Blk.new w 3 #[.int .i64 a, .int .i64 b]).cell i
  have hi : i = 0 ∨ i = 1 := by have := (List.getElem?_eq_some_iff.1 hx).1; simp at this; omega
  rcases hi with rfl | rfl
  · simp at hx; subst hx; simp
  · simp at hx; subst hx; simp
theorem rd_drew {α : Type} {enc : α → List Value} {k : Nat} {w : World} {A : Option Addr} {n : Nat} {l : List α} (h : Rd enc k w A n l) : Rd enc k w.drew A n l := h
theorem rd_alloc {α : Type} {enc : α → List Value} {k : Nat} {w : World} {A : Option Addr} {n : Nat} {l : List α} (h : Rd enc k w A n l) {o : Obj} : Rd enc k (w.alloc o) A n l := h.mono ((Below.refl _ _).alloc (Nat.le_refl _) _)
theorem bel_keep {w w' : World} (hb : Below w.heap.size w w') {b o : Nat} {v : Value} (h : w.cell? ⟨b, o, none⟩ = some v) : w'.cell? ⟨b, o, none⟩ = some v := (hb.cell (p := ⟨b, o, none⟩) (World.block_lt_of_cell? w _ h)).trans h
section
variable (w : World) {a b : Int} {o o' : Obj}
theorem rd0 : Rd enc1 1 (w.alloc (.cells #[.int .i64 a, .int .i64 b] 3)) (some ⟨w.heap.size, 0, none⟩) 2 [a, b] := rd_two w a b rfl
theorem rd1 : Rd enc1 1 ((w.alloc o).alloc (.cells #[.int .i64 a, .int .i64 b] 3)) (some ⟨w.heap.size + 1, 0, none⟩) 2 [a, b] := rd_two _ a b (by simp)
theorem rd1d : Rd enc1 1 ((w.alloc o).drew.alloc (.cells #[.int .i64 a, .int .i64 b] 3)) (some ⟨w.heap.size + 1, 0, none⟩) 2 [a, b] := rd_two _ a b (by simp)
theorem rd2 : Rd enc1 1 (((w.alloc o).alloc o').alloc (.cells #[.int .i64 a, .int .i64 b] 3)) (some ⟨w.heap.size + 1 + 1, 0, none⟩) 2 [a, b] := rd_two _ a b (by simp)
theorem rd2d : Rd enc1 1 (((w.alloc o).drew.alloc o').alloc (.cells #[.int .i64 a, .int .i64 b] 3)) (some ⟨w.heap.size + 1 + 1, 0, none⟩) 2 [a, b] := rd_two _ a b (by simp)
theorem rd2e : Rd enc1 1 (((w.alloc o).alloc o').drew.alloc (.cells #[.int .i64 a, .int .i64 b] 3)) (some ⟨w.heap.size + 1 + 1, 0, none⟩) 2 [a, b] := rd_two _ a b (by simp)
end
section
variable (w : World) {o o' : Obj} {cs : Array Value} {t : TypeId}
theorem bk_alloc {W : World} {g : Nat} (h : Blk W g t cs) : Blk (W.alloc o) g t cs := h.alloc _
theorem bk_drew {W : World} {g : Nat} (h : Blk W g t cs) : Blk W.drew g t cs := h
theorem bk_new {W : World} {g : Nat} (h : g = W.heap.size) : Blk (W.alloc (.cells cs t)) g t cs := h ▸ Blk.new W t cs
theorem bk0 : Blk (w.alloc (.cells cs t)) w.heap.size t cs := bk_new rfl
theorem bk1 : Blk ((w.alloc o).alloc (.cells cs t)) (w.heap.size + 1) t cs := bk_new (by simp)
theorem bk1d : Blk ((w.alloc o).drew.alloc (.cells cs t)) (w.heap.size + 1) t cs := bk_new (by simp)
theorem bk2 : Blk (((w.alloc o).alloc o').alloc (.cells cs t)) (w.heap.size + 1 + 1) t cs := bk_new (by simp)
theorem bk2d : Blk (((w.alloc o).drew.alloc o').alloc (.cells cs t)) (w.heap.size + 1 + 1) t cs := bk_new (by simp)
theorem bk2e : Blk (((w.alloc o).alloc o').drew.alloc (.cells cs t)) (w.heap.size + 1 + 1) t cs := bk_new (by simp)
end
/-- the two cells of a range in a block -/
def Rc (w : World) (g : Nat) (a b : Int) : Prop := w.cell? ⟨g, 0, none⟩ = some (.int .i64 a) ∧ w.cell? ⟨g, 1, none⟩ = some (.int .i64 b)
theorem rng_ne {a : Rng} (h : ¬ a = noneR) : decide ((1:Int) = a.1 ∧ (0:Int) = a.2) = false := decide_eq_false fun h' => h (Prod.ext h'.1.symm h'.2.symm)
theorem rng_ne' {a : Rng} (h : ¬ a = noneR) : decide (a.1 = (1:Int) ∧ a.2 = (0:Int)) = false := decide_eq_false fun h' => h (Prod.ext h'.1 h'.2)

set_option maxRecDepth 100000 in
set_option maxHeartbeats 1000000 in
theorem joined_c (a b : Rng) (w : World) :
    Calls Try.prog 65 #[.agg #[.int .i64 a.1, .int .i64 a.2], .agg #[.int .i64 b.1, .int .i64 b.2]] w fun e w' => e = .returned (.agg #[.int .i64 (joinR a b).1, .int .i64 (joinR a b).2]) ∧ Below w.heap.size w w' := by
  obtain ⟨a1, a2⟩ := a
  obtain ⟨b1, b2⟩ := b
  obtain ⟨W, hW⟩ : ∃ W, W = ((w.alloc (.cells #[.int .i64 a1, .int .i64 a2] 35)).alloc (.cells #[.int .i64 b1, .int .i64 b2] 35)).alloc (.cells #[.int .i64 0, .int .i64 0] 35) := ⟨_, rfl⟩
  have hb0 : Below w.heap.size w W := by rw [hW]; exact (((Below.refl _ w).alloc (Nat.le_refl _) _).alloc (by simp) _).alloc (by simp; omega) _
  have hx := ((Blk.new w 35 #[.int .i64 a1, .int .i64 a2]).alloc (.cells #[.int .i64 b1, .int .i64 b2] 35)).alloc (.cells #[.int .i64 0, .int .i64 0] 35)
  have hy := (Blk.new (w.alloc (.cells #[.int .i64 a1, .int .i64 a2] 35)) 35 #[.int .i64 b1, .int .i64 b2]).alloc (.cells #[.int .i64 0, .int .i64 0] 35)
  have hz := Blk.new ((w.alloc (.cells #[.int .i64 a1, .int .i64 a2] 35)).alloc (.cells #[.int .i64 b1, .int .i64 b2] 35)) 35 #[.int .i64 0, .int .i64 0]
  simp only [World.size_alloc] at hx hy hz
  rw [← hW] at hx hy hz
  have HN := Lib.hid (none_c W)
  rw [hW] at HN
  have HB := Lib.hid hb0; have HW := Lib.hid hW; have HX := Lib.hid hx; have HY := Lib.hid hy; have HZ := Lib.hid hz
  clear hb0 hW hx hy hz
  have heA := fun W => run_eql_rng 1 0 a1 a2 W
  have heB := fun W => run_eql_rng 1 0 b1 b2 W
  by_cases h1 : (a1, a2) = noneR
  · have hR : joinR (a1, a2) (b1, b2) = (b1, b2) := by unfold joinR; rw [if_pos h1]
    rw [hR]
    cases h1
    rw [decide_eq_true (And.intro rfl rfl)] at heA
    clear hR
    go_enter Try.func65, Try.ntmps65
    go_wp2_with fail
    refine HN.out.mono ?_
    rintro e w2 ⟨rfl, hb⟩
    rw [← HW.out] at hb
    have HB2 := Lib.hid (below_tr HB.out hb)
    have hx2 := HX.out.below hb HX.out.lt
    have hy2 := HY.out.below hb HY.out.lt
    have hz2 := HZ.out.below hb HZ.out.lt
    have c0 := hx2.cell 0; have c1 := hx2.cell 1; have d0 := hy2.cell 0; have d1 := hy2.cell 1
    have f0 := hz2.frozen 0; have f1 := hz2.frozen 1; have e0 := hz2.cell 0; have e1 := hz2.cell 1
    simp at c0 c1 d0 d1 e0 e1
    have HZ2 := Lib.hid hz2
    clear hb hx2 hy2 hz2
    go_wp2_with fail
    have hz3 := (HZ2.out.set_ 0 (.int .i64 b1)).set_ 1 (.int .i64 b2)
    have z0 := hz3.cell 0; have z1 := hz3.cell 1
    simp at z0 z1
    refine bodyPost_ret (v := .agg #[.int .i64 b1, .int .i64 b2]) ?_ rfl ⟨rfl, (HB2.out.setCell (by simp; omega) _).setCell (by simp; omega) _⟩
    simp [results, Try.f65, go_sem, z0, z1]
  · rw [rng_ne h1] at heA
    by_cases h2 : (b1, b2) = noneR
    · have hR : joinR (a1, a2) (b1, b2) = (a1, a2) := by unfold joinR; rw [if_neg h1, if_pos h2]
      rw [hR]
      cases h2
      rw [decide_eq_true (And.intro rfl rfl)] at heB
      clear hR h1
      go_enter Try.func65, Try.ntmps65
      go_wp2_with fail
      refine HN.out.mono ?_
      rintro e w2 ⟨rfl, hb⟩
      rw [← HW.out] at hb
      have HB2 := Lib.hid (below_tr HB.out hb)
      have hx2 := HX.out.below hb HX.out.lt
      have hy2 := HY.out.below hb HY.out.lt
      have hz2 := HZ.out.below hb HZ.out.lt
      have c0 := hx2.cell 0; have c1 := hx2.cell 1; have d0 := hy2.cell 0; have d1 := hy2.cell 1
      have f0 := hz2.frozen 0; have f1 := hz2.frozen 1; have e0 := hz2.cell 0; have e1 := hz2.cell 1
      simp at c0 c1 d0 d1 e0 e1
      have HZ2 := Lib.hid hz2
      clear hb hx2 hy2 hz2
      go_wp2_with fail
      have hz3 := (HZ2.out.set_ 0 (.int .i64 a1)).set_ 1 (.int .i64 a2)
      have z0 := hz3.cell 0; have z1 := hz3.cell 1
      simp at z0 z1
      refine bodyPost_ret (v := .agg #[.int .i64 a1, .int .i64 a2]) ?_ rfl ⟨rfl, (HB2.out.setCell (by simp; omega) _).setCell (by simp; omega) _⟩
      simp [results, Try.f65, go_sem, z0, z1]
    · rw [rng_ne h2] at heB
      have hR : joinR (a1, a2) (b1, b2) = (min a1 b1, max a2 b2) := by unfold joinR; rw [if_neg h1, if_neg h2]
      rw [hR]
      clear hR h1 h2
      go_enter Try.func65, Try.ntmps65
      go_wp2_with fail
      refine HN.out.mono ?_
      rintro e w2 ⟨rfl, hb⟩
      rw [← HW.out] at hb
      have HB2 := Lib.hid (below_tr HB.out hb)
      have hx2 := HX.out.below hb HX.out.lt
      have hy2 := HY.out.below hb HY.out.lt
      have hz2 := HZ.out.below hb HZ.out.lt
      have c0 := hx2.cell 0; have c1 := hx2.cell 1; have d0 := hy2.cell 0; have d1 := hy2.cell 1
      have f0 := hz2.frozen 0; have f1 := hz2.frozen 1; have e0 := hz2.cell 0; have e1 := hz2.cell 1
      simp at c0 c1 d0 d1 e0 e1
      have HZ2 := Lib.hid hz2; have HX2 := Lib.hid hx2; have HY2 := Lib.hid hy2
      have n1 := World.new_ne w2 _ c0; have n2 := World.new_ne w2 _ d0; have n3 := World.new_ne w2 _ e0
      have n4 : ¬ (w.heap.size + 1 + 1 = w.heap.size) := by omega
      have n5 : ¬ (w.heap.size + 1 + 1 = w.heap.size + 1) := by omega
      have n6 : ¬ (w.heap.size = w.heap.size + 1 + 1) := by omega
      have n7 : ¬ (w.heap.size + 1 = w.heap.size + 1 + 1) := by omega
      clear hb hx2 hy2 hz2
      go_wp2_with fail
      go_region_held3 (fun w' => w'.cell? ⟨w.heap.size, 0, none⟩ = some (.int .i64 a1) ∧ w'.cell? ⟨w.heap.size, 1, none⟩ = some (.int .i64 a2) ∧ w'.cell? ⟨w.heap.size + 1, 0, none⟩ = some (.int .i64 b1) ∧ w'.cell? ⟨w.heap.size + 1, 1, none⟩ = some (.int .i64 b2))
        (first | exact ⟨c0, c1, d0, d1⟩ | (go_keep; done))
        (first
          | (go_at_call 96; refine (least_c (a := a1) (b := b1) (by first | (first | exact rd_two _ _ _ (by simp) | exact (rd_two _ _ _ (by simp)).mono ((Below.refl _ _).alloc (Nat.le_refl _) _) | exact rd_drew (rd_two _ _ _ (by simp)) | exact rd_drew ((rd_two _ _ _ (by simp)).mono ((Below.refl _ _).alloc (Nat.le_refl _) _))) | (rw [← h3]; first | exact rd_two _ _ _ (by simp) | exact (rd_two _ _ _ (by simp)).mono ((Below.refl _ _).alloc (Nat.le_refl _) _) | exact rd_drew (rd_two _ _ _ (by simp)) | exact rd_drew ((rd_two _ _ _ (by simp)).mono ((Below.refl _ _).alloc (Nat.le_refl _) _)) | fail) | fail)).mono ?_; rintro e w3 ⟨rfl, h3⟩; have hb3 : Below w2.heap.size w2 w3 := (by rw [← h3]; repeat' (first | exact Below.refl _ _ | exact hb3 | refine Below.drew ?_ | refine Below.alloc ?_ (by first | exact Nat.le_refl _ | exact hb3.size | (simp; done) | (simp; omega) | fail) _ | fail)); have hx3 := HX2.out.below hb3 HX2.out.lt; have hy3 := HY2.out.below hb3 HY2.out.lt; have hz3 := HZ2.out.below hb3 HZ2.out.lt; have c0 := hx3.cell 0; have c1 := hx3.cell 1; have d0 := hy3.cell 0; have d1 := hy3.cell 1; have f0 := hz3.frozen 0; have f1 := hz3.frozen 1; have e0 := hz3.cell 0; have e1 := hz3.cell 1; simp at c0 c1 d0 d1 e0 e1)
          | (go_at_call 76; refine (greatest_c (a := a2) (b := b2) (by first | (first | exact rd_two _ _ _ (by simp) | exact (rd_two _ _ _ (by simp)).mono ((Below.refl _ _).alloc (Nat.le_refl _) _) | exact rd_drew (rd_two _ _ _ (by simp)) | exact rd_drew ((rd_two _ _ _ (by simp)).mono ((Below.refl _ _).alloc (Nat.le_refl _) _))) | (rw [← h3]; first | exact rd_two _ _ _ (by simp) | exact (rd_two _ _ _ (by simp)).mono ((Below.refl _ _).alloc (Nat.le_refl _) _) | exact rd_drew (rd_two _ _ _ (by simp)) | exact rd_drew ((rd_two _ _ _ (by simp)).mono ((Below.refl _ _).alloc (Nat.le_refl _) _)) | fail) | fail)).mono ?_; rintro e w3 ⟨rfl, h3⟩; have hb3 : Below w2.heap.size w2 w3 := (by rw [← h3]; repeat' (first | exact Below.refl _ _ | exact hb3 | refine Below.drew ?_ | refine Below.alloc ?_ (by first | exact Nat.le_refl _ | exact hb3.size | (simp; done) | (simp; omega) | fail) _ | fail)); have hx3 := HX2.out.below hb3 HX2.out.lt; have hy3 := HY2.out.below hb3 HY2.out.lt; have hz3 := HZ2.out.below hb3 HZ2.out.lt; have c0 := hx3.cell 0; have c1 := hx3.cell 1; have d0 := hy3.cell 0; have d1 := hy3.cell 1; have f0 := hz3.frozen 0; have f1 := hz3.frozen 1; have e0 := hz3.cell 0; have e1 := hz3.cell 1; simp at c0 c1 d0 d1 e0 e1))
      all_goals
        have hz4 := (hz3.set_ 0 (.int .i64 (min a1 b1))).set_ 1 (.int .i64 (max a2 b2))
        have z0 := hz4.cell 0; have z1 := hz4.cell 1
        simp at z0 z1
        have HB3 := Lib.hid (below_tr HB2.out hb3)
        clear hz4 hx3 hy3 hz3 hb3
        go_wp2_with fail
        refine bodyPost_ret (v := .agg #[.int .i64 (min a1 b1), .int .i64 (max a2 b2)]) ?_ rfl ⟨rfl, (HB3.out.setCell (by simp; omega) _).setCell (by simp; omega) _⟩
        simp [results, Try.f65, go_sem, z0, z1]

section
variable {VA IA WA CA : Option Addr} {nV nI nW nC cV cI cW cC : Nat} {l : Lak} {ws : List Wrk} {c : List Int}
set_option maxRecDepth 100000 in
set_option maxHeartbeats 2000000 in
theorem step_c {w : World} (h : RdL w VA nV IA nI l) (hok : LOk l) (a n : Rng) (soft : Bool) (ha : -1000000000 ≤ a.1 ∧ a.1 ≤ 1000000000 ∧ -1000000000 ≤ a.2 ∧ a.2 ≤ 1000000000) (hn : -1000000000 ≤ n.1 ∧ n.1 ≤ 1000000000 ∧ -1000000000 ≤ n.2 ∧ n.2 ≤ 1000000000) :
    Calls Try.prog 95 #[.agg (pA VA nV cV IA nI cI l WA nW cW CA nC cC), .agg #[.int .i64 a.1, .int .i64 a.2], .agg #[.int .i64 n.1, .int .i64 n.2], .int .i64 (if soft then 1 else 0)] w fun e w' =>
      e = .returned (.tuple #[.agg #[.int .i64 (stepR (bdK l soft) a n).1.1, .int .i64 (stepR (bdK l soft) a n).1.2], .int .i64 (stepR (bdK l soft) a n).2]) ∧ Below w.heap.size w w' := by
  obtain ⟨a1, a2⟩ := a
  obtain ⟨n1, n2⟩ := n
  obtain ⟨W, hW⟩ : ∃ W, W = (((w.alloc (.cells (pA VA nV cV IA nI cI l WA nW cW CA nC cC) 126)).alloc (.cells #[.int .i64 a1, .int .i64 a2] 35)).alloc (.cells #[.int .i64 n1, .int .i64 n2] 35)).alloc (.cells #[.int .i64 0, .int .i64 0] 35) := ⟨_, rfl⟩
  have hb0 : Below w.heap.size w W := by rw [hW]; exact ((((Below.refl _ w).alloc (Nat.le_refl _) _).alloc (by simp) _).alloc (by simp; omega) _).alloc (by simp; omega) _
  have hp := (((Blk.new w 126 (pA VA nV cV IA nI cI l WA nW cW CA nC cC)).alloc (.cells #[.int .i64 a1, .int .i64 a2] 35)).alloc (.cells #[.int .i64 n1, .int .i64 n2] 35)).alloc (.cells #[.int .i64 0, .int .i64 0] 35)
  have hx := ((Blk.new (w.alloc (.cells (pA VA nV cV IA nI cI l WA nW cW CA nC cC) 126)) 35 #[.int .i64 a1, .int .i64 a2]).alloc (.cells #[.int .i64 n1, .int .i64 n2] 35)).alloc (.cells #[.int .i64 0, .int .i64 0] 35)
  have hy := (Blk.new ((w.alloc (.cells (pA VA nV cV IA nI cI l WA nW cW CA nC cC) 126)).alloc (.cells #[.int .i64 a1, .int .i64 a2] 35)) 35 #[.int .i64 n1, .int .i64 n2]).alloc (.cells #[.int .i64 0, .int .i64 0] 35)
  have hz := Blk.new (((w.alloc (.cells (pA VA nV cV IA nI cI l WA nW cW CA nC cC) 126)).alloc (.cells #[.int .i64 a1, .int .i64 a2] 35)).alloc (.cells #[.int .i64 n1, .int .i64 n2] 35)) 35 #[.int .i64 0, .int .i64 0]
  simp only [World.size_alloc] at hx hy hz hp
  rw [← hW] at hx hy hz hp
  have HBD := Lib.hid (fun (U : World) (hU : Below w.heap.size w U) => bound_c (cV := cV) (cI := cI) (WA := WA) (nW := nW) (cW := cW) (CA := CA) (nC := nC) (cC := cC) (h.below hU) hok soft)
  have hwk := hok.weakV
  have hbd : 0 < bdK l soft ∧ bdK l soft ≤ 1000000 := by cases soft <;> simp only [bdK] <;> simp <;> omega
  have HB := Lib.hid hb0; have HW := Lib.hid hW; have HX := Lib.hid hx; have HY := Lib.hid hy; have HZ := Lib.hid hz; have HP := Lib.hid hp
  have HN := Lib.hid none_c
  obtain ⟨bd, hbdE⟩ : ∃ bd, bd = bdK l soft := ⟨_, rfl⟩
  rw [← hbdE] at HBD hbd ⊢
  have HBE := Lib.hid hbdE
  obtain ⟨kd, hkd⟩ : ∃ kd : Int, kd = if soft then 1 else 0 := ⟨_, rfl⟩
  rw [← hkd] at HBD ⊢
  clear hkd
  clear hb0 hW hx hy hz hp hok h hwk hbdE
  have heA := fun W => run_eql_rng a1 a2 1 0 W
  by_cases h1 : (a1, a2) = noneR
  · have hR : stepR bd (a1, a2) (n1, n2) = (noneR, -1) := by unfold stepR; rw [if_pos h1]
    rw [hR]
    cases h1
    rw [decide_eq_true (And.intro rfl rfl)] at heA
    clear hR
    have c0 := HX.out.cell 0; have c1 := HX.out.cell 1
    simp at c0 c1
    go_enter Try.func95, Try.ntmps95
    go_wp2_with fail
    rw [← HW.out]
    have HN1 := Lib.hid (HN.out W.drew)
    go_region_held3 (fun w' => w'.cell? ⟨w.heap.size + 1, 0, none⟩ = some (.int .i64 1) ∧ w'.cell? ⟨w.heap.size + 1, 1, none⟩ = some (.int .i64 0))
      (first | exact ⟨c0, c1⟩ | exact ⟨s0, s1⟩ | (go_keep; done))
      (first | (go_at_call 66; refine HN1.out.mono ?_; rintro e w3 ⟨rfl, hb3⟩; have hb3' := (Below.refl W.heap.size W).drew.trans hb3; have hx3 := HX.out.below hb3' HX.out.lt; have s0 := hx3.cell 0; have s1 := hx3.cell 1; simp at s0 s1))
    all_goals
      have HB3 := Lib.hid (below_tr HB.out hb3')
      have HZ3 := Lib.hid (HZ.out.below hb3' HZ.out.lt)
      clear hx3 hb3' hb3 HN1 s0 s1
      have HN2 := Lib.hid (HN.out w3)
      go_wp2_with (go_at_call 66; refine HN2.out.mono ?_; rintro e w4 ⟨rfl, hb4⟩; have hz4 := HZ3.out.below hb4 HZ3.out.lt; have z0 := hz4.cell 0; have z1 := hz4.cell 1; have f0 := hz4.frozen 0; have f1 := hz4.frozen 1; simp at z0 z1)
      have hz5 := (hz4.set_ 0 (.int .i64 1)).set_ 1 (.int .i64 0)
      have y0 := hz5.cell 0; have y1 := hz5.cell 1
      simp at y0 y1
      have HB4 := Lib.hid (below_tr HB3.out hb4)
      clear hz4 hz5 hb4
      refine bodyPost_ret (v := .tuple #[.agg #[.int .i64 1, .int .i64 0], .int .i64 (-1)]) ?_ rfl ⟨rfl, (HB4.out.setCell (by simp; omega) _).setCell (by simp; omega) _⟩
      simp [results, Try.f95, go_sem, y0, y1]
  · have hR : stepR bd (a1, a2) (n1, n2) = (if bd ≤ max 0 (a1 + n1) then noneR else (max 0 (a1 + n1), min (max 0 (a2 + n2)) (bd - 1)), if bd ≤ max 0 (a2 + n2) then max 0 (a2 + n2) else -1) := by unfold stepR; rw [if_neg h1]
    have HR := Lib.hid hR
    rw [rng_ne' h1] at heA
    have c0 := HX.out.cell 0; have c1 := HX.out.cell 1
    simp at c0 c1
    clear hR h1
    go_enter Try.func95, Try.ntmps95
    go_wp2_with fail
    rw [← HW.out]
    have HN1 := Lib.hid (HN.out W.drew)
    go_region_held3 (fun w' => w'.cell? ⟨w.heap.size + 1, 0, none⟩ = some (.int .i64 a1) ∧ w'.cell? ⟨w.heap.size + 1, 1, none⟩ = some (.int .i64 a2))
      (first | exact ⟨c0, c1⟩ | exact ⟨s0, s1⟩ | (go_keep; done))
      (first | (go_at_call 66; refine HN1.out.mono ?_; rintro e wb ⟨rfl, hb3⟩; have hb3' := (Below.refl W.heap.size W).drew.trans hb3; have hx3 := HX.out.below hb3' HX.out.lt; have s0 := hx3.cell 0; have s1 := hx3.cell 1; simp at s0 s1))
    all_goals
      have HX3 := Lib.hid hx3
      have HY3 := Lib.hid (HY.out.below hb3' HY.out.lt)
      have HB3 := Lib.hid (below_tr HB.out hb3')
      have HZ3 := Lib.hid (HZ.out.below hb3' HZ.out.lt)
      have HP3 := Lib.hid (HP.out.below hb3' HP.out.lt)
      clear hx3 hb3' hb3 HN1 s0 s1 c0 c1 heA
      go_wp2_with fail
      have hsW : w.heap.size + 1 + 1 + 1 < wb.heap.size := HZ3.out.lt
      go_cut [10] (fun pv wx => ∃ B, pv = .pointer (some ⟨B, 0, none⟩) ∧ wb.heap.size ≤ B ∧ Blk wx B 35 #[.int .i64 (max 0 (a1 + n1)), .int .i64 (max 0 (a2 + n2))] ∧ Below wb.heap.size wb wx)
      case first =>
        have c0 := HX3.out.cell 0; have c1 := HX3.out.cell 1; have d0 := HY3.out.cell 0; have d1 := HY3.out.cell 1
        simp at c0 c1 d0 d1
        have hw1 : IntKind.i64.wrap (a1 + n1) = a1 + n1 := wi (by omega)
        have hw2 : IntKind.i64.wrap (a2 + n2) = a2 + n2 := wi (by omega)
        go_wp2_with fail
        go_region_held3 (fun w' => w'.cell? ⟨w.heap.size + 1, 0, none⟩ = some (.int .i64 a1) ∧ w'.cell? ⟨w.heap.size + 1, 1, none⟩ = some (.int .i64 a2) ∧ w'.cell? ⟨w.heap.size + 1 + 1, 0, none⟩ = some (.int .i64 n1) ∧ w'.cell? ⟨w.heap.size + 1 + 1, 1, none⟩ = some (.int .i64 n2))
          (first | exact ⟨c0, c1, d0, d1⟩ | (((repeat' apply And.intro); all_goals (refine bel_keep (w := wb) ?_ (by assumption); repeat' (first | exact Below.refl _ _ | refine Below.drew ?_ | refine Below.alloc ?_ (by first | exact Nat.le_refl _ | (simp; done) | (simp; omega) | fail) _ | refine Below.setCell ?_ (by first | exact Nat.le_refl _ | (simp; done) | (simp; omega) | fail) _ | fail))); done))
          (first
            | (go_at_call 76; (first | with_reducible refine (greatest_c (rd0 wb)).mono ?_ | with_reducible refine (greatest_c (rd_drew (rd0 wb))).mono ?_ | with_reducible refine (greatest_c (rd_alloc (rd0 wb))).mono ?_ | with_reducible refine (greatest_c (rd_drew (rd_alloc (rd0 wb)))).mono ?_ | with_reducible refine (greatest_c (rd_alloc (rd_drew (rd0 wb)))).mono ?_ | with_reducible refine (greatest_c (rd_alloc (rd_alloc (rd0 wb)))).mono ?_ | with_reducible refine (greatest_c (rd_drew (rd_alloc (rd_alloc (rd0 wb))))).mono ?_ | with_reducible refine (greatest_c (rd_alloc (rd_drew (rd_alloc (rd0 wb))))).mono ?_ | with_reducible refine (greatest_c (rd_alloc (rd_alloc (rd_drew (rd0 wb))))).mono ?_ | with_reducible refine (greatest_c (rd1 wb)).mono ?_ | with_reducible refine (greatest_c (rd_drew (rd1 wb))).mono ?_ | with_reducible refine (greatest_c (rd_alloc (rd1 wb))).mono ?_ | with_reducible refine (greatest_c (rd_drew (rd_alloc (rd1 wb)))).mono ?_ | with_reducible refine (greatest_c (rd_alloc (rd_drew (rd1 wb)))).mono ?_ | with_reducible refine (greatest_c (rd_alloc (rd_alloc (rd1 wb)))).mono ?_ | with_reducible refine (greatest_c (rd_drew (rd_alloc (rd_alloc (rd1 wb))))).mono ?_ | with_reducible refine (greatest_c (rd_alloc (rd_drew (rd_alloc (rd1 wb))))).mono ?_ | with_reducible refine (greatest_c (rd_alloc (rd_alloc (rd_drew (rd1 wb))))).mono ?_ | with_reducible refine (greatest_c (rd1d wb)).mono ?_ | with_reducible refine (greatest_c (rd_drew (rd1d wb))).mono ?_ | with_reducible refine (greatest_c (rd_alloc (rd1d wb))).mono ?_ | with_reducible refine (greatest_c (rd_drew (rd_alloc (rd1d wb)))).mono ?_ | with_reducible refine (greatest_c (rd_alloc (rd_drew (rd1d wb)))).mono ?_ | with_reducible refine (greatest_c (rd_alloc (rd_alloc (rd1d wb)))).mono ?_ | with_reducible refine (greatest_c (rd_drew (rd_alloc (rd_alloc (rd1d wb))))).mono ?_ | with_reducible refine (greatest_c (rd_alloc (rd_drew (rd_alloc (rd1d wb))))).mono ?_ | with_reducible refine (greatest_c (rd_alloc (rd_alloc (rd_drew (rd1d wb))))).mono ?_ | with_reducible refine (greatest_c (rd2 wb)).mono ?_ | with_reducible refine (greatest_c (rd_drew (rd2 wb))).mono ?_ | with_reducible refine (greatest_c (rd_alloc (rd2 wb))).mono ?_ | with_reducible refine (greatest_c (rd_drew (rd_alloc (rd2 wb)))).mono ?_ | with_reducible refine (greatest_c (rd_alloc (rd_drew (rd2 wb)))).mono ?_ | with_reducible refine (greatest_c (rd_alloc (rd_alloc (rd2 wb)))).mono ?_ | with_reducible refine (greatest_c (rd_drew (rd_alloc (rd_alloc (rd2 wb))))).mono ?_ | with_reducible refine (greatest_c (rd_alloc (rd_drew (rd_alloc (rd2 wb))))).mono ?_ | with_reducible refine (greatest_c (rd_alloc (rd_alloc (rd_drew (rd2 wb))))).mono ?_ | with_reducible refine (greatest_c (rd2d wb)).mono ?_ | with_reducible refine (greatest_c (rd_drew (rd2d wb))).mono ?_ | with_reducible refine (greatest_c (rd_alloc (rd2d wb))).mono ?_ | with_reducible refine (greatest_c (rd_drew (rd_alloc (rd2d wb)))).mono ?_ | with_reducible refine (greatest_c (rd_alloc (rd_drew (rd2d wb)))).mono ?_ | with_reducible refine (greatest_c (rd_alloc (rd_alloc (rd2d wb)))).mono ?_ | with_reducible refine (greatest_c (rd_drew (rd_alloc (rd_alloc (rd2d wb))))).mono ?_ | with_reducible refine (greatest_c (rd_alloc (rd_drew (rd_alloc (rd2d wb))))).mono ?_ | with_reducible refine (greatest_c (rd_alloc (rd_alloc (rd_drew (rd2d wb))))).mono ?_ | with_reducible refine (greatest_c (rd2e wb)).mono ?_ | with_reducible refine (greatest_c (rd_drew (rd2e wb))).mono ?_ | with_reducible refine (greatest_c (rd_alloc (rd2e wb))).mono ?_ | with_reducible refine (greatest_c (rd_drew (rd_alloc (rd2e wb)))).mono ?_ | with_reducible refine (greatest_c (rd_alloc (rd_drew (rd2e wb)))).mono ?_ | with_reducible refine (greatest_c (rd_alloc (rd_alloc (rd2e wb)))).mono ?_ | with_reducible refine (greatest_c (rd_drew (rd_alloc (rd_alloc (rd2e wb))))).mono ?_ | with_reducible refine (greatest_c (rd_alloc (rd_drew (rd_alloc (rd2e wb))))).mono ?_ | with_reducible refine (greatest_c (rd_alloc (rd_alloc (rd_drew (rd2e wb))))).mono ?_); rintro e w3 ⟨rfl, rfl⟩))
        all_goals
          go_wp2_with fail
          go_meet
          refine ⟨_, rfl, by omega, ?_, ?_⟩
          · first | with_reducible exact (bk0 wb) | with_reducible exact (bk_drew (bk0 wb)) | with_reducible exact (bk_alloc (bk0 wb)) | with_reducible exact (bk_drew (bk_alloc (bk0 wb))) | with_reducible exact (bk_alloc (bk_drew (bk0 wb))) | with_reducible exact (bk_alloc (bk_alloc (bk0 wb))) | with_reducible exact (bk_drew (bk_alloc (bk_alloc (bk0 wb)))) | with_reducible exact (bk_alloc (bk_drew (bk_alloc (bk0 wb)))) | with_reducible exact (bk_alloc (bk_alloc (bk_drew (bk0 wb)))) | with_reducible exact (bk1 wb) | with_reducible exact (bk_drew (bk1 wb)) | with_reducible exact (bk_alloc (bk1 wb)) | with_reducible exact (bk_drew (bk_alloc (bk1 wb))) | with_reducible exact (bk_alloc (bk_drew (bk1 wb))) | with_reducible exact (bk_alloc (bk_alloc (bk1 wb))) | with_reducible exact (bk_drew (bk_alloc (bk_alloc (bk1 wb)))) | with_reducible exact (bk_alloc (bk_drew (bk_alloc (bk1 wb)))) | with_reducible exact (bk_alloc (bk_alloc (bk_drew (bk1 wb)))) | with_reducible exact (bk1d wb) | with_reducible exact (bk_drew (bk1d wb)) | with_reducible exact (bk_alloc (bk1d wb)) | with_reducible exact (bk_drew (bk_alloc (bk1d wb))) | with_reducible exact (bk_alloc (bk_drew (bk1d wb))) | with_reducible exact (bk_alloc (bk_alloc (bk1d wb))) | with_reducible exact (bk_drew (bk_alloc (bk_alloc (bk1d wb)))) | with_reducible exact (bk_alloc (bk_drew (bk_alloc (bk1d wb)))) | with_reducible exact (bk_alloc (bk_alloc (bk_drew (bk1d wb)))) | with_reducible exact (bk2 wb) | with_reducible exact (bk_drew (bk2 wb)) | with_reducible exact (bk_alloc (bk2 wb)) | with_reducible exact (bk_drew (bk_alloc (bk2 wb))) | with_reducible exact (bk_alloc (bk_drew (bk2 wb))) | with_reducible exact (bk_alloc (bk_alloc (bk2 wb))) | with_reducible exact (bk_drew (bk_alloc (bk_alloc (bk2 wb)))) | with_reducible exact (bk_alloc (bk_drew (bk_alloc (bk2 wb)))) | with_reducible exact (bk_alloc (bk_alloc (bk_drew (bk2 wb)))) | with_reducible exact (bk2d wb) | with_reducible exact (bk_drew (bk2d wb)) | with_reducible exact (bk_alloc (bk2d wb)) | with_reducible exact (bk_drew (bk_alloc (bk2d wb))) | with_reducible exact (bk_alloc (bk_drew (bk2d wb))) | with_reducible exact (bk_alloc (bk_alloc (bk2d wb))) | with_reducible exact (bk_drew (bk_alloc (bk_alloc (bk2d wb)))) | with_reducible exact (bk_alloc (bk_drew (bk_alloc (bk2d wb)))) | with_reducible exact (bk_alloc (bk_alloc (bk_drew (bk2d wb)))) | with_reducible exact (bk2e wb) | with_reducible exact (bk_drew (bk2e wb)) | with_reducible exact (bk_alloc (bk2e wb)) | with_reducible exact (bk_drew (bk_alloc (bk2e wb))) | with_reducible exact (bk_alloc (bk_drew (bk2e wb))) | with_reducible exact (bk_alloc (bk_alloc (bk2e wb))) | with_reducible exact (bk_drew (bk_alloc (bk_alloc (bk2e wb)))) | with_reducible exact (bk_alloc (bk_drew (bk_alloc (bk2e wb)))) | with_reducible exact (bk_alloc (bk_alloc (bk_drew (bk2e wb))))
          · repeat' (first | exact Below.refl _ _ | refine Below.drew ?_ | refine Below.alloc ?_ (by simp <;> omega) _)
      case rest =>
        obtain ⟨B, rfl, hBw, hbk, hb4⟩ := hcut
        have nB1 : ¬ (w.heap.size + 1 + 1 + 1 = B) := by omega
        have nB2 : ¬ (B = w.heap.size + 1 + 1 + 1) := by omega
        obtain ⟨wd, hwd⟩ : ∃ wd, wd = wc := ⟨_, rfl⟩
        rw [← hwd] at hbk hb4 ⊢
        have HP4 := Lib.hid (HP3.out.below hb4 HP3.out.lt)
        have HB4 := Lib.hid (below_tr HB3.out hb4)
        have HZ4 := Lib.hid (HZ3.out.below hb4 HZ3.out.lt)
        have HR4 := Lib.hid hbk
        have pc : ∀ i, wd.cell? ⟨w.heap.size, i, none⟩ = (pA VA nV cV IA nI cI l WA nW cW CA nC cC)[i]? := fun i => HP4.out.cell i
        have p0 := pc 0; have p1 := pc 1; have p2 := pc 2; have p3 := pc 3; have p4 := pc 4; have p5 := pc 5; have p6 := pc 6; have p7 := pc 7; have p8 := pc 8; have p9 := pc 9; have p10 := pc 10; have p11 := pc 11
        simp at p0 p1 p2 p3 p4 p5 p6 p7 p8 p9 p10 p11
        have HBC := Lib.hid (HBD.out wd HB4.out)
        obtain ⟨lo, hlo⟩ : ∃ lo, lo = max 0 (a1 + n1) := ⟨_, rfl⟩
        obtain ⟨hi, hhi⟩ : ∃ hi, hi = max 0 (a2 + n2) := ⟨_, rfl⟩
        rw [← hlo, ← hhi] at HR HR4
        have hlo0 : 0 ≤ lo ∧ lo ≤ 2000000000 := by omega
        have hhi0 : 0 ≤ hi ∧ hi ≤ 2000000000 := by omega
        clear hwd hbk hb4 pc HBD HX3 HY3 HZ3 HP3 hlo hhi
        have hwb : IntKind.i64.wrap (bd - 1) = bd - 1 := wi (by omega)
        have hBlt := HR4.out.lt
        by_cases g1 : bd ≤ hi
        · have g1' : ¬ hi < bd := by omega
          rw [if_pos g1] at HR
          by_cases g2 : bd ≤ lo
          · have g2' : ¬ lo < bd := by omega
            rw [if_pos g2] at HR
            go_wp2_with (first | (go_at_call 77; refine HBC.out.mono ?_; rintro e we ⟨rfl, hb5⟩; have hr5 := HR4.out.below hb5 HR4.out.lt; have hz5 := HZ4.out.below hb5 HZ4.out.lt; have r0 := hr5.cell 0; have r1 := hr5.cell 1; have f0 := hz5.frozen 0; have f1 := hz5.frozen 1; have e0 := hz5.cell 0; have e1 := hz5.cell 1; simp at r0 r1 e0 e1; have HR5 := Lib.hid hr5; have HZ5 := Lib.hid hz5; have HB5 := Lib.hid (below_tr HB4.out hb5); clear hr5 hz5 hb5) | (go_at_call 66; refine (HN.out _).mono ?_; rintro e wf ⟨rfl, hb6⟩; have hz6 := HZ5.out.below hb6 HZ5.out.lt; have f0 := hz6.frozen 0; have f1 := hz6.frozen 1; have e0 := hz6.cell 0; have e1 := hz6.cell 1; simp at e0 e1; have HZ6 := Lib.hid hz6; have HB6 := Lib.hid (below_tr HB5.out hb6); clear hz6 hb6))
            have hz7 := (HZ6.out.set_ 0 (.int .i64 1)).set_ 1 (.int .i64 0)
            have y0 := hz7.cell 0; have y1 := hz7.cell 1
            simp at y0 y1
            refine bodyPost_ret (v := .tuple #[.agg #[.int .i64 1, .int .i64 0], .int .i64 hi]) ?_ rfl ⟨by rw [HR.out] <;> rfl, (HB6.out.setCell (by have := HB6.out.size; first | (simp; done) | (simp; omega)) _).setCell (by first | (simp; done) | (simp; omega)) _⟩
            simp [results, Try.f95, go_sem, y0, y1]
          · have g2' : lo < bd := by omega
            rw [if_neg g2] at HR
            go_wp2_with (first | (go_at_call 77; refine HBC.out.mono ?_; rintro e we ⟨rfl, hb5⟩; have hr5 := HR4.out.below hb5 HR4.out.lt; have hz5 := HZ4.out.below hb5 HZ4.out.lt; have r0 := hr5.cell 0; have r1 := hr5.cell 1; have f0 := hz5.frozen 0; have f1 := hz5.frozen 1; have e0 := hz5.cell 0; have e1 := hz5.cell 1; simp at r0 r1 e0 e1; have HR5 := Lib.hid hr5; have HZ5 := Lib.hid hz5; have HB5 := Lib.hid (below_tr HB4.out hb5); clear hr5 hz5 hb5))
            go_region_held3 (fun w' => w'.cell? ⟨B, 0, none⟩ = some (.int .i64 lo) ∧ w'.cell? ⟨B, 1, none⟩ = some (.int .i64 hi))
              (first | exact ⟨r0, r1⟩ | exact ⟨q0, q1⟩ | (simp [World.cell?_setCell_far, nB2, q0, q1]; done) | (simp [World.cell?_setCell_far, nB1, nB2, q0, q1]; done) | (((repeat' apply And.intro); all_goals (refine bel_keep (w := we) ?_ (by assumption); repeat' (first | exact Below.refl _ _ | refine Below.drew ?_ | refine Below.alloc ?_ (by simp <;> omega) _ | fail))); done))
              (first | (go_at_call 96; (first | with_reducible refine (least_c (rd0 we)).mono ?_ | with_reducible refine (least_c (rd_drew (rd0 we))).mono ?_); rintro e wf ⟨rfl, h3⟩; have hb3 : Below we.heap.size we wf := (by rw [← h3]; repeat' (first | exact Below.refl _ _ | refine Below.drew ?_ | refine Below.alloc ?_ (by simp <;> omega) _)); have hr6 := HR5.out.below hb3 HR5.out.lt; have hz6 := HZ5.out.below hb3 HZ5.out.lt; have q0 := hr6.cell 0; have q1 := hr6.cell 1; have f0 := hz6.frozen 0; have f1 := hz6.frozen 1; have e0 := hz6.cell 0; have e1 := hz6.cell 1; simp at q0 q1 e0 e1; have HB6 := Lib.hid (below_tr HB5.out hb3); have HZ6 := Lib.hid hz6))
            all_goals
              have hz7 := (HZ6.out.set_ 0 (.int .i64 lo)).set_ 1 (.int .i64 (min hi (bd - 1)))
              have y0 := hz7.cell 0; have y1 := hz7.cell 1
              simp at y0 y1
              go_wp2_with fail
              refine bodyPost_ret (v := .tuple #[.agg #[.int .i64 lo, .int .i64 (min hi (bd - 1))], .int .i64 hi]) ?_ rfl ⟨by rw [HR.out] <;> rfl, (HB6.out.setCell (by have := HB6.out.size; first | (simp; done) | (simp; omega)) _).setCell (by first | (simp; done) | (simp; omega)) _⟩
              simp [results, Try.f95, go_sem, y0, y1]
        · have g1' : hi < bd := by omega
          rw [if_neg g1] at HR
          by_cases g2 : bd ≤ lo
          · have g2' : ¬ lo < bd := by omega
            rw [if_pos g2] at HR
            go_wp2_with (first | (go_at_call 77; refine HBC.out.mono ?_; rintro e we ⟨rfl, hb5⟩; have hr5 := HR4.out.below hb5 HR4.out.lt; have hz5 := HZ4.out.below hb5 HZ4.out.lt; have r0 := hr5.cell 0; have r1 := hr5.cell 1; have f0 := hz5.frozen 0; have f1 := hz5.frozen 1; have e0 := hz5.cell 0; have e1 := hz5.cell 1; simp at r0 r1 e0 e1; have HR5 := Lib.hid hr5; have HZ5 := Lib.hid hz5; have HB5 := Lib.hid (below_tr HB4.out hb5); clear hr5 hz5 hb5) | (go_at_call 66; refine (HN.out _).mono ?_; rintro e wf ⟨rfl, hb6⟩; have hz6 := HZ5.out.below hb6 HZ5.out.lt; have f0 := hz6.frozen 0; have f1 := hz6.frozen 1; have e0 := hz6.cell 0; have e1 := hz6.cell 1; simp at e0 e1; have HZ6 := Lib.hid hz6; have HB6 := Lib.hid (below_tr HB5.out hb6); clear hz6 hb6))
            have hz7 := (HZ6.out.set_ 0 (.int .i64 1)).set_ 1 (.int .i64 0)
            have y0 := hz7.cell 0; have y1 := hz7.cell 1
            simp at y0 y1
            refine bodyPost_ret (v := .tuple #[.agg #[.int .i64 1, .int .i64 0], .int .i64 (-1)]) ?_ rfl ⟨by rw [HR.out] <;> rfl, (HB6.out.setCell (by have := HB6.out.size; first | (simp; done) | (simp; omega)) _).setCell (by first | (simp; done) | (simp; omega)) _⟩
            simp [results, Try.f95, go_sem, y0, y1]
          · have g2' : lo < bd := by omega
            rw [if_neg g2] at HR
            go_wp2_with (first | (go_at_call 77; refine HBC.out.mono ?_; rintro e we ⟨rfl, hb5⟩; have hr5 := HR4.out.below hb5 HR4.out.lt; have hz5 := HZ4.out.below hb5 HZ4.out.lt; have r0 := hr5.cell 0; have r1 := hr5.cell 1; have f0 := hz5.frozen 0; have f1 := hz5.frozen 1; have e0 := hz5.cell 0; have e1 := hz5.cell 1; simp at r0 r1 e0 e1; have HR5 := Lib.hid hr5; have HZ5 := Lib.hid hz5; have HB5 := Lib.hid (below_tr HB4.out hb5); clear hr5 hz5 hb5))
            go_region_held3 (fun w' => w'.cell? ⟨B, 0, none⟩ = some (.int .i64 lo) ∧ w'.cell? ⟨B, 1, none⟩ = some (.int .i64 hi))
              (first | exact ⟨r0, r1⟩ | exact ⟨q0, q1⟩ | (simp [World.cell?_setCell_far, nB2, q0, q1]; done) | (simp [World.cell?_setCell_far, nB1, nB2, q0, q1]; done) | (((repeat' apply And.intro); all_goals (refine bel_keep (w := we) ?_ (by assumption); repeat' (first | exact Below.refl _ _ | refine Below.drew ?_ | refine Below.alloc ?_ (by simp <;> omega) _ | fail))); done))
              (first | (go_at_call 96; (first | with_reducible refine (least_c (rd0 we)).mono ?_ | with_reducible refine (least_c (rd_drew (rd0 we))).mono ?_); rintro e wf ⟨rfl, h3⟩; have hb3 : Below we.heap.size we wf := (by rw [← h3]; repeat' (first | exact Below.refl _ _ | refine Below.drew ?_ | refine Below.alloc ?_ (by simp <;> omega) _)); have hr6 := HR5.out.below hb3 HR5.out.lt; have hz6 := HZ5.out.below hb3 HZ5.out.lt; have q0 := hr6.cell 0; have q1 := hr6.cell 1; have f0 := hz6.frozen 0; have f1 := hz6.frozen 1; have e0 := hz6.cell 0; have e1 := hz6.cell 1; simp at q0 q1 e0 e1; have HB6 := Lib.hid (below_tr HB5.out hb3); have HZ6 := Lib.hid hz6))
            all_goals
              have hz7 := (HZ6.out.set_ 0 (.int .i64 lo)).set_ 1 (.int .i64 (min hi (bd - 1)))
              have y0 := hz7.cell 0; have y1 := hz7.cell 1
              simp at y0 y1
              go_wp2_with fail
              refine bodyPost_ret (v := .tuple #[.agg #[.int .i64 lo, .int .i64 (min hi (bd - 1))], .int .i64 (-1)]) ?_ rfl ⟨by rw [HR.out] <;> rfl, (HB6.out.setCell (by have := HB6.out.size; first | (simp; done) | (simp; omega)) _).setCell (by first | (simp; done) | (simp; omega)) _⟩
              simp [results, Try.f95, go_sem, y0, y1]
end
end Go.Proofs.Ytpijmfbpdglchaa
