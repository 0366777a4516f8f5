/- THE VALLEY of the document's examples: the contract of glen. -/
import Derived.Test.YtphdndiikikecaaZInts
import Derived.Test.YtphdndiikikecaaZBuy
set_option linter.unusedVariables false
set_option linter.unusedSimpArgs false
namespace Go.Proofs.Ytphdndiikikecaa
open Go.RowKit Go.Proofs
attribute [local go_sem ↓] Go.wp_at_zero Go.wp_at_succ

def glenP : List Par := [⟨100, 80, 5, true⟩, ⟨200, 150, 10, true⟩, ⟨150, 100, 4, false⟩, ⟨300, 400, 20, true⟩]
def glenV (a b c : Nat) : Vly := ⟨glenP, [⟨some ⟨a, 0, none⟩, 3, 3, [2, 1, 3], 30, 1, 2⟩, ⟨some ⟨b, 0, none⟩, 2, 2, [0, 1], 25, 0, 2⟩, ⟨some ⟨c, 0, none⟩, 1, 1, [3], 200, 0, 1⟩], 10, 50, 200⟩
theorem Rd.of_blkE {α : Type} {enc : α → List Value} {k n : Nat} {w : World} {g : Nat} {t : TypeId} {cs : Array Value} {l : List α} (henc : ∀ x, (enc x).length = k) (h : Blk w g t cs) (hc : l.flatMap enc = cs.toList) (hl : l.length = n) : Rd enc k w (some ⟨g, 0, none⟩) n l := by
  refine ⟨hl, fun _ => ⟨g, 0, rfl, h.lt, fun i x hx j u hu => ?_⟩⟩
  have := flatMap_get henc l i x j u hx hu
  rw [hc, Array.getElem?_toList] at this
  rw [Nat.zero_add, h.cell, this]

set_option maxRecDepth 100000 in
set_option maxHeartbeats 1000000 in
theorem glen_c (w : World) : Calls Try.prog 51 #[] w fun e w' => ∃ p q a b c, e = .returned (.agg #[.slice (some ⟨p, 0, none⟩) 4 4, .slice (some ⟨q, 0, none⟩) 3 3, .int .i64 10, .int .i64 50, .int .i64 200]) ∧ RdV w' (some ⟨p, 0, none⟩) 4 (some ⟨q, 0, none⟩) 3 (glenV a b c) ∧ Below w.heap.size w w' := by
  go_enter Try.func51, Try.ntmps51
  go_wp2_with fail
  refine (span_c 1 2 _).mono ?_
  rintro e w1 ⟨rfl, hb1⟩
  have x0 := ((Blk.new w 36 #[.slice none 0 0, .slice none 0 0, .int .i64 0, .int .i64 0, .int .i64 0]).alloc (.cells #[.int .i64 100, .int .i64 80, .int .i64 5, .bool true, .int .i64 200, .int .i64 150, .int .i64 10, .bool true, .int .i64 150, .int .i64 100, .int .i64 4, .bool false, .int .i64 300, .int .i64 400, .int .i64 20, .bool true] 111)).alloc (.cells #[.int .i64 2, .int .i64 1, .int .i64 3] 3)
  have xP := (Blk.new (w.alloc (.cells #[.slice none 0 0, .slice none 0 0, .int .i64 0, .int .i64 0, .int .i64 0] 36)) 111 #[.int .i64 100, .int .i64 80, .int .i64 5, .bool true, .int .i64 200, .int .i64 150, .int .i64 10, .bool true, .int .i64 150, .int .i64 100, .int .i64 4, .bool false, .int .i64 300, .int .i64 400, .int .i64 20, .bool true]).alloc (.cells #[.int .i64 2, .int .i64 1, .int .i64 3] 3)
  have xa := Blk.new ((w.alloc (.cells #[.slice none 0 0, .slice none 0 0, .int .i64 0, .int .i64 0, .int .i64 0] 36)).alloc (.cells #[.int .i64 100, .int .i64 80, .int .i64 5, .bool true, .int .i64 200, .int .i64 150, .int .i64 10, .bool true, .int .i64 150, .int .i64 100, .int .i64 4, .bool false, .int .i64 300, .int .i64 400, .int .i64 20, .bool true] 111)) 3 #[.int .i64 2, .int .i64 1, .int .i64 3]
  simp only [World.size_alloc] at xP xa
  have y0 := x0.below hb1 x0.lt; have yP := xP.below hb1 xP.lt; have ya := xa.below hb1 xa.lt
  have hB1 : Below w.heap.size w w1 := ((((Below.refl _ w).alloc (Nat.le_refl _) _).alloc (by simp) _).alloc (by simp; omega) _).trans (hb1.mono (by simp; omega))
  have Y0 := Lib.hid y0; have YP := Lib.hid yP; have YA := Lib.hid ya; have HB1 := Lib.hid hB1
  have hw1 : w.heap.size + 3 ≤ w1.heap.size := by have := hb1.size; simp at this; omega
  clear x0 xP xa y0 yP ya hb1 hB1
  go_wp2_with fail
  refine (span_c 0 2 _).mono ?_
  rintro e w2 ⟨rfl, hb2⟩
  have xb := Blk.new w1 3 #[.int .i64 0, .int .i64 1]
  have Z0 := Lib.hid ((Y0.out.alloc _).below hb2 (Y0.out.alloc _).lt); have ZP := Lib.hid ((YP.out.alloc _).below hb2 (YP.out.alloc _).lt); have ZA := Lib.hid ((YA.out.alloc _).below hb2 (YA.out.alloc _).lt); have ZB := Lib.hid (xb.below hb2 xb.lt)
  have HB2 := Lib.hid ((HB1.out.alloc HB1.out.size _).trans (hb2.mono (by have := HB1.out.size; simp; omega)))
  have hw2 : w1.heap.size + 1 ≤ w2.heap.size := by have := hb2.size; simp at this; omega
  clear xb hb2 Y0 YP YA
  go_wp2_with fail
  refine (span_c 0 1 _).mono ?_
  rintro e w3 ⟨rfl, hb3⟩
  have xc := Blk.new w2 3 #[.int .i64 3]
  have U0 := Lib.hid ((Z0.out.alloc _).below hb3 (Z0.out.alloc _).lt); have UP := Lib.hid ((ZP.out.alloc _).below hb3 (ZP.out.alloc _).lt); have UA := Lib.hid ((ZA.out.alloc _).below hb3 (ZA.out.alloc _).lt); have UB := Lib.hid ((ZB.out.alloc _).below hb3 (ZB.out.alloc _).lt); have UC := Lib.hid (xc.below hb3 xc.lt)
  have HB3 := Lib.hid ((HB2.out.alloc HB2.out.size _).trans (hb3.mono (by have := HB2.out.size; simp; omega)))
  clear xc hb3 Z0 ZP ZA ZB
  have hlt0 := U0.out.lt
  have g0 := U0.out.cell 0; have g1 := U0.out.cell 1; have g2 := U0.out.cell 2; have g3 := U0.out.cell 3; have g4 := U0.out.cell 4
  have f0 := U0.out.frozen 0; have f1 := U0.out.frozen 1; have f2 := U0.out.frozen 2; have f3 := U0.out.frozen 3; have f4 := U0.out.frozen 4
  simp at g0 g1 g2 g3 g4
  have hne : ¬ w.heap.size = w3.heap.size := by omega
  go_wp2_with fail
  obtain ⟨W5, hW5⟩ : ∃ W5 : World, W5 = ((((w3.setCell ⟨w.heap.size, 0, none⟩ (.slice (some ⟨w.heap.size + 1, 0, none⟩) 4 4)).setCell ⟨w.heap.size, 1, none⟩ (.slice (some ⟨w3.heap.size, 0, none⟩) 3 3)).setCell ⟨w.heap.size, 2, none⟩ (.int .i64 10)).setCell ⟨w.heap.size, 3, none⟩ (.int .i64 50)).setCell ⟨w.heap.size, 4, none⟩ (.int .i64 200) := ⟨_, rfl⟩
  have F5 : Fr (fun b => b = w.heap.size) w3 W5 := by
    rw [hW5]
    have q0 := Fr.refl (fun b => b = w.heap.size) w3
    have q1 := q0.setAt (p := ⟨w.heap.size, 0, none⟩) (.inl rfl) (.slice (some ⟨w.heap.size + 1, 0, none⟩) 4 4)
    have q2 := q1.setAt (p := ⟨w.heap.size, 1, none⟩) (.inl rfl) (.slice (some ⟨w3.heap.size, 0, none⟩) 3 3)
    have q3 := q2.setAt (p := ⟨w.heap.size, 2, none⟩) (.inl rfl) (.int .i64 10)
    have q4 := q3.setAt (p := ⟨w.heap.size, 3, none⟩) (.inl rfl) (.int .i64 50)
    exact q4.setAt (p := ⟨w.heap.size, 4, none⟩) (.inl rfl) (.int .i64 200)
  have x5 := (((((U0.out.set_ 0 (.slice (some ⟨w.heap.size + 1, 0, none⟩) 4 4)).set_ 1 (.slice (some ⟨w3.heap.size, 0, none⟩) 3 3)).set_ 2 (.int .i64 10)).set_ 3 (.int .i64 50)).set_ 4 (.int .i64 200))
  rw [← hW5] at x5 ⊢
  have hs5 : W5.heap.size = w3.heap.size := by rw [hW5]; simp
  have hB5 : Below w.heap.size w W5 := HB3.out.trans (F5.below (Nat.le_of_lt hlt0) (fun b hb => by omega))
  clear hW5
  obtain ⟨SC, hSC⟩ : ∃ SC : Array Value, SC = #[.slice (some ⟨w.heap.size + 1 + 1, 0, none⟩) 3 3, .int .i64 30, .int .i64 1, .int .i64 2, .slice (some ⟨w1.heap.size, 0, none⟩) 2 2, .int .i64 25, .int .i64 0, .int .i64 2, .slice (some ⟨w2.heap.size, 0, none⟩) 1 1, .int .i64 200, .int .i64 0, .int .i64 1] := ⟨_, rfl⟩
  rw [← hSC]
  have hal : Below W5.heap.size W5 (W5.alloc (.cells SC 103)) := (Below.refl _ _).alloc (Nat.le_refl _) _
  have y5 := x5.below hal x5.lt
  have c0 := y5.cell 0; have c1 := y5.cell 1; have c2 := y5.cell 2; have c3 := y5.cell 3; have c4 := y5.cell 4
  simp at c0 c1 c2 c3 c4
  have hs2 : w1.heap.size + 1 ≤ w2.heap.size := hw2
  have hP := (F5.blk UP.out (by omega)).below hal (by have := UP.out.lt; omega)
  have hA := (F5.blk UA.out (by omega)).below hal (by have := UA.out.lt; omega)
  have hlb := UB.out.lt; have hlc := UC.out.lt
  have hBb := (F5.blk UB.out (by omega)).below hal (by omega)
  have hC := (F5.blk UC.out (by omega)).below hal (by omega)
  have hS := Blk.new W5 103 SC
  rw [hs5] at hS
  refine bodyPost_ret (v := .agg #[.slice (some ⟨w.heap.size + 1, 0, none⟩) 4 4, .slice (some ⟨w3.heap.size, 0, none⟩) 3 3, .int .i64 10, .int .i64 50, .int .i64 200]) ?_ rfl ⟨w.heap.size + 1, w3.heap.size, w.heap.size + 1 + 1, w1.heap.size, w2.heap.size, rfl, ⟨?_, ?_, ?_⟩, ?_⟩
  · simp [results, Try.f51, go_sem, c0, c1, c2, c3, c4]
  · exact Rd.of_blkE encP_len hP (by simp [glenV, glenP, encP]) rfl
  · exact Rd.of_blkE encS_len hS (by rw [hSC]; simp [glenV, encS]) rfl
  · intro i s hs
    have hi : i = 0 ∨ i = 1 ∨ i = 2 := by have := (List.getElem?_eq_some_iff.1 hs).1; simp [glenV] at this; omega
    rcases hi with rfl | rfl | rfl
    · simp [glenV] at hs; subst hs
      exact ⟨Rd.of_blkE enc1_len hA (by simp [enc1]) rfl, by unfold maxLen; simp, by simp⟩
    · simp [glenV] at hs; subst hs
      exact ⟨Rd.of_blkE enc1_len hBb (by simp [enc1]) rfl, by unfold maxLen; simp, by simp⟩
    · simp [glenV] at hs; subst hs
      exact ⟨Rd.of_blkE enc1_len hC (by simp [enc1]) rfl, by unfold maxLen; simp, by simp⟩
  · exact hB5.alloc hB5.size _
end Go.Proofs.Ytphdndiikikecaa
