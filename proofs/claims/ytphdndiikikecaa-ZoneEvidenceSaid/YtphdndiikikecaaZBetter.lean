/- THE CONTRACT of zone.better. -/
import Derived.Test.YtphdndiikikecaaZCoin
namespace Go.Proofs.Ytphdndiikikecaa
open Go.RowKit Go.Proofs

theorem run_eql_bought (a b c d : Int) (W : World) : (binOp .eql 117 (.agg #[.int .i64 a, .int .i64 b]) (.agg #[.int .i64 c, .int .i64 d])).run Try.prog W = .ok (.bool (decide (a = c ∧ b = d))) W := by
  rw [run_eql_struct]
  have : (Op.equalIn 10000 117 (.agg #[.int .i64 a, .int .i64 b]) (.agg #[.int .i64 c, .int .i64 d])).run Try.prog W = .ok (decide (a = c ∧ b = d)) W := by
    simp [go_sem, Try.underlying117]
    by_cases h1 : a = c <;> by_cases h2 : b = d <;> simp [h1, h2]
  rw [this]; rfl

theorem rd_two (w : World) (a b : Int) {g : Nat} (hg : g = w.heap.size) : Rd enc1 1 (w.alloc (.cells #[.int .i64 a, .int .i64 b] 3)) (some ⟨g, 0, none⟩) 2 [a, b] := by
  subst hg
  refine ⟨rfl, fun _ => ⟨w.heap.size, 0, rfl, by simp, fun i x hx j u hu => ?_⟩⟩
  have hj : j = 0 := by
    have := (List.getElem?_eq_some_iff.1 hu).1
    simp [enc1] at this; exact this
  subst hj
  simp [enc1] at hu
  subst hu
  have hc := (Blk.new w 3 #[.int .i64 a, .int .i64 b]).cell i
  have hi : i = 0 ∨ i = 1 := by have := (List.getElem?_eq_some_iff.1 hx).1; simp at this; omega
  rcases hi with rfl | rfl
  · simp at hx; subst hx; simp
  · simp at hx; subst hx; simp
set_option maxRecDepth 100000 in
set_option maxHeartbeats 1000000 in
theorem better_c {g c : Int} {b : Bst} {l : List Int} {A A' : Option Addr} {n n' cp cp' : Nat} {w : World} (h : Rd enc1 1 w A n l) (h' : Rd enc1 1 w A' n' b.set) (hn : n ≤ 1000000) (hn' : n' ≤ 1000000)
    (hb : -1000000000000 ≤ g ∧ g ≤ 1000000000000 ∧ -1000000000000 ≤ c ∧ c ≤ 1000000000000) (hb' : -1000000000000 ≤ b.gain ∧ b.gain ≤ 1000000000000 ∧ -1000000000000 ≤ b.cost ∧ b.cost ≤ 1000000000000) :
    Calls Try.prog 66 #[.agg #[.int .i64 g, .int .i64 c], .agg #[.int .i64 b.gain, .int .i64 b.cost], .slice A n cp, .slice A' n' cp'] w fun e w' => e = .returned (.bool (betterB g c l b)) ∧ Below w.heap.size w w' := by
  obtain ⟨G, C, S⟩ := b
  simp only at h' hb' ⊢
  have b2 : Below w.heap.size w ((w.alloc (.cells #[.int .i64 g, .int .i64 c] 117)).alloc (.cells #[.int .i64 G, .int .i64 C] 117)) := ((Below.refl _ w).alloc (Nat.le_refl _) _).alloc (by simp) _
  have HB := Lib.hid b2
  have hR : betterB g c l ⟨G, C, S⟩ = if g = G ∧ c = C then decide (cmpL l S < 0) else decide (orL [G - g, c - C] < 0) := by
    unfold betterB
    simp only [orL_two]
    by_cases h1 : g = G ∧ c = C
    · rw [if_pos h1, if_pos h1]
    · rw [if_neg h1, if_neg h1]
      split <;> rfl
  by_cases heq : g = G ∧ c = C
  · rw [if_pos heq] at hR
    obtain ⟨rfl, rfl⟩ := heq
    have HR := Lib.hid hR
    have HC := Lib.hid (CompareL_c (c := cp) (c' := cp') (h.below b2) (h'.below b2) hn hn')
    clear hR b2
    go_enter Try.func66, Try.ntmps66
    go_wp2_with (go_at_call 86; refine HC.out.mono ?_; rintro e w' ⟨rfl, rfl⟩)
    go_ret
    exact ⟨ret_bool HR.out.symm, HB.out⟩
  · rw [if_neg heq] at hR
    have HR := Lib.hid hR
    have hw1 : IntKind.i64.wrap (G - g) = G - g := wi (by omega)
    have hw2 : IntKind.i64.wrap (c - C) = c - C := wi (by omega)
    have hcap := rd_two ((w.alloc (.cells #[.int .i64 g, .int .i64 c] 117)).alloc (.cells #[.int .i64 G, .int .i64 C] 117)) (G - g) (c - C) (g := w.heap.size + 1 + 1) (by simp)
    have HC := Lib.hid (Or_c (c := 2) hcap (by omega))
    have HB3 := Lib.hid (b2.alloc b2.size (.cells #[.int .i64 (G - g), .int .i64 (c - C)] 3))
    clear hR b2 hcap
    have heqv := fun W => run_eql_bought g c G C W
    rw [decide_eq_false heq] at heqv
    go_enter Try.func66, Try.ntmps66
    go_wp2_with (go_at_call 85; refine HC.out.mono ?_; rintro e w' ⟨rfl, rfl⟩)
    go_ret
    exact ⟨ret_bool HR.out.symm, HB3.out⟩
end Go.Proofs.Ytphdndiikikecaa
