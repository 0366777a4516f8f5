/- CONTRACTS of small functions of layer 2's reference and law: In, UpTo, Thin, to, pick, list. -/
import Derived.Test.YtjpobkmlcjbpiaaGreatYGround
import Derived.Test.YtjpobkmlcjbpiaaGreatYNext
import Derived.Test.YtjpobkmlcjbpiaaGreatYRow
import Derived.BigQuiet
set_option linter.unusedVariables false
set_option linter.unusedSimpArgs false
namespace Go.Proofs.YtjpobkmlcjbpiaaGreat
open Go.RowKit Go.Proofs
attribute [local go_sem ↓] Go.wp_at_zero Go.wp_at_succ

theorem rIn_c (n lo hi : Int) (w : World) :
    Calls Tryz.prog 19 #[.int .i64 n, .int .i64 lo, .int .i64 hi] w fun e w' => e = .returned (.bool (inB n lo hi)) ∧ w = w' := by
  by_cases h : lo ≤ n
  · go_enter Tryz.func19, Tryz.ntmps19
    go_wp2_with fail
    go_ret
    exact ⟨by simp [inB, h] <;> omega, rfl⟩
  · go_enter Tryz.func19, Tryz.ntmps19
    go_wp2_with fail
    go_ret
    exact ⟨by simp [inB, h] <;> omega, rfl⟩
theorem rUp_c (lo hi most : Int) (w : World) :
    Calls Tryz.prog 18 #[.agg #[.int .i64 lo, .int .i64 hi], .int .i64 most] w fun e w' => e = .returned (.bool (upB lo hi most)) ∧ Below w.heap.size w w' := by
  have hal := (Below.refl w.heap.size w).alloc (Nat.le_refl _) (.cells #[.int .i64 lo, .int .i64 hi] 24)
  have hx := Blk.new w 24 #[.int .i64 lo, .int .i64 hi]
  have x0 := hx.cell 0; have x1 := hx.cell 1
  simp at x0 x1
  have HB := Lib.hid hal
  clear hal hx
  by_cases h : 0 ≤ lo
  · by_cases h2 : lo ≤ hi
    · go_enter Tryz.func18, Tryz.ntmps18
      go_wp2_with fail
      go_ret
      exact ⟨by simp [upB, h, h2] <;> omega, HB.out⟩
    · go_enter Tryz.func18, Tryz.ntmps18
      go_wp2_with fail
      go_ret
      exact ⟨by simp [upB, h, h2] <;> omega, HB.out⟩
  · go_enter Tryz.func18, Tryz.ntmps18
    go_wp2_with fail
    go_ret
    exact ⟨by simp [upB, h] <;> omega, HB.out⟩
theorem rThin_c {A DA : Option Addr} {n c dn dc : Nat} {x1 x2 x3 x4 x5 : Int} (w : World) :
    Calls Tryz.prog 4 #[.agg #[.slice A n c, .int .i64 x1, .int .i64 x2, .int .i64 x3, .int .i64 x4, .int .i64 x5], .slice DA dn dc] w fun e w' => e = .returned (.bool (decide (n ≤ 10) && decide (dn ≤ 35))) ∧ Below w.heap.size w w' := by
  have hal := (Below.refl w.heap.size w).alloc (Nat.le_refl _) (.cells #[.slice A n c, .int .i64 x1, .int .i64 x2, .int .i64 x3, .int .i64 x4, .int .i64 x5] 26)
  have hx := Blk.new w 26 #[.slice A n c, .int .i64 x1, .int .i64 x2, .int .i64 x3, .int .i64 x4, .int .i64 x5]
  have x0 := hx.cell 0
  simp at x0
  have HB := Lib.hid hal
  clear hal hx
  by_cases h : (n : Int) ≤ 10
  · have h' : n ≤ 10 := by omega
    go_enter Tryz.func4, Tryz.ntmps4
    go_wp2_with fail
    go_ret
    have e : decide ((dn : Int) ≤ 35) = decide (dn ≤ 35) := decide_eq_decide.2 (by omega)
    exact ⟨by simp [h', e], HB.out⟩
  · have h' : ¬ n ≤ 10 := by omega
    go_enter Tryz.func4, Tryz.ntmps4
    go_wp2_with fail
    go_ret
    exact ⟨by simp [h'], HB.out⟩
theorem rto_c (lo hi : Int) (w : World) :
    Calls Tryz.prog 26 #[.agg #[.int .i64 lo, .int .i64 hi]] w fun e w' => e = .returned (.agg #[.int .i64 lo, .int .i64 hi]) ∧ Below w.heap.size w w' := by
  have hal := ((Below.refl w.heap.size w).alloc (Nat.le_refl _) (.cells #[.int .i64 lo, .int .i64 hi] 24)).alloc (by simp) (.cells #[.int .i64 lo, .int .i64 hi] 44)
  have hx := Blk.new w 24 #[.int .i64 lo, .int .i64 hi]
  have hy := hx.alloc (.cells #[.int .i64 0, .int .i64 0] 44)
  have x0 := hy.cell 0; have x1 := hy.cell 1
  simp at x0 x1
  have HB := Lib.hid hal
  clear hal hx hy
  go_enter Tryz.func26, Tryz.ntmps26
  go_wp2_with fail
  refine bodyPost_ret (v := .agg #[.int .i64 lo, .int .i64 hi]) ?_ rfl ⟨rfl, ?_⟩
  · simp [results, Tryz.f26, go_sem]
  · first | exact HB.out | skip
theorem infoNm : (Tryz.prog.info? 3).map (fun i => (i.zero, i.size, i.bytes)) = some (some (.int .i64 0), 1, 8) := by kernel_rfl
set_option maxHeartbeats 400000 in
theorem rlist_c {A : Option Addr} {n c : Nat} {l : List Int} {w : World} (h : Rd enc1 1 w A n l) (hn : n ≤ 1000) :
    Calls Tryz.prog 27 #[.slice A n c] w fun e w' => ∃ A' c', e = .returned (.slice A' n c') ∧ Rd enc1 1 w' A' n l ∧ (∀ ad, A' = some ad → w.heap.size ≤ ad.block) ∧ Below w.heap.size w w' := by
  obtain ⟨i0, hi0, hz0, hz1, hz2⟩ := info_parts infoNm
  have HI := Lib.hid hi0; have HZ0 := Lib.hid hz0; have HZ1 := Lib.hid hz1; have HZ2 := Lib.hid hz2
  clear hi0 hz0 hz1 hz2
  have HH := Lib.hid h
  have hl := h.len
  clear h
  go_enter Tryz.func27, Tryz.ntmps27
  go_wp2_with (at_builtin; go_must (refine wpList_append_rd rfl _ _ 33 rfl w.heap.size 3 i0 (.int .i64 0) 1 8 Tryz.underlying33 HI.out HZ0.out HZ1.out HZ2.out rfl (by decide) _ _ _ rfl (own_empty w 3 1) enc1_len oneZ A n c l rfl (HH.out.below ((Below.refl _ w).alloc (Nat.le_refl _) _)) (by unfold maxLen; omega) (by omega) (by simp) ?_; intro v1 w1 hown hgrow))
  have HB := Lib.hid (((Below.refl _ w).alloc (Nat.le_refl _) _).grown hgrow (by simp) (fun g hg => ((own_empty w 3 1).lt g hg).1))
  rw [Nat.zero_add, List.nil_append] at hown
  obtain ⟨A', c', rfl, hnew⟩ := NewR.of_own enc1_len hown hl
  have HO := Lib.hid hnew
  clear hown hgrow hnew
  go_wp2_with fail
  go_ret
  exact ⟨A', c', rfl, HO.out.rd, HO.out.new, HB.out⟩
/-- a number of a range, by a word -/
def pickP (lo hi u : Int) : Int := lo + u % (hi - lo + 1)
theorem pickP_in {lo hi u : Int} (h : lo ≤ hi) : lo ≤ pickP lo hi u ∧ pickP lo hi u ≤ hi := by
  unfold pickP
  have h1 := Int.emod_nonneg u (by omega : hi - lo + 1 ≠ 0)
  have h2 := Int.emod_lt_of_pos u (by omega : 0 < hi - lo + 1)
  omega
theorem pick_c (lo hi u : Int) (w : World) (h : 0 ≤ lo ∧ lo ≤ hi ∧ hi ≤ 1000000) (hu : 0 ≤ u ∧ u ≤ 65535) :
    Calls Tryz.prog 20 #[.agg #[.int .i64 lo, .int .i64 hi], .int .u16 u] w fun e w' => e = .returned (.int .i64 (pickP lo hi u)) ∧ Below w.heap.size w w' := by
  have hal := (Below.refl w.heap.size w).alloc (Nat.le_refl _) (.cells #[.int .i64 lo, .int .i64 hi] 24)
  have hx := Blk.new w 24 #[.int .i64 lo, .int .i64 hi]
  have x0 := hx.cell 0; have x1 := hx.cell 1
  simp at x0 x1
  have hp := pickP_in (u := u) h.2.1
  have hm : u.tmod (hi - lo + 1) = u % (hi - lo + 1) := Int.tmod_eq_emod_of_nonneg hu.1
  have h1 := Int.emod_nonneg u (by omega : hi - lo + 1 ≠ 0)
  have h2 := Int.emod_lt_of_pos u (by omega : 0 < hi - lo + 1)
  have hne : ¬ hi - lo + 1 = 0 := by omega
  have hne2 : ((hi - lo + 1) == 0) = false := by rw [beq_eq_false_iff_ne]; exact hne
  have HB := Lib.hid hal
  clear hal hx
  go_enter Tryz.func20, Tryz.ntmps20
  go_upto_region 1 with fail
  go_quiet (fail)
  go_wp2_with fail
  go_ret
  exact ⟨rfl, HB.out.trans (below_drewN (Below.refl _ _) _)⟩
end Go.Proofs.YtjpobkmlcjbpiaaGreat
