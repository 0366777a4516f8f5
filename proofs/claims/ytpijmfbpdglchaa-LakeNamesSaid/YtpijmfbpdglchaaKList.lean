/- CONTRACTS of the law's list and to: the conversions of ints and of a range. -/
import Derived.Test.YtpijmfbpdglchaaKSort
set_option linter.unusedVariables false
set_option linter.unusedSimpArgs false
namespace Go.Proofs.Ytpijmfbpdglchaa
open Go.RowKit Go.Proofs
attribute [local go_sem ↓] Go.wp_at_zero Go.wp_at_succ

set_option maxHeartbeats 400000 in
theorem list_c {l : List Int} {A : Option Addr} {n c : Nat} {w : World} (h : Rd enc1 1 w A n l) (hn : n ≤ 1000000) :
    Calls Try.prog 27 #[.slice A n c] w fun e w' => ∃ A' c', e = .returned (.slice A' n c') ∧ n ≤ c' ∧ w'.ownsRow w.heap.size 3 1 (.slice A' n c') n (l.flatMap enc1) ∧ Below w.heap.size w w' := by
  obtain ⟨i0, hi0, hz0, hz1, hz2⟩ := info_parts infoZ
  have HI := Lib.hid hi0; have HZ0 := Lib.hid hz0; have HZ1 := Lib.hid hz1; have HZ2 := Lib.hid hz2
  clear hi0 hz0 hz1 hz2
  go_enter Try.func27, Try.ntmps27
  go_wp2_with (at_builtin; go_must (refine wpList_append_rd rfl _ _ 22 rfl w.heap.size 3 i0 (.int .i64 0) 1 8 Try.underlying22 HI.out HZ0.out HZ1.out HZ2.out rfl (by decide) _ _ _ rfl (World.ownsRow_nil w w.heap.size 3 1) enc1_len oneZ A n c l rfl h (by unfold maxLen; omega) (by omega) (by omega) ?_; intro v1 w1 hown hgrow))
  have HB := Lib.hid ((Below.refl w.heap.size w).grown hgrow (by omega) (fun g hg => by cases hg))
  rw [Nat.zero_add, List.nil_append] at hown
  obtain ⟨A1, c1, rfl, hc1⟩ := own_form hown
  have HO := Lib.hid hown; have HC := Lib.hid hc1
  clear hown hgrow hc1
  go_wp2_with fail
  go_ret
  exact ⟨_, _, rfl, HC.out, HO.out, HB.out⟩
set_option maxRecDepth 100000 in
theorem to_c (r : Rng) (w : World) : Calls Try.prog 61 #[.agg #[.int .i64 r.1, .int .i64 r.2]] w fun e w' => e = .returned (.agg #[.int .i64 r.1, .int .i64 r.2]) ∧ Below w.heap.size w w' := by
  obtain ⟨a, b⟩ := r
  obtain ⟨W, hW⟩ : ∃ W, W = ((w.alloc (.cells #[.int .i64 a, .int .i64 b] 24)).alloc (.cells #[.int .i64 a, .int .i64 b] 35)) := ⟨_, rfl⟩
  have hb : Below w.heap.size w W := by rw [hW]; exact ((Below.refl _ _).alloc (Nat.le_refl _) _).alloc (by simp) _
  have hx := Blk.new (w.alloc (.cells #[.int .i64 a, .int .i64 b] 24)) 35 #[.int .i64 a, .int .i64 b]
  simp only [World.size_alloc] at hx
  rw [← hW] at hx
  have z0 := hx.cell 0; have z1 := hx.cell 1
  simp at z0 z1
  have HB := Lib.hid hb; have HW := Lib.hid hW
  clear hb hW hx
  go_enter Try.func61, Try.ntmps61
  go_wp2_with fail
  rw [← HW.out]
  refine bodyPost_ret (v := .agg #[.int .i64 a, .int .i64 b]) ?_ rfl ⟨rfl, HB.out⟩
  simp [results, Try.f61, go_sem, z0, z1]
end Go.Proofs.Ytpijmfbpdglchaa
