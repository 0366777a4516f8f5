/- CONTRACT of the reference's Line. -/
import Derived.Test.YtkgoojilmnkgiaaPoints
namespace Go.Proofs.Ytkgoojilmnkgiaa
open Go.RowKit Go.Proofs

theorem floor_up {up d : Int} (hd : 0 < d) : (d - 1 - up) / d = -(up / d) := by
  have h1 := Int.emod_add_mul_ediv up d
  have h2 := Int.emod_nonneg up (show d ≠ 0 by omega)
  have h3 := Int.emod_lt_of_pos up hd
  rw [show d - 1 - up = (d - 1 - up % d) + d * (-(up / d)) by rw [Int.mul_neg]; omega]
  rw [Int.add_mul_ediv_left _ _ (by omega), Int.ediv_eq_zero_of_lt (by omega) (by omega)]; omega

set_option maxRecDepth 100000 in
set_option maxHeartbeats 400000 in
theorem Line_c (a b : Int × Int) (t : Int) (w : World) (ha : ptB a = true) (hb : ptB b = true) (hab : a.1 < b.1) (ht : 0 ≤ t ∧ t ≤ 1000000000) :
    Calls Try.prog 42 #[.agg #[.int .i64 a.1, .int .i64 a.2], .agg #[.int .i64 b.1, .int .i64 b.2], .int .i64 t] w fun e w' => e = .returned (.int .i64 (lineV a b t)) ∧ Below w.heap.size w w' := by
  have h1 := ptB_iff.1 ha; have h2 := ptB_iff.1 hb
  obtain ⟨h3, h4⟩ := line_bd ha hb hab ht
  have w1 : IntKind.i64.wrap (b.2 - a.2) = b.2 - a.2 := wi (by omega)
  have w2 : IntKind.i64.wrap (t - a.1) = t - a.1 := wi (by omega)
  have w3 : IntKind.i64.wrap (b.1 - a.1) = b.1 - a.1 := wi (by omega)
  have w4 : IntKind.i64.wrap ((b.2 - a.2) * (t - a.1)) = (b.2 - a.2) * (t - a.1) := wi (by omega)
  have hbl : Below w.heap.size w ((w.alloc (.cells #[.int .i64 a.1, .int .i64 a.2] 73)).alloc (.cells #[.int .i64 b.1, .int .i64 b.2] 73)) := ((Below.refl _ _).alloc (Nat.le_refl _) _).alloc (by simp) _
  have HBl := Lib.hid hbl; clear hbl
  have hlv : lineV a b t = a.2 + (b.2 - a.2) * (t - a.1) / (b.1 - a.1) := rfl
  obtain ⟨up, hup⟩ : ∃ up, (b.2 - a.2) * (t - a.1) = up := ⟨_, rfl⟩
  obtain ⟨d, hd⟩ : ∃ d, b.1 - a.1 = d := ⟨_, rfl⟩
  rw [hup, hd] at hlv
  rw [hup] at w4 h3
  rw [hup, hd] at h4
  rw [hd] at w3
  have HLV := Lib.hid hlv
  clear hlv
  have hdp : 0 < d := by omega
  have hd2 : d ≤ 1000000000 := by omega
  have dz : (d == 0) = false := by rw [beq_eq_false_iff_ne]; omega
  by_cases hneg : up < 0
  · have hfl := floor_up (up := up) hdp
    have w5 : IntKind.i64.wrap (d - 1) = d - 1 := wi (by omega)
    have w6 : IntKind.i64.wrap (d - 1 - up) = d - 1 - up := wi (by omega)
    have w7 : (d - 1 - up).tdiv d = -(up / d) := by rw [Int.tdiv_eq_ediv_of_nonneg (by omega), hfl]
    have w7' : (d - 1 - up) / d = -(up / d) := hfl
    have w8 : IntKind.i64.wrap (-(up / d)) = -(up / d) := wi (by omega)
    have w9 : IntKind.i64.wrap (a.2 - -(up / d)) = a.2 - -(up / d) := wi (by omega)
    clear hfl
    go_enter Try.func42, Try.ntmps42
    go_wp2_with fail
    go_quiet (fail)
    go_wp2
    go_quiet (fail)
    go_wp2
    go_ret
    refine ⟨?_, below_drewN (below_drewN HBl.out _) _⟩
    rw [HLV.out]
    first | rfl | (congr 2; omega)
  · have w7 : up.tdiv d = up / d := Int.tdiv_eq_ediv_of_nonneg (by omega)
    have w8 : IntKind.i64.wrap (up / d) = up / d := wi (by omega)
    have w9 : IntKind.i64.wrap (a.2 + up / d) = a.2 + up / d := wi (by omega)
    go_enter Try.func42, Try.ntmps42
    go_wp2_with fail
    go_quiet (fail)
    go_wp2
    go_quiet (fail)
    go_wp2
    go_ret
    refine ⟨?_, below_drewN (below_drewN HBl.out _) _⟩
    rw [HLV.out]
    rfl
end Go.Proofs.Ytkgoojilmnkgiaa
