/- PLAIN LAWS of series: right series, the line through two points, near; and the contracts of down and line. -/
import Derived.Test.YtkgoojilmnkgiaaTimes
import Derived.Test.YtkgoojilmnkgiaaRegion
namespace Go.Proofs.Ytkgoojilmnkgiaa
open Go.RowKit Go.Proofs

theorem floor_neg {n d : Int} (hd : 0 < d) (h : n.tmod d < 0) : n / d = n.tdiv d - 1 := by
  have h1 := Int.mul_tdiv_add_tmod n d
  have h2 : -d < n.tmod d := by have := Int.tmod_lt_of_pos n hd; have := Int.lt_tmod_of_pos n hd; omega
  have h3 : d * (n.tdiv d - 1) = d * n.tdiv d - d := by rw [Int.mul_sub]; omega
  exact ((Int.ediv_emod_unique (a := n) (b := d) (r := n.tmod d + d) (q := n.tdiv d - 1) hd).2 ⟨by rw [h3]; omega, by omega, by omega⟩).1
theorem floor_pos {n d : Int} (hd : 0 < d) (h : 0 ≤ n.tmod d) : n / d = n.tdiv d := by
  have h1 := Int.mul_tdiv_add_tmod n d
  have h2 : n.tmod d < d := by have := Int.tmod_lt_of_pos n hd; have := Int.lt_tmod_of_pos n hd; omega
  exact ((Int.ediv_emod_unique (a := n) (b := d) (r := n.tmod d) (q := n.tdiv d) hd).2 ⟨by omega, by omega, by omega⟩).1

set_option maxHeartbeats 400000 in
theorem down_c (n d : Int) (w : World) (hd : 0 < d) (hn : -4000000000000000000 ≤ n ∧ n ≤ 4000000000000000000) (hd' : d ≤ 1000000000000000000) :
    Calls Try.prog 111 #[.int .i64 n, .int .i64 d] w fun e w' => e = .returned (.int .i64 (n / d)) ∧ w = w' := by
  have hdz : (d == 0) = false := by simp; omega
  have hq : -4000000000000000000 ≤ n.tdiv d ∧ n.tdiv d ≤ 4000000000000000000 := by
    have h1 := Int.natAbs_tdiv_le_natAbs n d
    omega
  have hrb : -1000000000000000000 ≤ n.tmod d ∧ n.tmod d ≤ 1000000000000000000 := by have := Int.tmod_lt_of_pos n hd; have := Int.lt_tmod_of_pos n hd; omega
  by_cases h0 : n.tmod d < 0
  · have HR := Lib.hid (floor_neg hd h0)
    go_enter Try.func111, Try.ntmps111
    go_wp2
    go_ret
    exact ⟨ret_int HR.out.symm, rfl⟩
  · have h0' : 0 ≤ n.tmod d := by omega
    clear h0
    have HR := Lib.hid (floor_pos hd h0')
    go_enter Try.func111, Try.ntmps111
    go_wp2
    go_ret
    exact ⟨ret_int HR.out.symm, rfl⟩

/-- The value at a time on the line through two points. -/
def lineV (a b : Int × Int) (t : Int) : Int := a.2 + (b.2 - a.2) * (t - a.1) / (b.1 - a.1)
/-- a point that may be -/
def ptB (x : Int × Int) : Bool := inB x.1 0 1000000000 && inB x.2 (-1000000000) 1000000000
theorem ptB_iff {x : Int × Int} : ptB x = true ↔ (0 ≤ x.1 ∧ x.1 ≤ 1000000000) ∧ -1000000000 ≤ x.2 ∧ x.2 ≤ 1000000000 := by simp [ptB, inB_iff]

theorem prod_bd {a b : Int} (ha : -2000000000 ≤ a ∧ a ≤ 2000000000) (hb : -1000000000 ≤ b ∧ b ≤ 1000000000) : -2000000000000000000 ≤ a * b ∧ a * b ≤ 2000000000000000000 := by
  have h := Int.natAbs_mul a b
  have h1 : a.natAbs * b.natAbs ≤ 2000000000 * 1000000000 := Nat.mul_le_mul (by omega) (by omega)
  omega
theorem div_bd {n d : Int} (hd : 0 < d) (hn : -2000000000000000000 ≤ n ∧ n ≤ 2000000000000000000) : -2000000000000000000 ≤ n / d ∧ n / d ≤ 2000000000000000000 := by
  constructor
  · have := (Int.le_ediv_iff_mul_le hd (a := -2000000000000000000) (b := n)).2 (by
      have : (-2000000000000000000 : Int) * d ≤ -2000000000000000000 * 1 := Int.mul_le_mul_of_nonpos_left (by omega) (by omega)
      omega)
    exact this
  · by_cases h : n < 0
    · have := Int.ediv_neg_of_neg_of_pos h hd; omega
    · have := Int.ediv_le_self d (show 0 ≤ n by omega); omega

theorem line_bd {a b : Int × Int} {t : Int} (ha : ptB a = true) (hb : ptB b = true) (hab : a.1 < b.1) (ht : 0 ≤ t ∧ t ≤ 1000000000) :
    (-2000000000000000000 ≤ (b.2 - a.2) * (t - a.1) ∧ (b.2 - a.2) * (t - a.1) ≤ 2000000000000000000) ∧
    (-2000000000000000000 ≤ (b.2 - a.2) * (t - a.1) / (b.1 - a.1) ∧ (b.2 - a.2) * (t - a.1) / (b.1 - a.1) ≤ 2000000000000000000) := by
  have h1 := ptB_iff.1 ha; have h2 := ptB_iff.1 hb
  have h3 := prod_bd (a := b.2 - a.2) (b := t - a.1) (by omega) (by omega)
  exact ⟨h3, div_bd (by omega) h3⟩

set_option maxRecDepth 100000 in
set_option maxHeartbeats 400000 in
theorem line_c (a b : Int × Int) (t : Int) (w : World) (ha : ptB a = true) (hb : ptB b = true) (hab : a.1 < b.1) (ht : 0 ≤ t ∧ t ≤ 1000000000) :
    Calls Try.prog 94 #[.agg #[.int .i64 a.1, .int .i64 a.2], .agg #[.int .i64 b.1, .int .i64 b.2], .int .i64 t] w fun e w' => e = .returned (.int .i64 (lineV a b t)) ∧ Below w.heap.size w w' := by
  have h1 := ptB_iff.1 ha; have h2 := ptB_iff.1 hb
  obtain ⟨h3, h4⟩ := line_bd ha hb hab ht
  have w1 : IntKind.i64.wrap (b.2 - a.2) = b.2 - a.2 := wi (by omega)
  have w2 : IntKind.i64.wrap (t - a.1) = t - a.1 := wi (by omega)
  have w3 : IntKind.i64.wrap (b.1 - a.1) = b.1 - a.1 := wi (by omega)
  have w4 : IntKind.i64.wrap ((b.2 - a.2) * (t - a.1)) = (b.2 - a.2) * (t - a.1) := wi (by omega)
  have w5 : IntKind.i64.wrap (a.2 + (b.2 - a.2) * (t - a.1) / (b.1 - a.1)) = a.2 + (b.2 - a.2) * (t - a.1) / (b.1 - a.1) := wi (by omega)
  have hbl : Below w.heap.size w ((w.alloc (.cells #[.int .i64 a.1, .int .i64 a.2] 72)).alloc (.cells #[.int .i64 b.1, .int .i64 b.2] 72)) := ((Below.refl _ _).alloc (Nat.le_refl _) _).alloc (by simp) _
  have HBl := Lib.hid hbl; clear hbl
  go_enter Try.func94, Try.ntmps94
  go_wp2_with fail
  go_quiet ((go_at_call 111; (first | exact quiet_left (down_c _ _ _ (by omega) (by omega) (by omega)) | exact quiet_add_left (down_c _ _ _ (by omega) (by omega) (by omega)))))
  go_wp2
  go_ret
  exact ⟨rfl, below_drewN HBl.out _⟩
end Go.Proofs.Ytkgoojilmnkgiaa
