/- CONTRACTS of slices.IsSorted over ints that rise, and of the law's copy of a list. -/
import Derived.Test.YtkgoojilmnkgiaaAppRd
import Derived.Test.YtkgoojilmnkgiaaLose
import Derived.BigQuiet
import Derived.Deep.QuietTactic
namespace Go.Proofs.Ytkgoojilmnkgiaa
open Go.RowKit Go.Proofs

theorem nan_c (x : Int) (w : World) : Calls Try.prog 112 #[.int .i64 x] w fun e w' => e = .returned (.bool false) ∧ w = w' := by
  go_enter Try.func112, Try.ntmps112
  go_wp2
  go_ret
  simp
theorem less_c (x y : Int) (h : ¬ x < y) (w : World) : Calls Try.prog 95 #[.int .i64 x, .int .i64 y] w fun e w' => e = .returned (.bool false) ∧ w = w' := by
  go_enter Try.func95, Try.ntmps95
  go_wp2_with (go_at_call 112; refine (nan_c _ _).mono ?_; rintro e w' ⟨rfl, rfl⟩)
  go_ret
  simp
  omega

set_option maxHeartbeats 400000 in
theorem sorted_c {l : List Int} {A : Option Addr} {n c : Nat} {w : World} (h : Rd enc1 1 w A n l) (hn : n ≤ 1000000000) (hs : ∀ (i : Nat) (x y : Int), l[i]? = some x → l[i + 1]? = some y → x < y) :
    Calls Try.prog 69 #[.slice A n c] w fun e w' => e = .returned (.bool true) ∧ Below w.heap.size w w' := by
  have HS := Lib.hid hs; clear hs
  have wn : IntKind.i64.wrap ((n : Int) - 1) = (n : Int) - 1 := wi (by omega)
  go_enter Try.func69, Try.ntmps69
  go_wp2_with fail
  go_loopw [3] (fun i wr => ∃ k : Int, -1 ≤ k ∧ k < (n : Int) ∧ i = .int .i64 k ∧ Below w.heap.size w wr) (fun i _ => (intOf i + 1).toNat)
  case atStart => exact ⟨(n : Int) - 1, by omega, by omega, rfl, Below.refl _ _⟩
  case round =>
    obtain ⟨k, hk0, hkn, rfl, hb⟩ := hrel
    by_cases hlt : 0 < k
    · obtain ⟨K, rfl⟩ : ∃ K : Nat, k = (K : Int) := ⟨k.toNat, by omega⟩
      obtain ⟨b, o, x, hA, _, hx, h0⟩ := (h.below hb).at1 (i := K - 1) (by omega)
      subst hA
      obtain ⟨b', o', y, hA, _, hy, h1⟩ := (h.below hb).at1 (i := K) (by omega)
      cases hA
      have hxy : ¬ y < x := by have := HS.out (K - 1) x y hx (by rw [show K - 1 + 1 = K by omega]; exact hy); omega
      have HB := Lib.hid hb
      clear hx hy hb
      have w1 : IntKind.i64.wrap ((K : Int) - 1) = (K : Int) - 1 := wi (by omega)
      have t1 : ((K : Int) - 1).toNat = K - 1 := by omega
      have b1 : (0 : Int) ≤ (K : Int) - 1 := by omega
      have b2 : (K : Int) - 1 < (n : Int) := by omega
      have b3 : (0 : Int) ≤ (K : Int) := by omega
      have hle := less_c y x hxy
      have HLE := Lib.hid hle
      clear hle hxy
      go_wp2
      go_quiet ((go_at_call 95; (first | exact quiet_left (HLE.out _) | exact quiet_add_left (HLE.out _))))
      go_wp2
      go_roundw
      case rel => exact ⟨(K : Int) - 1, by omega, by omega, rfl, below_drewN HB.out _⟩
      case measure => simp [intOf] <;> omega
    · go_wp2
      go_ret
      exact ⟨rfl, hb⟩
set_option maxHeartbeats 400000 in
theorem list_c {l : List Int} {A : Option Addr} {n c : Nat} {w : World} (h : Rd enc1 1 w A n l) (hn : n ≤ 1000000) :
    Calls Try.prog 39 #[.slice A n c] w fun e w' => ∃ A' c', e = .returned (.slice A' n c') ∧ n ≤ c' ∧ Rd enc1 1 w' A' n l ∧ Below w.heap.size w w' := by
  obtain ⟨i0, hi0, hz0, hz1, hz2⟩ := info_parts infoI
  have HI := Lib.hid hi0; have HZ0 := Lib.hid hz0; have HZ1 := Lib.hid hz1; have HZ2 := Lib.hid hz2
  have HLEN := Lib.hid h.len
  clear hi0 hz0 hz1 hz2
  go_enter Try.func39, Try.ntmps39
  go_wp2_with (at_builtin; go_must (refine wpList_append_rd rfl _ _ 33 rfl w.heap.size 3 i0 (.int .i64 0) 1 8 Try.underlying33 HI.out HZ0.out HZ1.out HZ2.out rfl (by decide) _ _ _ rfl (own_empty w 3 1) enc1_len (fun x u hu => by simp [enc1] at hu; subst hu; rfl) A n c l rfl (h.below ((Below.refl _ w).alloc (Nat.le_refl _) _)) (by unfold maxLen; omega) (by omega) (by simp) ?_; intro v1 w1 hown hgrow))
  have hb1 : Below w.heap.size w w1 := ((Below.refl _ w).alloc (Nat.le_refl _) _).grown hgrow (by simp) (fun g hg => ((own_empty w 3 1).lt g hg).1)
  rw [Nat.zero_add, List.nil_append] at hown
  obtain ⟨A1, c1, rfl, hc1⟩ := own_form hown
  have hr := Rd.of_own enc1_len hown HLEN.out
  clear hown hgrow
  go_ret
  exact ⟨A1, c1, rfl, hc1, hr, hb1⟩
end Go.Proofs.Ytkgoojilmnkgiaa
