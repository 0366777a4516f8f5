/- CONTRACT of the law's ints. -/
import Derived.Test.YtpijmfbpdglchaaKLeaf
import Derived.Deep.Quiet
import Derived.BigQuiet
namespace Go.Proofs.Ytpijmfbpdglchaa
open Go.RowKit Go.Proofs

theorem take_eq_all {α : Type} {a b : List α} {n : Nat} (ha : a.length = n) (hb : b.length = n) (h : a.take n = b.take n) : a = b := by
  rwa [List.take_of_length_le (by omega), List.take_of_length_le (by omega)] at h
theorem ne_of_get {α : Type} {a b : List α} {k : Nat} {x y : α} (ha : a[k]? = some x) (hb : b[k]? = some y) (h : x ≠ y) : a ≠ b := by
  rintro rfl; rw [ha] at hb; cases hb; exact h rfl
theorem take_snoc_eq {α : Type} {a b : List α} {k : Nat} {x : α} (ha : a[k]? = some x) (hb : b[k]? = some x) (h : a.take k = b.take k) : a.take (k + 1) = b.take (k + 1) := by
  rw [List.take_add_one, List.take_add_one, ha, hb, h]

set_option maxRecDepth 100000 in
set_option maxHeartbeats 400000 in
theorem ints_c {l l' : List Int} {A A' : Option Addr} {n c n' c' : Nat} {w : World} (h : Rd enc1 1 w A n l) (h' : Rd enc1 1 w A' n' l') (hn : n ≤ 1000000000) :
    Calls Try.prog 23 #[.slice A n c, .slice A' n' c'] w fun e w' => e = .returned (.bool (decide (l = l'))) ∧ Below w.heap.size w w' := by
  have hl := h.len; have hl' := h'.len
  have HL := Lib.hid hl; have HL' := Lib.hid hl'; clear hl hl'
  by_cases hne : n = n'
  · subst hne
    have hb0 : ((n : Int) == (n : Int)) = true := by simp
    go_enter Try.func23, Try.ntmps23
    go_wp2_with fail
    go_loopw [5] (fun i wr => ∃ k : Nat, k ≤ n ∧ i = .int .i64 k ∧ Below w.heap.size w wr ∧ l.take k = l'.take k) (fun i _ => n - (intOf i).toNat)
    case atStart => exact ⟨0, Nat.zero_le _, rfl, Below.refl _ _, rfl⟩
    case round =>
      obtain ⟨k, hk, rfl, hb, heq⟩ := hrel
      have HE := Lib.hid heq; clear heq
      by_cases hlt : k < n
      · obtain ⟨b, o, x, hA, _, hx, h0⟩ := (h.below hb).at1 hlt
        subst hA
        obtain ⟨b', o', y, hA, _, hy, h1⟩ := (h'.below hb).at1 hlt
        subst hA
        have HX := Lib.hid hx; have HY := Lib.hid hy; clear hx hy
        have HB := Lib.hid hb; clear hb
        have hkn : (k : Int) < (n : Int) := by omega
        by_cases hxy : x = y
        · subst hxy
          have e1 : (x == x) = true := by simp
          have e2 : (x != x) = false := by simp
          go_wp2_with fail
          go_quiet (fail)
          go_wp2
          go_roundw
          case rel => exact ⟨k + 1, by omega, by go_num, below_drewN HB.out _, take_snoc_eq HX.out HY.out HE.out⟩
          case measure => simp [intOf] <;> omega
        · have e1 : (x == y) = false := by simpa using hxy
          have e2 : (x != y) = true := by simpa using hxy
          have HNE := Lib.hid hxy; clear hxy
          go_wp2_with fail
          go_quiet (fail)
          go_wp2
          go_ret
          exact ⟨ret_bool (decide_eq_false (ne_of_get HX.out HY.out HNE.out)).symm, below_drewN HB.out _⟩
      · obtain rfl : k = n := by omega
        go_wp2_with fail
        go_ret
        exact ⟨ret_bool (decide_eq_true (take_eq_all HL.out HL'.out HE.out)).symm, hb⟩
  · have hb0 : ((n : Int) == (n' : Int)) = false := by simp; omega
    have hb1 : ((n : Int) != (n' : Int)) = true := by simp; omega
    have HNE := Lib.hid hne; clear hne
    go_enter Try.func23, Try.ntmps23
    go_wp2_with fail
    go_ret
    exact ⟨ret_bool (decide_eq_false (fun e => HNE.out (by rw [← HL.out, ← HL'.out, e]))).symm, Below.refl _ _⟩

/-- are ranges those from low to high? -/
def rngB (l : List (Int × Int)) (lo hi : List Int) : Bool := decide (l.length = lo.length ∧ l.length = hi.length ∧ l = lo.zip hi)

end Go.Proofs.Ytpijmfbpdglchaa
