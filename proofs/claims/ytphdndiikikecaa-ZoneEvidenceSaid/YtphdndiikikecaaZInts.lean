/- CONTRACTS of the law's small helpers: ints, ranges, Thin's list, span. -/
import Derived.Test.YtphdndiikikecaaZLeaf
import Derived.Deep.Quiet
import Derived.BigQuiet
namespace Go.Proofs.Ytphdndiikikecaa
open Go.RowKit Go.Proofs

theorem take_eq_all {α : Type} {a b : List α} {n : Nat} (ha : a.length = n) (hb : b.length = n) (h : a.take n = b.take n) : a = b := by
  rwa [List.take_of_length_le (by omega), List.take_of_length_le (by omega)] at h
theorem ne_of_get {α : Type} {a b : List α} {k : Nat} {x y : α} (ha : a[k]? = some x) (hb : b[k]? = some y) (h : x ≠ y) : a ≠ b := by
  rintro rfl; rw [ha] at hb; cases hb; exact h rfl
theorem take_snoc_eq {α : Type} {a b : List α} {k : Nat} {x : α} (ha : a[k]? = some x) (hb : b[k]? = some x) (h : a.take k = b.take k) : a.take (k + 1) = b.take (k + 1) := by
  rw [List.take_add_one, List.take_add_one, ha, hb, h]

set_option maxRecDepth 100000 in
set_option maxHeartbeats 400000 in
theorem ints_c {l l' : List Int} {A A' : Option Addr} {n c n' c' : Nat} {w : World} (h : Rd enc1 1 w A n l) (h' : Rd enc1 1 w A' n' l') (hn : n ≤ 1000000000) :
    Calls Try.prog 29 #[.slice A n c, .slice A' n' c'] w fun e w' => e = .returned (.bool (decide (l = l'))) ∧ Below w.heap.size w w' := by
  have hl := h.len; have hl' := h'.len
  have HL := Lib.hid hl; have HL' := Lib.hid hl'; clear hl hl'
  by_cases hne : n = n'
  · subst hne
    have hb0 : ((n : Int) == (n : Int)) = true := by simp
    go_enter Try.func29, Try.ntmps29
    go_wp2_with fail
    go_loopw [5] (fun i wr => ∃ k : Nat, k ≤ n ∧ i = .int .i64 k ∧ Below w.heap.size w wr ∧ l.take k = l'.take k) (fun i _ => n - (intOf i).toNat)
    case atStart => exact ⟨0, Nat.zero_le _, rfl, Below.refl _ _, rfl⟩
    case round =>
      obtain ⟨k, hk, rfl, hb, heq⟩ := hrel
      have HE := Lib.hid heq; clear heq
      by_cases hlt : k < n
      · obtain ⟨b, o, x, hA, _, hx, h0⟩ := (h.below hb).at1 hlt
        subst hA
        obtain ⟨b', o', y, hA, _, hy, h1⟩ := (h'.below hb).at1 hlt
        subst hA
        have HX := Lib.hid hx; have HY := Lib.hid hy; clear hx hy
        have HB := Lib.hid hb; clear hb
        have hkn : (k : Int) < (n : Int) := by omega
        by_cases hxy : x = y
        · subst hxy
          have e1 : (x == x) = true := by simp
          have e2 : (x != x) = false := by simp
          go_wp2_with fail
          go_quiet (fail)
          go_wp2
          go_roundw
          case rel => exact ⟨k + 1, by omega, by go_num, below_drewN HB.out _, take_snoc_eq HX.out HY.out HE.out⟩
          case measure => simp [intOf] <;> omega
        · have e1 : (x == y) = false := by simpa using hxy
          have e2 : (x != y) = true := by simpa using hxy
          have HNE := Lib.hid hxy; clear hxy
          go_wp2_with fail
          go_quiet (fail)
          go_wp2
          go_ret
          exact ⟨ret_bool (decide_eq_false (ne_of_get HX.out HY.out HNE.out)).symm, below_drewN HB.out _⟩
      · obtain rfl : k = n := by omega
        go_wp2_with fail
        go_ret
        exact ⟨ret_bool (decide_eq_true (take_eq_all HL.out HL'.out HE.out)).symm, hb⟩
  · have hb0 : ((n : Int) == (n' : Int)) = false := by simp; omega
    have hb1 : ((n : Int) != (n' : Int)) = true := by simp; omega
    have HNE := Lib.hid hne; clear hne
    go_enter Try.func29, Try.ntmps29
    go_wp2_with fail
    go_ret
    exact ⟨ret_bool (decide_eq_false (fun e => HNE.out (by rw [← HL.out, ← HL'.out, e]))).symm, Below.refl _ _⟩

/-- are ranges those from low to high? -/
def rngB (l : List (Int × Int)) (lo hi : List Int) : Bool := decide (l.length = lo.length ∧ l.length = hi.length ∧ l = lo.zip hi)
set_option maxRecDepth 100000 in
set_option maxHeartbeats 400000 in
theorem rangesL_c {l : List (Int × Int)} {lo hi : List Int} {A A1 A2 : Option Addr} {n c n1 c1 n2 c2 : Nat} {w : World} (h : Rd enc2 2 w A n l) (h1 : Rd enc1 1 w A1 n1 lo) (h2 : Rd enc1 1 w A2 n2 hi) (hn : n ≤ 1000000000) :
    Calls Try.prog 24 #[.slice A n c, .slice A1 n1 c1, .slice A2 n2 c2] w fun e w' => e = .returned (.bool (rngB l lo hi)) ∧ Below w.heap.size w w' := by
  have HL := Lib.hid h.len; have HL1 := Lib.hid h1.len; have HL2 := Lib.hid h2.len
  by_cases hne1 : n = n1
  · by_cases hne2 : n = n2
    · subst hne1 hne2
      have hb0 : ((n : Int) == (n : Int)) = true := by simp
      have hb1 : ((n : Int) != (n : Int)) = false := by simp
      have hzl : (lo.zip hi).length = n := by rw [List.length_zip, HL1.out, HL2.out]; omega
      have HZL := Lib.hid hzl; clear hzl
      have HR := Lib.hid (show rngB l lo hi = decide (l = lo.zip hi) by unfold rngB; rw [HL.out, HL1.out, HL2.out]; simp)
      obtain ⟨R, hR⟩ : ∃ R, R = rngB l lo hi := ⟨_, rfl⟩
      rw [← hR] at HR ⊢
      clear hR
      go_enter Try.func24, Try.ntmps24
      go_wp2_with fail
      go_loopw [7] (fun i wr => ∃ k : Nat, k ≤ n ∧ i = .int .i64 k ∧ Below w.heap.size w wr ∧ l.take k = (lo.zip hi).take k) (fun i _ => n - (intOf i).toNat)
      case atStart => exact ⟨0, Nat.zero_le _, rfl, Below.refl _ _, rfl⟩
      case round =>
        obtain ⟨k, hk, rfl, hb, heq⟩ := hrel
        have HE := Lib.hid heq; clear heq
        by_cases hlt : k < n
        · obtain ⟨b, o, x, hA, _, hx, h0, h0'⟩ := (h.below hb).at2 hlt
          subst hA
          obtain ⟨b', o', y, hA, _, hy, q1⟩ := (h1.below hb).at1 hlt
          subst hA
          obtain ⟨b2, o2, z, hA, _, hz, q2⟩ := (h2.below hb).at1 hlt
          subst hA
          have hyz : (lo.zip hi)[k]? = some (y, z) := List.getElem?_zip_eq_some.2 (show _ = some (y, z).1 ∧ _ = some (y, z).2 from ⟨hy, hz⟩)
          have HX := Lib.hid hx; have HY := Lib.hid hyz; clear hx hy hz hyz
          have HB := Lib.hid hb; clear hb
          have hkn : (k : Int) < (n : Int) := by omega
          have hk0 : (0 : Int) ≤ (k : Int) := by omega
          obtain ⟨x1, x2⟩ := x
          simp only at h0 h0'
          by_cases hxy : x1 = y
          · subst hxy
            have e1 : (x1 == x1) = true := by simp
            have e2 : (x1 != x1) = false := by simp
            by_cases hxz : x2 = z
            · subst hxz
              have e3 : (x2 == x2) = true := by simp
              have e4 : (x2 != x2) = false := by simp
              go_wp2_with fail
              go_quiet (fail)
              go_wp2
              go_roundw
              case rel => exact ⟨k + 1, by omega, by go_num, below_drewN HB.out _, take_snoc_eq HX.out HY.out HE.out⟩
              case measure => simp [intOf] <;> omega
            · have e3 : (x2 == z) = false := by simpa using hxz
              have e4 : (x2 != z) = true := by simpa using hxz
              have HNE := Lib.hid (show ¬ ((x1, x2) : Int × Int) = (x1, z) by simp [hxz]); clear hxz
              go_wp2_with fail
              go_quiet (fail)
              go_wp2
              go_ret
              exact ⟨ret_bool (by rw [HR.out]; exact (decide_eq_false (ne_of_get HX.out HY.out HNE.out)).symm), below_drewN HB.out _⟩
          · have e1 : (x1 == y) = false := by simpa using hxy
            have e2 : (x1 != y) = true := by simpa using hxy
            have HNE := Lib.hid (show ¬ ((x1, x2) : Int × Int) = (y, z) by simp [hxy]); clear hxy
            go_wp2_with fail
            go_quiet (fail)
            go_wp2
            go_ret
            exact ⟨ret_bool (by rw [HR.out]; exact (decide_eq_false (ne_of_get HX.out HY.out HNE.out)).symm), below_drewN HB.out _⟩
        · obtain rfl : k = n := by omega
          go_wp2_with fail
          go_ret
          exact ⟨ret_bool (by rw [HR.out]; exact (decide_eq_true (take_eq_all HL.out HZL.out HE.out)).symm), hb⟩
    · subst hne1
      have hb0 : ((n : Int) == (n : Int)) = true := by simp
      have hb1 : ((n : Int) != (n : Int)) = false := by simp
      have hb2 : ((n : Int) == (n2 : Int)) = false := by simp; omega
      have hb3 : ((n : Int) != (n2 : Int)) = true := by simp; omega
      have HR := Lib.hid (show rngB l lo hi = false by unfold rngB; rw [HL.out, HL1.out, HL2.out]; simp [hne2])
      clear hne2
      go_enter Try.func24, Try.ntmps24
      go_wp2_with fail
      go_ret
      exact ⟨ret_bool HR.out.symm, Below.refl _ _⟩
  · have hb0 : ((n : Int) == (n1 : Int)) = false := by simp; omega
    have hb1 : ((n : Int) != (n1 : Int)) = true := by simp; omega
    have HR := Lib.hid (show rngB l lo hi = false by unfold rngB; rw [HL.out, HL1.out, HL2.out]; simp [hne1])
    clear hne1
    go_enter Try.func24, Try.ntmps24
    go_wp2_with fail
    go_ret
    exact ⟨ret_bool HR.out.symm, Below.refl _ _⟩
theorem span_c (a b : Int) (w : World) : Calls Try.prog 52 #[.int .i64 a, .int .i64 b] w fun e w' => e = .returned (.agg #[.int .i64 a, .int .i64 b]) ∧ Below w.heap.size w w' := by
  go_enter Try.func52, Try.ntmps52
  go_wp2_with fail
  refine bodyPost_ret (v := .agg #[.int .i64 a, .int .i64 b]) ?_ rfl ⟨rfl, (Below.refl _ w).alloc (Nat.le_refl _) _⟩
  simp [results, Try.f52, go_sem]
end Go.Proofs.Ytphdndiikikecaa
