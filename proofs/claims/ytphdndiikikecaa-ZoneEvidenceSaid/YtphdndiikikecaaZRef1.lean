/- CONTRACTS of the reference's and the law's small functions on valleys: list, upTo, Hits, Zone, Ends, Danger. -/
import Derived.Test.YtphdndiikikecaaZHitLaw
import Derived.Test.YtphdndiikikecaaZWakes
import Derived.BigQuiet
namespace Go.Proofs.Ytphdndiikikecaa
open Go.RowKit Go.Proofs

set_option maxHeartbeats 400000 in
theorem list_c {l : List Int} {A : Option Addr} {n c : Nat} {w : World} (h : Rd enc1 1 w A n l) (hn : n ≤ 1000000) :
    Calls Try.prog 32 #[.slice A n c] w fun e w' => ∃ v, e = .returned v ∧ w'.ownsRow w.heap.size 3 1 v n (l.flatMap enc1) ∧ Below w.heap.size w w' := by
  obtain ⟨i0, hi0, hz0, hz1, hz2⟩ := info_parts infoZ
  have HI := Lib.hid hi0; have HZ0 := Lib.hid hz0; have HZ1 := Lib.hid hz1; have HZ2 := Lib.hid hz2
  clear hi0 hz0 hz1 hz2
  go_enter Try.func32, Try.ntmps32
  go_wp2_with (at_builtin; go_must (refine wpList_append_rd rfl _ _ 39 rfl w.heap.size 3 i0 (.int .i64 0) 1 8 Try.underlying39 HI.out HZ0.out HZ1.out HZ2.out rfl (by decide) _ _ _ rfl (own_empty w 3 1) enc1_len oneZ A n c l rfl (h.below ((Below.refl _ w).alloc (Nat.le_refl _) _)) (by unfold maxLen; omega) (by omega) (by simp) ?_; intro v1 w1 hown hgrow))
  have HB := Lib.hid (((Below.refl _ w).alloc (Nat.le_refl _) _).grown hgrow (by simp) (fun g hg => ((own_empty w 3 1).lt g hg).1))
  rw [Nat.zero_add, List.nil_append] at hown
  have HO := Lib.hid hown
  clear hown hgrow
  go_wp2_with fail
  go_ret
  exact ⟨_, rfl, HO.out, HB.out⟩
theorem upTo_c (lo hi most : Int) (w : World) :
    Calls Try.prog 68 #[.agg #[.int .i64 lo, .int .i64 hi], .int .i64 most] w fun e w' => e = .returned (.bool (upB lo hi most)) ∧ Below w.heap.size w w' := by
  by_cases h : 0 ≤ lo
  · by_cases h2 : lo ≤ hi
    · go_enter Try.func68, Try.ntmps68
      go_wp2
      go_ret
      exact ⟨ret_bool (by simp [upB, h, h2]), (Below.refl _ _).alloc (Nat.le_refl _) _⟩
    · have h3 : hi < lo := by omega
      go_enter Try.func68, Try.ntmps68
      go_wp2
      go_ret
      exact ⟨ret_bool (by simp [upB]; omega), (Below.refl _ _).alloc (Nat.le_refl _) _⟩
  · have h' : lo < 0 := by omega
    go_enter Try.func68, Try.ntmps68
    go_wp2
    go_ret
    exact ⟨ret_bool (by simp [upB]; omega), (Below.refl _ _).alloc (Nat.le_refl _) _⟩
set_option maxRecDepth 100000 in
set_option maxHeartbeats 400000 in
theorem Hits_c {way : List Int} {A : Option Addr} {n c m : Nat} (rate lo hi p : Int) {w : World} (h : Rd enc1 1 w A n way) (hn : n ≤ 1000000) (hm : m ≤ 1000000) :
    Calls Try.prog 77 #[.agg #[.slice A n c, .int .i64 rate, .int .i64 lo, .int .i64 hi], .int .i64 (m : Int), .int .i64 p] w fun e w' => e = .returned (.bool (decide (p ∈ way.take m))) ∧ Below w.heap.size w w' := by
  have HL := Lib.hid h.len
  obtain ⟨R, hR⟩ : ∃ R, R = decide (p ∈ way.take m) := ⟨_, rfl⟩
  rw [← hR]
  have HR := Lib.hid hR
  clear hR
  have hb0 : Below w.heap.size w (w.alloc (.cells #[.slice A n c, .int .i64 rate, .int .i64 lo, .int .i64 hi] 62)) := (Below.refl _ w).alloc (Nat.le_refl _) _
  have HB0 := Lib.hid hb0
  have HH := Lib.hid (h.below hb0)
  clear hb0 h
  go_enter Try.func77, Try.ntmps77
  go_wp2_with fail
  go_loopw [7] (fun i wr => ∃ k : Nat, k ≤ m ∧ k ≤ n ∧ i = .int .i64 k ∧ (p ∉ way.take k) ∧ wr = w.alloc (.cells #[.slice A n c, .int .i64 rate, .int .i64 lo, .int .i64 hi] 62)) (fun i _ => n - (intOf i).toNat)
  case atStart => exact ⟨0, Nat.zero_le _, Nat.zero_le _, rfl, by simp, rfl⟩
  case round =>
    obtain ⟨k, hk, hk', rfl, hno, rfl⟩ := hrel
    have HN := Lib.hid hno; clear hno
    by_cases hkm : k < m
    · have hkm' : (k : Int) < (m : Int) := by omega
      by_cases hkn : k < n
      · obtain ⟨b, o, x, hA, hbl, hx, h0⟩ := HH.out.at1 hkn
        subst hA
        have hkn' : (k : Int) < (n : Int) := by omega
        have hk0 : (0 : Int) ≤ (k : Int) := by omega
        have HX := Lib.hid hx
        clear hx
        by_cases hxp : x = p
        · subst hxp
          have hin : decide (x ∈ way.take m) = true := decide_eq_true (List.mem_of_getElem? (i := k) (by rw [List.getElem?_take, if_pos hkm]; exact HX.out))
          have HIN := Lib.hid hin; clear hin
          go_wp2_with fail
          go_ret
          exact ⟨ret_bool (by rw [HR.out, HIN.out]), HB0.out⟩
        · have hne : (x == p) = false := by rw [beq_eq_false_iff_ne]; exact hxp
          have hno : p ∉ way.take (k + 1) := by
            rw [List.take_add_one, HX.out]
            simp only [Option.toList_some, List.mem_append, List.mem_singleton, not_or]
            exact ⟨HN.out, fun e => hxp e.symm⟩
          have HNO := Lib.hid hno; clear hno
          go_wp2_with fail
          go_roundw
          case rel => exact ⟨k + 1, by omega, by omega, by go_num, HNO.out, trivial⟩
          case measure => simp [intOf] <;> omega
      · obtain rfl : k = n := by omega
        have hfin : decide (p ∈ way.take m) = false := decide_eq_false (fun hh => HN.out (by
          rw [List.take_of_length_le (by rw [HL.out]; omega)] at hh
          rw [List.take_of_length_le (by rw [HL.out]; exact Nat.le_refl _)]; exact hh))
        have HFN := Lib.hid hfin; clear hfin
        go_wp2_with fail
        go_ret
        exact ⟨ret_bool (by rw [HR.out, HFN.out]), HB0.out⟩
    · obtain rfl : k = m := by omega
      have hfin : decide (p ∈ way.take k) = false := decide_eq_false HN.out
      have HFN := Lib.hid hfin; clear hfin
      go_wp2_with fail
      go_ret
      exact ⟨ret_bool (by rw [HR.out, HFN.out]), HB0.out⟩
end Go.Proofs.Ytphdndiikikecaa
