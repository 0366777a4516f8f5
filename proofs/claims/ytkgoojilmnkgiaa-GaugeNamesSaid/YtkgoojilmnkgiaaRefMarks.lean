/- THE CONTRACTS of the reference's RightMarks and Time. -/
import Derived.Test.YtkgoojilmnkgiaaTimes
import Derived.BigQuiet
import Derived.Deep.QuietTactic
namespace Go.Proofs.Ytkgoojilmnkgiaa
open Go.RowKit Go.Proofs

set_option maxRecDepth 100000 in
set_option maxHeartbeats 1000000 in
theorem RightMarks_c {l : List (Int × Int)} {A : Option Addr} {n c : Nat} {w : World} (h : Rd enc2 2 w A n l) (hn : n ≤ maxLen) :
    Calls Try.prog 28 #[.slice A n c] w fun e w' => e = .returned (.bool (marksB l)) ∧ Below w.heap.size w w' := by
  have hl := h.len
  have HL := Lib.hid hl; clear hl
  unfold maxLen at hn
  go_enter Try.func28, Try.ntmps28
  go_wp2_with fail
  go_loopw [3] (fun i wr => ∃ k : Nat, k ≤ n ∧ i = .int .i64 k ∧ Below w.heap.size w wr ∧ (∀ (i : Nat) (x : Int × Int), i < k → l[i]? = some x → markB x = true) ∧ Rising l (k - 1)) (fun i _ => n - (intOf i).toNat)
  case atStart => exact ⟨0, by omega, rfl, Below.refl _ _, fun i x hi => absurd hi (by omega), Rising.zero l⟩
  case round =>
    obtain ⟨k, hk, rfl, hb, hall, hris⟩ := hrel
    have HA := Lib.hid hall; clear hall
    have HR := Lib.hid hris; clear hris
    by_cases hlt : k < n
    · obtain ⟨b, o, x, hA, _, hx, hx1, hx2⟩ := (h.below hb).at2 (i := k) hlt
      subst hA
      have HX := Lib.hid hx; clear hx
      have hkn' : (k : Int) < (n : Int) := by omega
      have hno : markB x = false → ¬ MarksOk l := fun hm hok => by rw [allB_iff.1 hok.2.2.1 k x HX.out] at hm; cases hm
      have HNO := Lib.hid hno; clear hno
      have hfin : ∀ m : Nat, Below w.heap.size w (wr.drewN m) := fun m => below_drewN hb m
      have HF := Lib.hid hfin; clear hfin
      cases hi1 : inB x.1 0 1000000000
      · go_wp2
        go_quiet ((go_at_call 29; (first | exact quiet_left (In_c _ _ _ _) | exact quiet_add_left (In_c _ _ _ _))))
        go_wp2
        go_ret
        exact ⟨ret_bool (marksB_no (HNO.out (by simp [markB, hi1]))).symm, HF.out _⟩
      · cases hi2 : inB x.2 0 1000000000
        · go_wp2
          go_quiet ((go_at_call 29; (first | exact quiet_left (In_c _ _ _ _) | exact quiet_add_left (In_c _ _ _ _))))
          go_wp2
          go_ret
          exact ⟨ret_bool (marksB_no (HNO.out (by simp [markB, hi2]))).symm, HF.out _⟩
        · have hmx : markB x = true := by simp [markB, hi1, hi2]
          have HMX := Lib.hid hmx; clear hmx
          have hall' : ∀ (i : Nat) (u : Int × Int), i < k + 1 → l[i]? = some u → markB u = true := fun i u hi hu => by
            rcases Nat.lt_or_ge i k with h' | h'
            · exact HA.out i u h' hu
            · obtain rfl : i = k := by omega
              rw [HX.out] at hu; cases hu; exact HMX.out
          have HA' := Lib.hid hall'; clear hall'
          by_cases hk0 : k = 0
          · subst hk0
            simp only [Nat.zero_mul, Nat.add_zero] at hx1 hx2
            go_wp2
            go_quiet ((go_at_call 29; (first | exact quiet_left (In_c _ _ _ _) | exact quiet_add_left (In_c _ _ _ _))))
            go_wp2
            go_roundw
            case rel => exact ⟨1, by omega, rfl, HF.out _, HA'.out, Rising.zero l⟩
            case measure => simp [intOf] <;> omega
          · obtain ⟨k', rfl⟩ : ∃ k', k = k' + 1 := ⟨k - 1, by omega⟩
            obtain ⟨b', o', p, hA, _, hp, hp1, hp2⟩ := (h.below hb).at2 (i := k') (by omega)
            cases hA
            have HP := Lib.hid hp; clear hp
            have hsub : IntKind.i64.wrap ((k' : Int) + 1 - 1) = (k' : Int) := by rw [IntWalk.i64_in _ (by omega)]; omega
            have hsub2 : IntKind.i64.wrap (k' : Int) = (k' : Int) := IntWalk.i64_in _ (by omega)
            have hkk : (k' : Int) < (n : Int) := by omega
            have hb1 : (0 : Int) ≤ (k' : Int) + 1 := by omega
            have hb2 : (k' : Int) + 1 < (n : Int) := by omega
            have ht1 : ((k' : Int) + 1).toNat = k' + 1 := by omega
            have hk0' : decide ((0 : Int) < (k' : Int) + 1) = true := decide_eq_true (by omega)
            by_cases hd1 : x.1 ≤ p.1
            · go_wp2
              go_quiet ((go_at_call 29; (first | exact quiet_left (In_c _ _ _ _) | exact quiet_add_left (In_c _ _ _ _))))
              go_wp2
              go_ret
              exact ⟨ret_bool (marksB_no (not_rising (m := k') (by rw [HL.out]; omega) HP.out HX.out (.inl hd1))).symm, HF.out _⟩
            · have hd1' : p.1 < x.1 := by omega
              clear hd1
              by_cases hd2 : x.2 ≤ p.2
              · go_wp2
                go_quiet ((go_at_call 29; (first | exact quiet_left (In_c _ _ _ _) | exact quiet_add_left (In_c _ _ _ _))))
                go_wp2
                go_ret
                exact ⟨ret_bool (marksB_no (not_rising (m := k') (by rw [HL.out]; omega) HP.out HX.out (.inr hd2))).symm, HF.out _⟩
              · have hd2' : p.2 < x.2 := by omega
                clear hd2
                go_wp2
                go_quiet ((go_at_call 29; (first | exact quiet_left (In_c _ _ _ _) | exact quiet_add_left (In_c _ _ _ _))))
                go_wp2
                go_roundw
                case rel => exact ⟨k' + 1 + 1, by omega, by go_num, HF.out _, HA'.out, HR.out.succ HP.out HX.out hd1' hd2'⟩
                case measure => simp [intOf]; omega
    · obtain rfl : k = n := by omega
      have hfin : inB (k : Int) 1 10 = marksB l := by
        cases hin : inB (k : Int) 1 10
        · refine (marksB_no fun hok => ?_).symm
          have := inB_not.1 hin; have := hok.1; have := hok.2.1; have := HL.out; omega
        · have := inB_iff.1 hin
          refine (marksB_yes ⟨by rw [HL.out]; omega, by rw [HL.out]; omega, allB_iff.2 fun i x hx => HA.out i x (by have := lt_of_get hx; rw [HL.out] at this; exact this) hx, by rw [HL.out]; exact HR.out⟩).symm
      have HFin := Lib.hid hfin; clear hfin
      go_wp2_with (go_at_call 29; refine (In_c _ _ _ _).mono ?_; rintro e w' ⟨rfl, rfl⟩)
      go_ret
      exact ⟨ret_bool HFin.out, hb⟩
end Go.Proofs.Ytkgoojilmnkgiaa
