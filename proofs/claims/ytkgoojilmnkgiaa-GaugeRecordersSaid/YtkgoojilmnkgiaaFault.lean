/- THE CONTRACTS of the reference's Right and Fault. -/
import Derived.Test.YtkgoojilmnkgiaaCheck
import Derived.Test.YtkgoojilmnkgiaaTimes
import Derived.BigQuiet
import Derived.Deep.QuietTactic
namespace Go.Proofs.Ytkgoojilmnkgiaa
open Go.RowKit Go.Proofs

set_option maxHeartbeats 400000 in
theorem rright_c (r : Rdg) (w : World) :
    Calls Try.prog 56 #[.agg #[.int .i64 r.ins, .int .i64 r.num, .int .i64 r.tim, .int .i64 r.val]] w fun e w' => e = .returned (.bool (validB r)) ∧ Below w.heap.size w w' := by
  have hv : validB r = (inB r.ins 0 255 && inB r.num 0 65535 && inB r.tim 0 1000000000 && inB r.val (-1000000000) 1000000000) := rfl
  cases h1 : inB r.ins 0 255
  · have hm : validB r = false := by rw [hv, h1]; rfl
    have HM := Lib.hid hm; clear hm hv
    go_enter Try.func56, Try.ntmps56
    go_wp2_with (go_at_call 29; refine (In_c _ _ _ _).mono ?_; rintro e w' ⟨rfl, rfl⟩)
    go_ret
    exact ⟨ret_bool HM.out.symm, (Below.refl _ _).alloc (Nat.le_refl _) _⟩
  · cases h2 : inB r.num 0 65535
    · have hm : validB r = false := by rw [hv, h1, h2]; rfl
      have HM := Lib.hid hm; clear hm hv
      go_enter Try.func56, Try.ntmps56
      go_wp2_with (go_at_call 29; refine (In_c _ _ _ _).mono ?_; rintro e w' ⟨rfl, rfl⟩)
      go_ret
      exact ⟨ret_bool HM.out.symm, (Below.refl _ _).alloc (Nat.le_refl _) _⟩
    · cases h3 : inB r.tim 0 1000000000
      · have hm : validB r = false := by rw [hv, h1, h2, h3]; rfl
        have HM := Lib.hid hm; clear hm hv
        go_enter Try.func56, Try.ntmps56
        go_wp2_with (go_at_call 29; refine (In_c _ _ _ _).mono ?_; rintro e w' ⟨rfl, rfl⟩)
        go_ret
        exact ⟨ret_bool HM.out.symm, (Below.refl _ _).alloc (Nat.le_refl _) _⟩
      · have hm : validB r = inB r.val (-1000000000) 1000000000 := by rw [hv, h1, h2, h3]; rfl
        have HM := Lib.hid hm; clear hm hv
        go_enter Try.func56, Try.ntmps56
        go_wp2_with (go_at_call 29; refine (In_c _ _ _ _).mono ?_; rintro e w' ⟨rfl, rfl⟩)
        go_ret
        exact ⟨ret_bool HM.out.symm, (Below.refl _ _).alloc (Nat.le_refl _) _⟩

theorem errL_long {ls : List Lst} (h : 6 < ls.length) : errL ls = 3 := by unfold errL; rw [if_pos (.inl h)]
theorem errL_wide {ls : List Lst} (h : allB shortB ls = false) : errL ls = 3 := by unfold errL; rw [if_pos (.inr h)]
theorem errL_bad {ls : List Lst} (h : ls.length ≤ 6) (hs : allB shortB ls = true) (hv : allB valB ls = false) : errL ls = 1 := by
  unfold errL; rw [if_neg (by rw [hs]; simp; omega), if_pos hv]
theorem errL_ok {ls : List Lst} (h : ls.length ≤ 6) (hs : allB shortB ls = true) (hv : allB valB ls = true) : errL ls = 0 := by
  unfold errL; rw [if_neg (by rw [hs]; simp; omega), if_neg (by rw [hv]; simp)]

set_option maxRecDepth 100000 in
set_option maxHeartbeats 1000000 in
theorem Fault_c {ls : List Lst} {A : Option Addr} {n c : Nat} {w : World} (h : RdLL w A n ls) (hn : n ≤ maxLen) :
    Calls Try.prog 20 #[.slice A n c] w fun e w' => e = .returned (.int .i64 (errL ls)) ∧ Below w.heap.size w w' := by
  have hl := h.1.len
  have HL := Lib.hid hl; clear hl
  have HH := Lib.hid h; clear h
  by_cases h6 : 6 < n
  · have HE := Lib.hid (errL_long (by rw [HL.out]; exact h6))
    go_enter Try.func20, Try.ntmps20
    go_wp2_with fail
    go_ret
    exact ⟨ret_int HE.out.symm, Below.refl _ _⟩
  · go_enter Try.func20, Try.ntmps20
    go_wp2_with fail
    go_loop [3] (fun i => ∃ k : Nat, k ≤ n ∧ i = .int .i64 k ∧ ∀ (i : Nat) (x : Lst), i < k → ls[i]? = some x → shortB x = true) (fun i => n - (intOf i).toNat)
    case atStart => exact ⟨0, Nat.zero_le _, rfl, fun i x hi => absurd hi (by omega)⟩
    case round =>
      obtain ⟨k, hk, rfl, hall⟩ := hrel
      have HA := Lib.hid hall; clear hall
      by_cases hlt : k < n
      · obtain ⟨b, o, x, hA, _, hx, h0⟩ := HH.out.1.atL hlt
        subst hA
        have HX := Lib.hid hx; clear hx
        have hkn : (k : Int) < (n : Int) := by omega
        by_cases hs : x.n ≤ 200
        · have hs' : ¬ (200 : Int) < (x.n : Int) := by omega
          go_wp2_with fail
          go_round
          case rel => exact ⟨k + 1, by omega, by go_num, fun i y hi hy => by
            rcases Nat.lt_or_ge i k with h' | h'
            · exact HA.out i y h' hy
            · obtain rfl : i = k := by omega
              rw [HX.out] at hy; cases hy; simp [shortB, hs]⟩
          case measure => simp [intOf] <;> omega
        · have hs' : (200 : Int) < (x.n : Int) := by omega
          have HE := Lib.hid (errL_wide (ls := ls) (allB_not.2 ⟨k, x, HX.out, by simp [shortB]; omega⟩))
          go_wp2_with fail
          go_ret
          exact ⟨ret_int HE.out.symm, Below.refl _ _⟩
      · obtain rfl : k = n := by omega
        have HS := Lib.hid (show allB shortB ls = true from allB_iff.2 fun i x hx => HA.out i x (by have := lt_of_get hx; rw [HL.out] at this; exact this) hx)
        clear HA
        go_wp2_with fail
        go_loopw [4] (fun i wr => ∃ m : Nat, m ≤ k ∧ i = .int .i64 m ∧ Below w.heap.size w wr ∧ ∀ (i : Nat) (x : Lst), i < m → ls[i]? = some x → valB x = true) (fun i _ => k - (intOf i).toNat)
        case atStart => exact ⟨0, Nat.zero_le _, rfl, Below.refl _ _, fun i x hi => absurd hi (by omega)⟩
        case round =>
          obtain ⟨m, hm, rfl, hb, hall⟩ := hrel
          have HA := Lib.hid hall; clear hall
          have HB := Lib.hid hb; clear hb
          by_cases hlt2 : m < k
          · have hH := HH.out.below HB.out
            obtain ⟨b, o, x, hA, hbl, hx, h0⟩ := hH.1.atL hlt2
            subst hA
            obtain ⟨hrx, hxn, hxc⟩ := hH.2 m x hx
            have HRX := Lib.hid hrx; have HX := Lib.hid hx; clear hrx hx hH
            have hxn' := hxn
            unfold maxLen at hxn'
            have hmn : (m : Int) < (k : Int) := by omega
            obtain ⟨wo, rfl⟩ : ∃ wo : World, wo = wr := ⟨_, rfl⟩
            go_wp2_with fail
            go_loopw [5] (fun j w2 => ∃ q : Nat, q ≤ x.n ∧ j = .int .i64 q ∧ Below wo.heap.size wo w2 ∧ ∀ (i : Nat) (y : Rdg), i < q → x.l[i]? = some y → validB y = true) (fun j _ => x.n - (intOf j).toNat)
            case atStart => exact ⟨0, Nat.zero_le _, rfl, Below.refl _ _, fun i y hi => absurd hi (by omega)⟩
            case round =>
              obtain ⟨q, hq, rfl, hb2, hall2⟩ := hrel
              have HA2 := Lib.hid hall2; have HB2 := Lib.hid hb2; clear hall2 hb2
              have h0' := (HB2.out.cell (p := ⟨b, o + m, none⟩) hbl).trans h0
              clear h0
              by_cases hlt3 : q < x.n
              · obtain ⟨b', o', y, hA, _, hy, y0, y1, y2, y3⟩ := (HRX.out.below HB2.out).at4 hlt3
                have HY := Lib.hid hy; clear hy
                rw [hA] at h0'
                have hqn : (q : Int) < (x.n : Int) := by omega
                have hrc := fun W => rright_c y W
                cases hv : validB y <;> rw [hv] at hrc <;> have HRC := Lib.hid hrc <;> clear hrc
                · have HE := Lib.hid (errL_bad (ls := ls) (by rw [HL.out]; omega) HS.out (allB_not.2 ⟨m, x, HX.out, allB_not.2 ⟨q, y, HY.out, hv⟩⟩))
                  go_wp2_with fail
                  refine (HRC.out _).mono ?_
                  rintro e w3 ⟨rfl, hb3⟩
                  go_wp2_with fail
                  go_ret
                  exact ⟨ret_int HE.out.symm, below_tr HB.out (below_tr HB2.out hb3)⟩
                · go_wp2_with fail
                  refine (HRC.out _).mono ?_
                  rintro e w3 ⟨rfl, hb3⟩
                  go_wp2_with fail
                  go_roundw
                  case rel => exact ⟨q + 1, by omega, by go_num, below_tr HB2.out hb3, fun i z hi hz => by
                    rcases Nat.lt_or_ge i q with h' | h'
                    · exact HA2.out i z h' hz
                    · obtain rfl : i = q := by omega
                      rw [HY.out] at hz; cases hz; exact hv⟩
                  case measure => simp [intOf] <;> omega
              · obtain rfl : q = x.n := by omega
                have HV := Lib.hid (show valB x = true from allB_iff.2 fun i y hy => HA2.out i y (by have := lt_of_get hy; have := HRX.out.len; omega) hy)
                have hqq : ¬ (x.n : Int) < (x.n : Int) := by omega
                go_wp2_with fail
                go_roundw
                case rel => exact ⟨m + 1, by omega, by go_num, below_tr HB.out HB2.out, fun i z hi hz => by
                  rcases Nat.lt_or_ge i m with h' | h'
                  · exact HA.out i z h' hz
                  · obtain rfl : i = m := by omega
                    rw [HX.out] at hz; cases hz; exact HV.out⟩
                case measure => simp [intOf] <;> omega
          · obtain rfl : m = k := by omega
            have HE := Lib.hid (errL_ok (ls := ls) (by rw [HL.out]; omega) HS.out (allB_iff.2 fun i x hx => HA.out i x (by have := lt_of_get hx; rw [HL.out] at this; exact this) hx))
            go_wp2_with fail
            go_ret
            exact ⟨ret_int HE.out.symm, HB.out⟩
end Go.Proofs.Ytkgoojilmnkgiaa
