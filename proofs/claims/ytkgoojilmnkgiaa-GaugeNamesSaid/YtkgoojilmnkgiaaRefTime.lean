/- THE CONTRACT of the reference's Time. -/
import Derived.Test.YtkgoojilmnkgiaaTimes
import Derived.BigQuiet
import Derived.Deep.QuietTactic
namespace Go.Proofs.Ytkgoojilmnkgiaa
open Go.RowKit Go.Proofs

set_option maxRecDepth 100000 in
set_option maxHeartbeats 1000000 in
theorem Time_c {l : List (Int × Int)} {A : Option Addr} {n c : Nat} {clock : Int} {w : World} (h : Rd enc2 2 w A n l) (hok : MarksOk l) (hck : 0 ≤ clock ∧ clock ≤ 1000000000) :
    Calls Try.prog 30 #[.slice A n c, .int .i64 clock] w fun e w' => (∃ v : Int, e = .returned (.int .i64 v) ∧ IsTime l clock v) ∧ Below w.heap.size w w' := by
  have hl := h.len
  obtain ⟨m, rfl⟩ : ∃ m, n = m + 1 := ⟨n - 1, by have := hok.1; omega⟩
  have hm10 : m ≤ 9 := by have := hok.2.1; omega
  have HL := Lib.hid hl; clear hl
  have HOK := Lib.hid hok; clear hok
  obtain ⟨b, o, z, hA, _, hz, hz1, hz2⟩ := h.at2 (i := 0) (by omega)
  subst hA
  obtain ⟨b', o', y, hA, _, hy, hy1, hy2⟩ := h.at2 (i := m) (by omega)
  cases hA
  simp only [Nat.zero_mul, Nat.add_zero] at hz1 hz2
  have hbz := HOK.out.mark hz
  have hby := HOK.out.mark hy
  have HZ := Lib.hid hz; clear hz
  have HY := Lib.hid hy; clear hy
  have w0 : IntKind.i64.wrap (m : Int) = (m : Int) := wi (by omega)
  have w00 : (0 : Int) < (m : Int) + 1 := by omega
  have w01 : (m : Int) < (m : Int) + 1 := by omega
  by_cases hle : clock ≤ z.1
  · have w1 : IntKind.i64.wrap (z.1 - clock) = z.1 - clock := wi (by omega)
    have w2 : IntKind.i64.wrap (z.2 - (z.1 - clock)) = z.2 - (z.1 - clock) := wi (by omega)
    have HV : Hid (IsTime l clock (z.2 - (z.1 - clock))) := by
      refine isTime_mk HOK.out HZ.out (.inl rfl) (fun u hu => ?_) (fun _ => by omega) (fun _ _ hlt => absurd hlt (by omega))
      have := HOK.out.step HZ.out hu; omega
    go_enter Try.func30, Try.ntmps30
    go_wp2
    go_quiet (fail)
    go_wp2
    go_ret
    exact ⟨⟨_, rfl, HV.out⟩, below_drewN (Below.refl _ _) _⟩
  · have hle' : z.1 < clock := by omega
    clear hle
    by_cases hge : y.1 ≤ clock
    · have w1 : IntKind.i64.wrap (clock - y.1) = clock - y.1 := wi (by omega)
      have w2 : IntKind.i64.wrap (y.2 + (clock - y.1)) = y.2 + (clock - y.1) := wi (by omega)
      have HV : Hid (IsTime l clock (y.2 + (clock - y.1))) :=
        isTime_mk HOK.out HY.out (.inr hge) (fun u hu => absurd (lt_of_get hu) (by rw [HL.out]; omega)) (fun _ => by omega) (fun u hu _ => absurd (lt_of_get hu) (by rw [HL.out]; omega))
      go_enter Try.func30, Try.ntmps30
      go_wp2
      go_quiet (fail)
      go_wp2
      go_ret
      exact ⟨⟨_, rfl, HV.out⟩, below_drewN (Below.refl _ _) _⟩
    · have hge' : clock < y.1 := by omega
      clear hge
      go_enter Try.func30, Try.ntmps30
      go_wp2_with fail
      go_loop [6] (fun i => ∃ k : Nat, k < m ∧ i = .int .i64 k ∧ ∀ x, l[k]? = some x → x.1 ≤ clock) (fun i => m - (intOf i).toNat)
      case atStart =>
        refine ⟨0, ?_, rfl, fun x hx => by rw [HZ.out] at hx; cases hx; omega⟩
        rcases Nat.eq_zero_or_pos m with h0 | h0
        · subst h0; have := HY.out; rw [HZ.out] at this; cases this; omega
        · exact h0
      case round =>
        obtain ⟨k, hk, rfl, hpre⟩ := hrel
        have HP := Lib.hid hpre; clear hpre
        obtain ⟨b', o', x, hA, _, hx, hx1, hx2⟩ := h.at2 (i := k) (by omega)
        cases hA
        obtain ⟨b', o', u, hA, _, hu, hu1, hu2⟩ := h.at2 (i := k + 1) (by omega)
        cases hA
        have hbx := HOK.out.mark hx
        have hbu := HOK.out.mark hu
        have hst := HOK.out.step hx hu
        have hxc := HP.out x hx
        have HX := Lib.hid hx; clear hx
        have HU := Lib.hid hu; clear hu
        by_cases hc : u.1 ≤ clock
        · have hk1 : k + 1 < m := by
            rcases Nat.lt_or_ge (k + 1) m with h' | h'
            · exact h'
            · obtain rfl : m = k + 1 := by omega
              have := HY.out; rw [HU.out] at this; cases this; omega
          go_wp2
          go_round
          case rel => exact ⟨k + 1, hk1, by go_num, fun x' hx' => by rw [HU.out] at hx'; cases hx'; exact hc⟩
          case measure => simp [intOf] <;> omega
        · have hc' : clock < u.1 := by omega
          clear hc
          have HV : Hid (IsTime l clock (x.2 + (clock - x.1) * (u.2 - x.2) / (u.1 - x.1))) := by
            refine isTime_mk HOK.out HX.out (.inr hxc) (fun u' hu' => by rw [HU.out] at hu'; cases hu'; exact hc') (fun hh => ?_) (fun y' hy' _ => by rw [HU.out] at hy'; cases hy'; rfl)
            rcases hh with hh | hh
            · have : clock - x.1 = 0 := by omega
              rw [this, Int.zero_mul, Int.zero_ediv]; omega
            · rw [HL.out] at hh; omega
          have hmul := interp_bounds (a := clock - x.1) (b := u.2 - x.2) (c := u.1 - x.1) (d := u.2 - x.2) (by omega) (by omega) (by omega) (by omega) (by omega) (Int.le_refl _)
          have w1 : IntKind.i64.wrap (clock - x.1) = clock - x.1 := wi (by omega)
          have w2 : IntKind.i64.wrap (u.2 - x.2) = u.2 - x.2 := wi (by omega)
          have w3 : IntKind.i64.wrap (u.1 - x.1) = u.1 - x.1 := wi (by omega)
          have w4 : IntKind.i64.wrap ((clock - x.1) * (u.2 - x.2)) = (clock - x.1) * (u.2 - x.2) := wi (by omega)
          have w5 : ((clock - x.1) * (u.2 - x.2)).tdiv (u.1 - x.1) = (clock - x.1) * (u.2 - x.2) / (u.1 - x.1) := Int.tdiv_eq_ediv_of_nonneg (by omega)
          have w6 : IntKind.i64.wrap ((clock - x.1) * (u.2 - x.2) / (u.1 - x.1)) = (clock - x.1) * (u.2 - x.2) / (u.1 - x.1) := wi (by omega)
          have w7 : IntKind.i64.wrap (x.2 + (clock - x.1) * (u.2 - x.2) / (u.1 - x.1)) = x.2 + (clock - x.1) * (u.2 - x.2) / (u.1 - x.1) := wi (by omega)
          have w8 : IntKind.i64.wrap ((k : Int) + 1) = (k : Int) + 1 := wi (by omega)
          have t1 : ((k : Int) + 1).toNat = k + 1 := by omega
          have b1 : (0 : Int) ≤ (k : Int) + 1 := by omega
          have b2 : (k : Int) + 1 < (m : Int) + 1 := by omega
          have b3 : (k : Int) < (m : Int) + 1 := by omega
          go_wp2
          go_quiet (fail)
          go_wp2
          go_ret
          exact ⟨⟨_, rfl, HV.out⟩, below_drewN (Below.refl _ _) _⟩
end Go.Proofs.Ytkgoojilmnkgiaa
