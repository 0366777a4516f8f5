/- THE CONTRACT of gauge.Right: marks that are not right, a clock that is no time, and else the right time. -/
import Derived.Test.YtkgoojilmnkgiaaMarks
import Derived.BigQuiet
import Derived.Deep.QuietTactic
namespace Go.Proofs.Ytkgoojilmnkgiaa
open Go.RowKit Go.Proofs

set_option maxRecDepth 100000 in
theorem Right_early {l : List (Int × Int)} {A : Option Addr} {n c : Nat} {clock : Int} {w : World} (h : Rd enc2 2 w A n l) (hn : n ≤ maxLen) (hbad : inB n 1 10 = false ∨ allB markB l = false) :
    Calls Try.prog 26 #[.slice A n c, .int .i64 clock] w fun e w' => e = .returned (.tuple #[.int .i64 0, .int .i64 1]) ∧ Below w.heap.size w w' := by
  cases hin : inB n 1 10
  · go_enter Try.func26, Try.ntmps26
    go_wp2
    go_step3
    go_wp2_with (first | (go_at_call 63; refine (within_c _ _ _ _).mono ?_; rintro e w' ⟨rfl, rfl⟩) | (go_at_call 64; refine (allMarks h hn).mono ?_; rintro e w' ⟨rfl, hb⟩))
    (try rw [Exit.noGoto_ret])
    go_ret2
    exact ⟨rfl, Below.refl _ _⟩
  · have hall : allB markB l = false := by simpa [hin] using hbad
    clear hbad
    go_enter Try.func26, Try.ntmps26
    go_wp2
    go_step3
    go_wp2_with (first | (go_at_call 63; refine (within_c _ _ _ _).mono ?_; rintro e w' ⟨rfl, rfl⟩) | (go_at_call 64; refine (allMarks h hn).mono ?_; rintro e w' ⟨rfl, hb⟩))
    (try rw [Exit.noGoto_ret])
    go_ret2
    exact ⟨rfl, hb⟩

set_option maxRecDepth 100000 in
set_option maxHeartbeats 1000000 in
theorem Right_late {l : List (Int × Int)} {A : Option Addr} {n c : Nat} {clock : Int} {w : World} (h : Rd enc2 2 w A n l) (hc : n ≤ c) (h1 : 1 ≤ n) (h10 : n ≤ 10) (hall : allB markB l = true) :
    Calls Try.prog 26 #[.slice A n c, .int .i64 clock] w fun e w' => (∃ v r : Int, e = .returned (.tuple #[.int .i64 v, .int .i64 r]) ∧ RightR l clock v r) ∧ Below w.heap.size w w' := by
  have hl := h.len
  have HL := Lib.hid hl; clear hl
  have hin : inB n 1 10 = true := inB_iff.2 ⟨by omega, by omega⟩
  obtain ⟨A1, hs, hrd⟩ := cut_from (t := 44) (e := 60) (size := 2) Try.underlying44 (fun _ => by kernel_rfl) A w h1 hc
  have hr1 := hrd enc2 l h
  clear hrd
  have hs' : ∀ W, (Instr.slice 44 (.slice A n c) (some (.int .i64 1)) none none).run Try.prog W = .ok (.slice A1 (n - 1) (c - 1)) W := hs
  clear hs
  go_enter Try.func26, Try.ntmps26
  go_wp2
  go_step3
  go_wp2_with (first | (go_at_call 63; refine (within_c _ _ _ _).mono ?_; rintro e w' ⟨rfl, rfl⟩) | (go_at_call 64; refine (allMarks h (by unfold maxLen; omega)).mono ?_; rintro e w0 ⟨rfl, hb⟩))
  clear hs'
  go_loopw [27] (fun i wr => ∃ k : Nat, k + 1 ≤ n ∧ i = .int .i64 k ∧ Below w.heap.size w wr ∧ Rising l k) (fun i _ => n - (intOf i).toNat)
  case atStart => exact ⟨0, by omega, rfl, hb, Rising.zero l⟩
  case round =>
    clear hb
    obtain ⟨k, hk, rfl, hb, hris⟩ := hrel
    have HRis := Lib.hid hris; clear hris
    by_cases hlt : k + 1 < n
    ·
      -- [A
      obtain ⟨b, o, x, hA, _, hx, hx1, hx2⟩ := (h.below hb).at2 (i := k) (by omega)
      subst hA
      obtain ⟨b', o', y, hA, _, hy, hy1, hy2⟩ := (hr1.below hb).at2 (i := k) (by omega)
      subst hA
      rw [List.getElem?_drop] at hy
      have HX := Lib.hid hx; clear hx
      have HY := Lib.hid hy; clear hy
      have hnext : ∀ wr' : World, Below wr.heap.size wr wr' → Below w.heap.size w wr' := fun _ hw => hb.trans (hw.mono hb.size)
      have HN := Lib.hid hnext; clear hnext
      have hkn : k < n := by omega
      have hkn' : (k : Int) < (n : Int) := by omega
      by_cases hd1 : y.1 ≤ x.1
      · go_wp2
        go_quiet (fail)
        go_wp2
        (try rw [Exit.noGoto_ret])
        go_ret2
        exact ⟨⟨_, _, rfl, .inl ⟨not_rising (by rw [HL.out]; omega) HX.out (by rw [Nat.add_comm]; exact HY.out) (.inl hd1), rfl, rfl⟩⟩, HN.out _ (below_drewN ((Below.refl _ _).alloc (Nat.le_refl _) _) _)⟩
      · have hd1' : x.1 < y.1 := by omega
        clear hd1
        by_cases hd2 : y.2 ≤ x.2
        · go_wp2
          go_quiet (fail)
          go_wp2
          (try rw [Exit.noGoto_ret])
          go_ret2
          exact ⟨⟨_, _, rfl, .inl ⟨not_rising (by rw [HL.out]; omega) HX.out (by rw [Nat.add_comm]; exact HY.out) (.inr hd2), rfl, rfl⟩⟩, HN.out _ (below_drewN ((Below.refl _ _).alloc (Nat.le_refl _) _) _)⟩
        · have hd2' : x.2 < y.2 := by omega
          clear hd2
          go_wp2
          go_quiet (fail)
          go_wp2
          go_roundw
          case rel => exact ⟨k + 1, by omega, by go_num, HN.out _ (below_drewN ((Below.refl _ _).alloc (Nat.le_refl _) _) _), HRis.out.succ HX.out (by rw [Nat.add_comm]; exact HY.out) hd1' hd2'⟩
          case measure => simp [intOf]; omega
      -- A]
    · have hok := Lib.hid (show MarksOk l from ⟨by rw [HL.out]; omega, by rw [HL.out]; omega, hall, HRis.out.le (by rw [HL.out]; omega)⟩)
      clear HRis hr1
      cases hcl : inB clock 0 1000000000
      · go_wp2_with (go_at_call 62; refine (tick_c _ _).mono ?_; rintro e w' ⟨rfl, rfl⟩)
        (try rw [Exit.noGoto_ret])
        go_ret2
        exact ⟨⟨_, _, rfl, .inr (.inl ⟨hok.out, hcl, rfl, rfl⟩)⟩, hb⟩
      · have hck := inB_iff.1 hcl
        go_wp2_with (go_at_call 62; refine (tick_c _ _).mono ?_; rintro e w' ⟨rfl, rfl⟩)
        have HB := Lib.hid hb; clear hb
        go_step3
        go_wp2
        go_loopw [9, 56] (fun j i wt => ∃ (j' k : Nat), k ≤ n ∧ j' < n ∧ j = .int .i64 j' ∧ i = .int .i64 k ∧ Below w.heap.size w wt ∧ ((k = 0 ∧ j' = 0) ∨ k = j' + 1) ∧ ∀ (i : Nat) (x : Int × Int), i < k → l[i]? = some x → x.1 ≤ clock) (fun _ i _ => n - (intOf i).toNat)
        case atStart => exact ⟨0, 0, by omega, by omega, rfl, rfl, HB.out, .inl ⟨rfl, rfl⟩, fun i x hi => absurd hi (by omega)⟩
        case round =>
          clear HB
          obtain ⟨j, m, hm, hj, rfl, rfl, hb, hjm, hpre⟩ := hrel
          have HJM := Lib.hid hjm; clear hjm
          have HP := Lib.hid hpre; clear hpre
          have hgo : (∃ z, l[m]? = some z ∧ z.1 ≤ clock) ∨ (m < n → ∃ z, l[m]? = some z ∧ clock < z.1) := by
            by_cases hlt2 : m < n
            · obtain ⟨z, hz⟩ := get_of_lt (l := l) (i := m) (by rw [HL.out]; omega)
              by_cases hgt : clock < z.1
              · exact .inr fun _ => ⟨z, hz, hgt⟩
              · exact .inl ⟨z, hz, by omega⟩
            · exact .inr fun hlt => absurd hlt hlt2
          rcases hgo with ⟨z, hz, hzc⟩ | hstop
          · have hlt2 : m < n := by have := lt_of_get hz; rw [HL.out] at this; omega
            obtain ⟨b, o, z', hA, _, hz', hz1, hz2⟩ := (h.below hb).at2 hlt2
            subst hA
            rw [hz] at hz'; cases hz'
            have HZ := Lib.hid hz; clear hz
            go_wp2
            go_roundw
            case rel => exact ⟨m, m + 1, by omega, by omega, rfl, by go_num, hb.trans (((Below.refl _ _).alloc (Nat.le_refl _) _).mono hb.size), .inr rfl, fun i x hi hx => by
              rcases Nat.lt_or_ge i m with h' | h'
              · exact HP.out i x h' hx
              · obtain rfl : i = m := by omega
                rw [HZ.out] at hx; cases hx; exact hzc⟩
            case measure => simp [intOf]; omega
          · have HS := Lib.hid hstop; clear hstop
            obtain ⟨b, o, x, hA, _, hx, hx1, hx2⟩ := (h.below hb).at2 hj
            subst hA
            have hbx := hok.out.mark hx
            have hlo : j = 0 ∨ x.1 ≤ clock := by
              rcases HJM.out with ⟨_, h0⟩ | h0
              · exact .inl h0
              · exact .inr (HP.out j x (by omega) hx)
            have hhi : ∀ y, l[j + 1]? = some y → clock < y.1 := by
              intro y hy
              have hyn := lt_of_get hy
              rw [HL.out] at hyn
              rcases HJM.out with ⟨h0, h1⟩ | h0
              · obtain ⟨z, hz, hzc⟩ := HS.out (by omega)
                subst h0; subst h1; rw [hx] at hz; cases hz
                have := hok.out.step hx hy; omega
              · obtain ⟨z, hz, hzc⟩ := HS.out (by omega)
                rw [h0, hy] at hz; cases hz; exact hzc
            have HLO := Lib.hid hlo; clear hlo
            have HHI := Lib.hid hhi; clear hhi
            have HX := Lib.hid hx; clear hx
            have hz : m < n → ∃ z : Int × Int, clock < z.1 ∧ wr.cell? ⟨b, o + m * 2, none⟩ = some (.int .i64 z.1) ∧ wr.cell? ⟨b, o + m * 2 + 1, none⟩ = some (.int .i64 z.2) := by
              intro hlt2
              obtain ⟨z, hz, hzc⟩ := HS.out hlt2
              obtain ⟨b', o', z', hA, _, hz', hz1, hz2⟩ := (h.below hb).at2 hlt2
              cases hA
              rw [hz] at hz'; cases hz'
              exact ⟨z, hzc, hz1, hz2⟩
            have HZ := Lib.hid hz; clear hz HS HP HJM
            have hjn : (j : Int) < (n : Int) := by omega
            have hfin : ∀ w' : World, Below wr.heap.size wr w' → Below w.heap.size w w' := fun w' hw => hb.trans (hw.mono hb.size)
            have HF := Lib.hid hfin; clear hfin
            by_cases hle : clock ≤ x.1
            · by_cases hlt2 : m < n
              · obtain ⟨z, hzc, hz1, hz2⟩ := HZ.out hlt2
                go_wp2
                (try rw [Exit.noGoto_ret])
                go_ret2
                exact ⟨⟨_, _, rfl, .inr (.inr ⟨hok.out, hcl, rfl, isTime_mk hok.out HX.out HLO.out HHI.out (fun _ => rfl) (fun y hy hlt => absurd hlt (by omega))⟩)⟩, HF.out _ (((Below.refl _ _).alloc (Nat.le_refl _) _).alloc (by simp) _)⟩
              · go_wp2
                (try rw [Exit.noGoto_ret])
                go_ret2
                exact ⟨⟨_, _, rfl, .inr (.inr ⟨hok.out, hcl, rfl, isTime_mk hok.out HX.out HLO.out HHI.out (fun _ => rfl) (fun y hy hlt => absurd hlt (by omega))⟩)⟩, HF.out _ ((Below.refl _ _).alloc (Nat.le_refl _) _)⟩
            · by_cases hlast : j + 1 = n
              · obtain rfl : n = j + 1 := by omega
                have HV : Hid (IsTime l clock (x.2 + clock - x.1)) := isTime_mk hok.out HX.out HLO.out HHI.out (fun _ => rfl) (fun y hy _ => absurd (lt_of_get hy) (by rw [HL.out]; omega))
                by_cases hlt2 : m < j + 1
                · obtain ⟨z, hzc, hz1, hz2⟩ := HZ.out hlt2
                  go_wp2
                  (try rw [Exit.noGoto_ret])
                  go_ret2
                  exact ⟨⟨_, _, rfl, .inr (.inr ⟨hok.out, hcl, rfl, HV.out⟩)⟩, HF.out _ (((Below.refl _ _).alloc (Nat.le_refl _) _).alloc (by simp) _)⟩
                · go_wp2
                  (try rw [Exit.noGoto_ret])
                  go_ret2
                  exact ⟨⟨_, _, rfl, .inr (.inr ⟨hok.out, hcl, rfl, HV.out⟩)⟩, HF.out _ ((Below.refl _ _).alloc (Nat.le_refl _) _)⟩
              · obtain ⟨b', o', y, hA, _, hy, hy1, hy2⟩ := (h.below hb).at2 (i := j + 1) (by omega)
                cases hA
                have hby := hok.out.mark hy
                have hst := hok.out.step HX.out hy
                have hcy := HHI.out y hy
                have HV : Hid (IsTime l clock (x.2 + (clock - x.1) * (y.2 - x.2) / (y.1 - x.1))) :=
                  isTime_mk hok.out HX.out HLO.out HHI.out (fun hh => by rcases hh with hh | hh <;> (try rw [HL.out] at hh) <;> omega) (fun y' hy' _ => by rw [hy] at hy'; cases hy'; rfl)
                have HY := Lib.hid hy; clear hy
                have hjj : ((j : Int) + 1) < (n : Int) := by omega
                have hmul := interp_bounds (a := clock - x.1) (b := y.2 - x.2) (c := y.1 - x.1) (d := y.2 - x.2) (by omega) (by omega) (by omega) (by omega) (by omega) (Int.le_refl _)
                have w1 : IntKind.i64.wrap (clock - x.1) = clock - x.1 := IntWalk.i64_in _ (by omega)
                have w2 : IntKind.i64.wrap (y.2 - x.2) = y.2 - x.2 := IntWalk.i64_in _ (by omega)
                have w3 : IntKind.i64.wrap (y.1 - x.1) = y.1 - x.1 := IntWalk.i64_in _ (by omega)
                have w4 : IntKind.i64.wrap ((clock - x.1) * (y.2 - x.2)) = (clock - x.1) * (y.2 - x.2) := IntWalk.i64_in _ (by omega)
                have w5 : ((clock - x.1) * (y.2 - x.2)).tdiv (y.1 - x.1) = (clock - x.1) * (y.2 - x.2) / (y.1 - x.1) := Int.tdiv_eq_ediv_of_nonneg (by omega)
                have w6 : IntKind.i64.wrap ((clock - x.1) * (y.2 - x.2) / (y.1 - x.1)) = (clock - x.1) * (y.2 - x.2) / (y.1 - x.1) := IntWalk.i64_in _ (by omega)
                have w7 : IntKind.i64.wrap (x.2 + (clock - x.1) * (y.2 - x.2) / (y.1 - x.1)) = x.2 + (clock - x.1) * (y.2 - x.2) / (y.1 - x.1) := IntWalk.i64_in _ (by omega)
                by_cases hlt2 : m < n
                · obtain ⟨z, hzc, hz1, hz2⟩ := HZ.out hlt2
                  go_wp2
                  go_quiet (fail)
                  go_wp2
                  (try rw [Exit.noGoto_ret])
                  go_ret2
                  exact ⟨⟨_, _, rfl, .inr (.inr ⟨hok.out, hcl, rfl, HV.out⟩)⟩, HF.out _ (below_drewN ((((Below.refl _ _).alloc (Nat.le_refl _) _).alloc (by simp) _).alloc (by simp; omega) _) _)⟩
                · go_wp2
                  go_quiet (fail)
                  go_wp2
                  (try rw [Exit.noGoto_ret])
                  go_ret2
                  exact ⟨⟨_, _, rfl, .inr (.inr ⟨hok.out, hcl, rfl, HV.out⟩)⟩, HF.out _ (below_drewN (((Below.refl _ _).alloc (Nat.le_refl _) _).alloc (by simp) _) _)⟩
/-- gauge.Right, whatever the marks and the clock. -/
theorem Right_c {l : List (Int × Int)} {A : Option Addr} {n c : Nat} {clock : Int} {w : World} (h : Rd enc2 2 w A n l) (hn : n ≤ maxLen) (hc : n ≤ c) :
    Calls Try.prog 26 #[.slice A n c, .int .i64 clock] w fun e w' => (∃ v r : Int, e = .returned (.tuple #[.int .i64 v, .int .i64 r]) ∧ RightR l clock v r) ∧ Below w.heap.size w w' := by
  by_cases hbad : inB n 1 10 = false ∨ allB markB l = false
  · refine (Right_early h hn hbad).mono fun e w' ⟨he, hb⟩ => ⟨⟨0, 1, he, .inl ⟨fun hok => ?_, rfl, rfl⟩⟩, hb⟩
    rcases hbad with hbad | hbad
    · have := inB_not.1 hbad
      have := h.len; have := hok.1; have := hok.2.1
      omega
    · rw [hok.2.2.1] at hbad; cases hbad
  · have h1 : inB n 1 10 = true := by cases hx : inB n 1 10 <;> simp_all
    have h2 : allB markB l = true := by cases hx : allB markB l <;> simp_all
    have := inB_iff.1 h1
    exact Right_late h hc (by omega) (by omega) h2
end Go.Proofs.Ytkgoojilmnkgiaa
