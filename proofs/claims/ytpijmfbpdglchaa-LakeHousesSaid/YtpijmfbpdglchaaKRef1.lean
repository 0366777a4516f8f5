/- CONTRACTS of the reference's WorksFault and Choice. -/
import Derived.Test.YtpijmfbpdglchaaKLeaf
import Derived.Test.YtpijmfbpdglchaaRegion
namespace Go.Proofs.Ytpijmfbpdglchaa
open Go.RowKit Go.Proofs
set_option maxRecDepth 100000 in
set_option maxHeartbeats 1000000 in
theorem rWorksFault_c {l : List Wrk} {A : Option Addr} {n c : Nat} {w : World} (h : Rd encW 3 w A n l) (hn : n ≤ maxLen) :
    Calls Try.prog 56 #[.slice A n c] w fun e w' => e = .returned (.int .i64 (errW l)) ∧ Below w.heap.size w w' := by
  unfold maxLen at hn
  have HL := Lib.hid h.len
  have HR := Lib.hid h
  clear h
  by_cases h10 : 10 < n
  · have h10' : (10 : Int) < (n : Int) := by omega
    go_enter Try.func56, Try.ntmps56
    go_wp2_with fail
    go_ret
    exact ⟨by unfold errW; rw [HL.out, if_pos h10]; rfl, Below.refl _ _⟩
  · have h10' : (n : Int) ≤ 10 := by omega
    have HI := Lib.hid (fun (a b c : Int) (U : World) => In_c a b c U)
    go_enter Try.func56, Try.ntmps56
    go_wp2_with fail
    go_loopw [3] (fun i wr => ∃ k : Nat, k ≤ n ∧ i = .int .i64 k ∧ Below w.heap.size w wr ∧ ∀ (j : Nat) (x : Wrk), j < k → l[j]? = some x → okW x = true) (fun i _ => n - (intOf i).toNat)
    case atStart => exact ⟨0, Nat.zero_le _, rfl, Below.refl _ _, fun j x hj => absurd hj (by omega)⟩
    case round =>
      obtain ⟨k, hk, rfl, hb, hall⟩ := hrel
      have HA := Lib.hid hall; clear hall
      have HB := Lib.hid hb; clear hb
      by_cases hlt : k < n
      · obtain ⟨b, o, x, rfl, hbl, hx, h0, h1, h2⟩ := (HR.out.below HB.out).atW hlt
        have HX := Lib.hid hx; clear hx
        have hi1 : (k : Int) < (n : Int) := by omega
        have hi0 : (0 : Int) ≤ (k : Int) := by omega
        have HB2 := Lib.hid (HB.out.alloc HB.out.size (.cells #[.int .i64 x.frm, .int .i64 x.flow, .int .i64 x.price] 131))
        cases q1 : inB x.frm 0 60
        · have hno : okW x = false := by simp [okW, q1]
          have HNO := Lib.hid hno; clear hno
          go_wp2_with (go_at_call 62; refine (HI.out _ _ _ _).mono ?_; rintro e w' ⟨rfl, rfl⟩; simp only [q1])
          go_ret
          exact ⟨by unfold errW; rw [HL.out, if_neg h10, (allB_not (p := okW) (l := l)).2 ⟨k, x, HX.out, HNO.out⟩]; rfl, HB2.out⟩
        · cases q2 : inB x.flow 0 1000000
          · have hno : okW x = false := by simp [okW, q2]
            have HNO := Lib.hid hno; clear hno
            go_wp2_with (go_at_call 62; refine (HI.out _ _ _ _).mono ?_; rintro e w' ⟨rfl, rfl⟩; simp only [q1, q2])
            go_ret
            exact ⟨by unfold errW; rw [HL.out, if_neg h10, (allB_not (p := okW) (l := l)).2 ⟨k, x, HX.out, HNO.out⟩]; rfl, HB2.out⟩
          · cases q3 : inB x.price 0 1000000
            · have hno : okW x = false := by simp [okW, q3]
              have HNO := Lib.hid hno; clear hno
              go_wp2_with (go_at_call 62; refine (HI.out _ _ _ _).mono ?_; rintro e w' ⟨rfl, rfl⟩; simp only [q1, q2, q3])
              go_ret
              exact ⟨by unfold errW; rw [HL.out, if_neg h10, (allB_not (p := okW) (l := l)).2 ⟨k, x, HX.out, HNO.out⟩]; rfl, HB2.out⟩
            · have hok : okW x = true := by simp [okW, q1, q2, q3]
              have HOK := Lib.hid hok; clear hok
              go_wp2_with (go_at_call 62; refine (HI.out _ _ _ _).mono ?_; rintro e w' ⟨rfl, rfl⟩; simp only [q1, q2, q3])
              go_roundw
              case rel => exact ⟨k + 1, by omega, by go_num, HB2.out, fun j y hj hy => by
                rcases Nat.lt_or_ge j k with hjk | hjk
                · exact HA.out j y hjk hy
                · obtain rfl : j = k := by omega
                  rw [HX.out] at hy; cases hy; exact HOK.out⟩
              case measure => simp [intOf] <;> omega
      · obtain rfl : k = n := by omega
        go_wp2
        go_ret
        exact ⟨by unfold errW; rw [HL.out, if_neg h10, (allB_iff (p := okW) (l := l)).2 fun i x hx => HA.out i x (by have := (List.getElem?_eq_some_iff.1 hx).1; have := HL.out; omega) hx]; rfl, HB.out⟩
theorem In_b (n lo hi : Int) (w : World) : Calls Try.prog 62 #[.int .i64 n, .int .i64 lo, .int .i64 hi] w fun e w' => e = .returned (.bool (inB n lo hi)) ∧ Below w.heap.size w w' :=
  (In_c n lo hi w).mono fun _ _ h => ⟨h.1, h.2 ▸ Below.refl _ _⟩
theorem choB_false {n : Nat} {c : List Int} {k : Nat} {x : Int} (hx : c[k]? = some x) (h : inB x 0 ((n : Int) - 1) = false ∨ ∃ (j : Nat) (y : Int), k = j + 1 ∧ c[j]? = some y ∧ x ≤ y) : choB n c = false := by
  rw [← Bool.not_eq_true]
  intro hc
  have h2 := choB_iff.1 hc
  rcases h with h | ⟨j, y, rfl, hy, hxy⟩
  · have := h2.1 k x hx
    rw [inB_iff.2 this] at h; cases h
  · have := h2.2 j y x hy hx
    omega
set_option maxRecDepth 100000 in
set_option maxHeartbeats 1000000 in
theorem rChoice_c {l : List Wrk} {A C : Option Addr} {n c m d : Nat} {ch : List Int} {w : World} (h : Rd encW 3 w A n l) (hc : Rd enc1 1 w C m ch) (hn : n ≤ maxLen) (hm : m ≤ maxLen) :
    Calls Try.prog 29 #[.slice A n c, .slice C m d] w fun e w' => e = .returned (.bool (choB l.length ch)) ∧ Below w.heap.size w w' := by
  unfold maxLen at hn hm
  have HL := Lib.hid h.len
  have HM := Lib.hid hc.len
  have HR := Lib.hid hc
  rw [h.len]
  clear h hc
  have HI := Lib.hid (fun (a b c : Int) (U : World) => In_b a b c U)
  go_enter Try.func29, Try.ntmps29
  go_wp2_with fail
  go_loopw [5] (fun i wr => ∃ k : Nat, k ≤ m ∧ i = .int .i64 k ∧ Below w.heap.size w wr ∧ ∀ (j : Nat) (x : Int), j < k → ch[j]? = some x → inB x 0 ((n : Int) - 1) = true ∧ ∀ (i : Nat) (y : Int), j = i + 1 → ch[i]? = some y → y < x) (fun i _ => m - (intOf i).toNat)
  case atStart => exact ⟨0, Nat.zero_le _, rfl, Below.refl _ _, fun j x hj => absurd hj (by omega)⟩
  case round =>
    obtain ⟨k, hk, rfl, hb, hall⟩ := hrel
    have HA := Lib.hid hall; clear hall
    have HB := Lib.hid hb; clear hb
    by_cases hlt : k < m
    · obtain ⟨b, o, x, rfl, hbl, hx, h0⟩ := (HR.out.below HB.out).at1 hlt
      have HX := Lib.hid hx; clear hx
      have hi1 : (k : Int) < (m : Int) := by omega
      have hi0 : (0 : Int) ≤ (k : Int) := by omega
      have HIq := Lib.hid (HI.out x 0 ((n : Int) - 1))
      cases q1 : inB x 0 ((n : Int) - 1)
      all_goals rw [q1] at HIq
      · have HE := Lib.hid (choB_false HX.out (.inl q1))
        go_wp2_with fail
        refine wp_region_ext (by kernel_rfl) (by kernel_rfl) ?_
        repeat (go_big_quiet_step ((go_at_call 62; exact ext_call (HIq.out _))))
        refine wpQuiet_nil ?_
        rintro _ ⟨q, rfl⟩
        have HB1 := Lib.hid (below_tr HB.out q.below)
        go_wp2
        go_ret
        exact ⟨ret_bool HE.out.symm, HB1.out⟩
      · have hin := inB_iff.1 q1
        have HN := Lib.hid hin; clear hin
        rcases Nat.eq_zero_or_pos k with hkz | hkp
        · have hz : decide ((0 : Int) < (k : Int)) = false := decide_eq_false (by omega)
          have hz2 : decide (0 < k) = false := decide_eq_false (by omega)
          have HKZ := Lib.hid hkz; clear hkz
          go_wp2_with fail
          refine wp_region_ext (by kernel_rfl) (by kernel_rfl) ?_
          repeat (go_big_quiet_step ((go_at_call 62; exact ext_call (HIq.out _))))
          refine wpQuiet_nil ?_
          rintro _ ⟨q, rfl⟩
          have HB1 := Lib.hid (below_tr HB.out q.below)
          go_wp2
          go_roundw
          case rel => exact ⟨k + 1, by omega, by go_num, HB1.out, fun j y hj hy => by
            have hk0 := HKZ.out
            obtain rfl : j = k := by omega
            rw [HX.out] at hy; cases hy; exact ⟨q1, fun i y he => by omega⟩⟩
          case measure => simp [intOf] <;> omega
        · obtain ⟨b', o', y, hA', hbl', hy, h1⟩ := (HR.out.below HB.out).at1 (i := k - 1) (by omega)
          cases hA'
          have HY := Lib.hid hy; clear hy
          have hp : (0 : Int) < (k : Int) := by omega
          have hkt : ((k : Int) - 1).toNat = k - 1 := by omega
          have hi1' : (k : Int) - 1 < (m : Int) := by omega
          have hi0' : (0 : Int) ≤ (k : Int) - 1 := by omega
          cases q2 : decide (x ≤ y)
          · have HXY := Lib.hid (of_decide_eq_false q2)
            go_wp2_with fail
            refine wp_region_ext (by kernel_rfl) (by kernel_rfl) ?_
            repeat (go_big_quiet_step ((go_at_call 62; exact ext_call (HIq.out _))))
            refine wpQuiet_nil ?_
            rintro _ ⟨q, rfl⟩
            have HB1 := Lib.hid (below_tr HB.out q.below)
            go_wp2
            go_roundw
            case rel => exact ⟨k + 1, by omega, by go_num, HB1.out, fun j z hj hz => by
              rcases Nat.lt_or_ge j k with hjk | hjk
              · exact HA.out j z hjk hz
              · obtain rfl : j = k := by omega
                rw [HX.out] at hz; cases hz
                refine ⟨q1, fun i u he hu => ?_⟩
                obtain rfl : i = j - 1 := by omega
                rw [HY.out] at hu; cases hu; have := HXY.out; omega⟩
            case measure => simp [intOf] <;> omega
          · have HE := Lib.hid (choB_false (n := n) HX.out (.inr ⟨k - 1, y, by omega, HY.out, of_decide_eq_true q2⟩))
            go_wp2_with fail
            refine wp_region_ext (by kernel_rfl) (by kernel_rfl) ?_
            repeat (go_big_quiet_step ((go_at_call 62; exact ext_call (HIq.out _))))
            refine wpQuiet_nil ?_
            rintro _ ⟨q, rfl⟩
            have HB1 := Lib.hid (below_tr HB.out q.below)
            go_wp2
            go_ret
            exact ⟨ret_bool HE.out.symm, HB1.out⟩
    · obtain rfl : k = m := by omega
      go_wp2
      go_ret
      refine ⟨ret_bool ?_, HB.out⟩
      symm
      refine choB_iff.2 ⟨fun i x hx => inB_iff.1 (HA.out i x (by have := (List.getElem?_eq_some_iff.1 hx).1; have := HM.out; omega) hx).1, fun i a b ha hb => (HA.out (i + 1) b (by have := (List.getElem?_eq_some_iff.1 hb).1; have := HM.out; omega) hb).2 i a rfl ha⟩
end Go.Proofs.Ytpijmfbpdglchaa
