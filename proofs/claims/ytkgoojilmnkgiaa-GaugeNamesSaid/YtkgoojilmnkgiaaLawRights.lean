/- THE WALK of the law GaugeRights, given that wakes() returns true. -/
import Derived.Test.YtkgoojilmnkgiaaRight
import Derived.Test.YtkgoojilmnkgiaaRefMarks
import Derived.Test.YtkgoojilmnkgiaaRefTime
import Derived.Test.YtkgoojilmnkgiaaConvMark
namespace Go.Proofs.Ytkgoojilmnkgiaa
open Go.RowKit Go.Proofs

def WakesOk : Prop := ∀ W : World, Calls Try.prog 17 #[] W fun e w' => e = .returned (.bool true) ∧ Below W.heap.size W w'
theorem WakesOk.out (h : WakesOk) (W : World) : Calls Try.prog 17 #[] W fun e w' => e = .returned (.bool true) ∧ Below W.heap.size W w' := h W

set_option maxRecDepth 100000 in
set_option maxHeartbeats 400000 in
theorem GaugeRights_w (hw : WakesOk) {l : List (Int × Int)} {A : Option Addr} {n c : Nat} {clock : Int} {w : World} (h : Rd enc2 2 w A n l) (hn : n ≤ maxLen) :
    Calls Try.prog 4 #[.slice A n c, .int .i64 clock] w fun e w' => e = .returned (.bool true) ∧ Below w.heap.size w w' := by
  have hl := h.len
  have HL := Lib.hid hl; clear hl
  by_cases h15 : n ≤ 15
  · go_enter Try.func4, Try.ntmps4
    go_wp2_with fail
    refine (Marks_c h (by omega)).mono ?_
    rintro e w1 ⟨A', c', rfl, hc', hown, hb1⟩
    have hr1 := Rd.of_own enc2_len hown HL.out
    clear hown
    go_wp2_with fail
    refine (Right_c hr1 (by unfold maxLen; omega) hc').mono ?_
    rintro e w2 ⟨⟨v, r, rfl, hR⟩, hb2⟩
    have HR := Lib.hid hR; clear hR
    have hb := below_tr hb1 hb2
    have h2 := h.below hb
    clear hb1 hb2 hr1
    go_wp2_with fail
    refine (RightMarks_c h2 (by unfold maxLen; omega)).mono ?_
    rintro e w3 ⟨rfl, hb3⟩
    have hb' := below_tr hb hb3
    have h3 := h.below hb'
    clear hb hb3 h2
    cases hm : marksB l
    · have hno : ¬ MarksOk l := fun hok => by rw [marksB_yes hok] at hm; cases hm
      obtain ⟨rfl, rfl⟩ : v = 0 ∧ r = 1 := by
        rcases HR.out with ⟨_, h1, h2⟩ | ⟨hok, _⟩ | ⟨hok, _⟩
        · exact ⟨h1, h2⟩
        · exact absurd hok hno
        · exact absurd hok hno
      clear hno HR
      go_wp2_with (go_at_call 17; refine (hw.out _).mono ?_; rintro e w4 ⟨rfl, hb4⟩)
      go_ret
      exact ⟨rfl, below_tr hb' hb4⟩
    · have hok := marksB_iff.1 hm
      have HOK := Lib.hid hok; clear hok
      cases hin : inB clock 0 1000000000
      · obtain ⟨rfl, rfl⟩ : v = 0 ∧ r = 2 := by
          rcases HR.out with ⟨hno, _⟩ | ⟨_, _, h1, h2⟩ | ⟨_, hin', _⟩
          · exact absurd HOK.out hno
          · exact ⟨h1, h2⟩
          · rw [hin] at hin'; cases hin'
        clear HR
        go_wp2_with (first | (go_at_call 17; refine (hw.out _).mono ?_; rintro e w4 ⟨rfl, hb4⟩) | (go_at_call 29; refine (In_c _ _ _ _).mono ?_; rintro e w' ⟨rfl, rfl⟩))
        go_ret
        exact ⟨rfl, below_tr hb' hb4⟩
      · obtain ⟨rfl, hT⟩ : r = 0 ∧ IsTime l clock v := by
          rcases HR.out with ⟨hno, _⟩ | ⟨_, hin', _⟩ | ⟨_, _, h1, h2⟩
          · exact absurd HOK.out hno
          · rw [hin] at hin'; cases hin'
          · exact ⟨h1, h2⟩
        have HT := Lib.hid hT; clear hT HR
        go_wp2_with (first | (go_at_call 30; refine (Time_c h3 HOK.out (inB_iff.1 hin)).mono ?_; rintro e w4 ⟨⟨v', rfl, hT'⟩, hb4⟩; obtain rfl := IsTime.unique HOK.out HT.out hT'; clear hT') | (go_at_call 17; refine (hw.out _).mono ?_; rintro e w5 ⟨rfl, hb5⟩) | (go_at_call 29; refine (In_c _ _ _ _).mono ?_; rintro e w' ⟨rfl, rfl⟩))
        go_ret
        exact ⟨rfl, below_tr (below_tr hb' hb4) hb5⟩
  · go_enter Try.func4, Try.ntmps4
    go_wp2_with (go_at_call 17; refine (hw.out _).mono ?_; rintro e w4 ⟨rfl, hb4⟩)
    go_ret
    exact ⟨rfl, hb4⟩
end Go.Proofs.Ytkgoojilmnkgiaa
