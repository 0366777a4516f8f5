/- CONTRACTS of 'all' over marks: every mark's clock and true time is a time. -/
import Derived.Test.YtkgoojilmnkgiaaAllMark
import Derived.Test.YtkgoojilmnkgiaaTimes
namespace Go.Proofs.Ytkgoojilmnkgiaa
open Go.RowKit Go.Proofs

theorem Right1_c (x : Int × Int) (w : World) :
    Calls Try.prog 61 #[.agg #[.int .i64 x.1, .int .i64 x.2]] w fun e w' => e = .returned (.bool (markB x)) ∧ Below w.heap.size w w' := by
  by_cases h : inB x.1 0 1000000000 = true
  · have hm : markB x = inB x.2 0 1000000000 := by simp [markB, h]
    have HM := Lib.hid hm; clear hm
    go_enter Try.func61, Try.ntmps61
    go_wp2_with (go_at_call 62; refine (tick_c _ _).mono ?_; rintro e w' ⟨rfl, rfl⟩)
    go_ret
    exact ⟨ret_bool HM.out.symm, (Below.refl _ _).alloc (Nat.le_refl _) _⟩
  · have hm : markB x = false := by simp [markB, h]
    have HM := Lib.hid hm; clear hm
    have h' : inB x.1 0 1000000000 = false := by simpa using h
    clear h
    go_enter Try.func61, Try.ntmps61
    go_wp2_with (go_at_call 62; refine (tick_c _ _).mono ?_; rintro e w' ⟨rfl, rfl⟩)
    go_ret
    exact ⟨ret_bool HM.out.symm, (Below.refl _ _).alloc (Nat.le_refl _) _⟩

theorem allMarks {l : List (Int × Int)} {A : Option Addr} {n c : Nat} {w : World} (h : Rd enc2 2 w A n l) (hn : n ≤ maxLen) :
    Calls Try.prog 64 #[.slice A n c, .func (.func 61) #[] #[]] w
      fun e w' => e = .returned (.bool (allB markB l)) ∧ Below w.heap.size w w' :=
  allMark_c w h hn fun _ x W _ _ => Right1_c x W
end Go.Proofs.Ytkgoojilmnkgiaa
