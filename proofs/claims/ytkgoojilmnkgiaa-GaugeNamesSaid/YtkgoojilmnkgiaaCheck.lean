/- THE CONTRACTS of Reading.valid and gauge.check. -/
import Derived.Test.YtkgoojilmnkgiaaAllReading
import Derived.Test.YtkgoojilmnkgiaaAllLists1
import Derived.Test.YtkgoojilmnkgiaaAllLists2
namespace Go.Proofs.Ytkgoojilmnkgiaa
open Go.RowKit Go.Proofs

def validB (r : Rdg) : Bool := inB r.ins 0 255 && inB r.num 0 65535 && inB r.tim 0 1000000000 && inB r.val (-1000000000) 1000000000
theorem validB_iff {r : Rdg} : validB r = true ↔ (0 ≤ r.ins ∧ r.ins ≤ 255) ∧ (0 ≤ r.num ∧ r.num ≤ 65535) ∧ (0 ≤ r.tim ∧ r.tim ≤ 1000000000) ∧ -1000000000 ≤ r.val ∧ r.val ≤ 1000000000 := by
  simp [validB, inB_iff, and_assoc]

set_option maxHeartbeats 400000 in
theorem valid_c (r : Rdg) (w : World) :
    Calls Try.prog 83 #[.agg #[.int .i64 r.ins, .int .i64 r.num, .int .i64 r.tim, .int .i64 r.val]] w fun e w' => e = .returned (.bool (validB r)) ∧ Below w.heap.size w w' := by
  have hv : validB r = (inB r.ins 0 255 && inB r.num 0 65535 && inB r.tim 0 1000000000 && inB r.val (-1000000000) 1000000000) := rfl
  cases h1 : inB r.ins 0 255
  · have hm : validB r = false := by rw [hv, h1]; rfl
    have HM := Lib.hid hm; clear hm hv
    go_enter Try.func83, Try.ntmps83
    go_wp2_with (first | (go_at_call 63; refine (within_c _ _ _ _).mono ?_; rintro e w' ⟨rfl, rfl⟩) | (go_at_call 62; refine (tick_c _ _).mono ?_; rintro e w' ⟨rfl, rfl⟩) | (go_at_call 105; refine (signal_c _ _).mono ?_; rintro e w' ⟨rfl, rfl⟩))
    go_ret
    exact ⟨ret_bool HM.out.symm, (Below.refl _ _).alloc (Nat.le_refl _) _⟩
  · cases h2 : inB r.num 0 65535
    · have hm : validB r = false := by rw [hv, h1, h2]; rfl
      have HM := Lib.hid hm; clear hm hv
      go_enter Try.func83, Try.ntmps83
      go_wp2_with (first | (go_at_call 63; refine (within_c _ _ _ _).mono ?_; rintro e w' ⟨rfl, rfl⟩) | (go_at_call 62; refine (tick_c _ _).mono ?_; rintro e w' ⟨rfl, rfl⟩) | (go_at_call 105; refine (signal_c _ _).mono ?_; rintro e w' ⟨rfl, rfl⟩))
      go_ret
      exact ⟨ret_bool HM.out.symm, (Below.refl _ _).alloc (Nat.le_refl _) _⟩
    · cases h3 : inB r.tim 0 1000000000
      · have hm : validB r = false := by rw [hv, h1, h2, h3]; rfl
        have HM := Lib.hid hm; clear hm hv
        go_enter Try.func83, Try.ntmps83
        go_wp2_with (first | (go_at_call 63; refine (within_c _ _ _ _).mono ?_; rintro e w' ⟨rfl, rfl⟩) | (go_at_call 62; refine (tick_c _ _).mono ?_; rintro e w' ⟨rfl, rfl⟩) | (go_at_call 105; refine (signal_c _ _).mono ?_; rintro e w' ⟨rfl, rfl⟩))
        go_ret
        exact ⟨ret_bool HM.out.symm, (Below.refl _ _).alloc (Nat.le_refl _) _⟩
      · have hm : validB r = inB r.val (-1000000000) 1000000000 := by rw [hv, h1, h2, h3]; rfl
        have HM := Lib.hid hm; clear hm hv
        go_enter Try.func83, Try.ntmps83
        go_wp2_with (first | (go_at_call 63; refine (within_c _ _ _ _).mono ?_; rintro e w' ⟨rfl, rfl⟩) | (go_at_call 62; refine (tick_c _ _).mono ?_; rintro e w' ⟨rfl, rfl⟩) | (go_at_call 105; refine (signal_c _ _).mono ?_; rintro e w' ⟨rfl, rfl⟩))
        go_ret
        exact ⟨ret_bool HM.out.symm, (Below.refl _ _).alloc (Nat.le_refl _) _⟩

theorem allValid_c {l : List Rdg} {A : Option Addr} {n c : Nat} {w : World} (h : Rd encR 4 w A n l) (hn : n ≤ maxLen) :
    Calls Try.prog 82 #[.slice A n c, .func (.func 83) #[] #[]] w fun e w' => e = .returned (.bool (allB validB l)) ∧ Below w.heap.size w w' :=
  allReading_c w h hn fun _ x W _ _ => valid_c x W

def shortB (x : Lst) : Bool := decide (x.n ≤ 200)
def valB (x : Lst) : Bool := allB validB x.l

theorem check1_c (x : Lst) (w : World) : Calls Try.prog 80 #[.slice x.A x.n x.c] w fun e w' => e = .returned (.bool (shortB x)) ∧ Below w.heap.size w w' := by
  go_enter Try.func80, Try.ntmps80
  go_wp2
  go_ret
  exact ⟨ret_bool (by simp [shortB]; omega), Below.refl _ _⟩
theorem check2_c (x : Lst) (w : World) (h : Rd encR 4 w x.A x.n x.l) (hn : x.n ≤ maxLen) : Calls Try.prog 81 #[.slice x.A x.n x.c] w fun e w' => e = .returned (.bool (valB x)) ∧ Below w.heap.size w w' := by
  go_enter Try.func81, Try.ntmps81
  go_wp2_with (go_at_call 82; refine (allValid_c h hn).mono ?_; rintro e w' ⟨rfl, hb⟩)
  go_ret
  exact ⟨rfl, hb⟩

/-- The error of lists of readings. -/
def errL (ls : List Lst) : Int := if 6 < ls.length ∨ allB shortB ls = false then 3 else if allB valB ls = false then 1 else 0

/-- Lists of readings in memory. -/
def RdLL (w : World) (A : Option Addr) (n : Nat) (ls : List Lst) : Prop := Rd encL 1 w A n ls ∧ ∀ (i : Nat) (x : Lst), ls[i]? = some x → Rd encR 4 w x.A x.n x.l ∧ x.n ≤ maxLen ∧ x.n ≤ x.c
theorem RdLL.below {w w' : World} {A : Option Addr} {n : Nat} {ls : List Lst} (h : RdLL w A n ls) (hb : Below w.heap.size w w') : RdLL w' A n ls :=
  ⟨h.1.mono hb, fun i x hx => ⟨(h.2 i x hx).1.mono hb, (h.2 i x hx).2⟩⟩

set_option maxHeartbeats 400000 in
theorem check_c {ls : List Lst} {A : Option Addr} {n c : Nat} {w : World} (h : RdLL w A n ls) (hn : n ≤ maxLen) :
    Calls Try.prog 54 #[.slice A n c] w fun e w' => e = .returned (.int .i64 (errL ls)) ∧ Below w.heap.size w w' := by
  have hl := h.1.len
  have HL := Lib.hid hl; clear hl
  by_cases h6 : 6 < n
  · have he : errL ls = 3 := by unfold errL; rw [if_pos (.inl (by rw [HL.out]; exact h6))]
    have HE := Lib.hid he; clear he
    go_enter Try.func54, Try.ntmps54
    go_wp2_with fail
    go_ret
    exact ⟨ret_int HE.out.symm, Below.refl _ _⟩
  · have c1 := fun (W : World) (hW : Below w.heap.size w W) => allLists1_c (p := shortB) (c := c) W (h.1.mono hW) hn fun _ x W' _ _ => check1_c x W'
    have c2 := fun (W : World) (hW : Below w.heap.size w W) => allLists2_c (p := valB) (c := c) W (h.1.mono hW) hn fun i x W' hx hW' => check2_c x W' ((h.2 i x hx).1.mono (below_tr hW hW')) (h.2 i x hx).2.1
    have C1 := Lib.hid c1; have C2 := Lib.hid c2; clear c1 c2
    cases hs : allB shortB ls
    · have he : errL ls = 3 := by unfold errL; rw [if_pos (.inr hs)]
      have HE := Lib.hid he; clear he
      go_enter Try.func54, Try.ntmps54
      go_wp2_with fail
      refine (C1.out _ (Below.refl _ _)).mono ?_
      rintro e w1 ⟨rfl, hb1⟩
      go_wp2_with fail
      go_ret
      exact ⟨ret_int HE.out.symm, hb1⟩
    · cases hv : allB valB ls
      · have he : errL ls = 1 := by unfold errL; rw [if_neg (by rw [HL.out, hs]; simp; omega), if_pos hv]
        have HE := Lib.hid he; clear he
        go_enter Try.func54, Try.ntmps54
        go_wp2_with fail
        refine (C1.out _ (Below.refl _ _)).mono ?_
        rintro e w1 ⟨rfl, hb1⟩
        go_wp2_with fail
        refine (C2.out _ hb1).mono ?_
        rintro e w2 ⟨rfl, hb2⟩
        go_wp2_with fail
        go_ret
        exact ⟨ret_int HE.out.symm, below_tr hb1 hb2⟩
      · have he : errL ls = 0 := by unfold errL; rw [if_neg (by rw [HL.out, hs]; simp; omega), if_neg (by rw [hv]; simp)]
        have HE := Lib.hid he; clear he
        go_enter Try.func54, Try.ntmps54
        go_wp2_with fail
        refine (C1.out _ (Below.refl _ _)).mono ?_
        rintro e w1 ⟨rfl, hb1⟩
        go_wp2_with fail
        refine (C2.out _ hb1).mono ?_
        rintro e w2 ⟨rfl, hb2⟩
        go_wp2_with fail
        go_ret
        exact ⟨ret_int HE.out.symm, below_tr hb1 hb2⟩
end Go.Proofs.Ytkgoojilmnkgiaa
