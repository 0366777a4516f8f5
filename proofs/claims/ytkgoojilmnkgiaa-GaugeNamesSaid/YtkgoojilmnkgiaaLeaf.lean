/- CONTRACTS of the small functions of package gauge and of its reference: within, In, tick, signal. -/
import Derived.Test.YtkgoojilmnkgiaaProg
import Derived.Test.YtkgoojilmnkgiaaVoc
namespace Go.Proofs.Ytkgoojilmnkgiaa
open Go.RowKit Go.Proofs

def inB (n lo hi : Int) : Bool := decide (lo ≤ n) && decide (n ≤ hi)
theorem inB_iff {n lo hi : Int} : inB n lo hi = true ↔ lo ≤ n ∧ n ≤ hi := by simp [inB]
theorem inB_not {n lo hi : Int} : inB n lo hi = false ↔ n < lo ∨ hi < n := by
  rw [← Bool.not_eq_true, inB_iff]; omega

theorem within_c (n lo hi : Int) (w : World) :
    Calls Try.prog 63 #[.int .i64 n, .int .i64 lo, .int .i64 hi] w fun e w' => e = .returned (.bool (inB n lo hi)) ∧ w = w' := by
  by_cases h : lo ≤ n
  · go_enter Try.func63, Try.ntmps63
    go_wp2
    go_ret
    exact ⟨ret_bool (by simp [inB, h]), rfl⟩
  · have h' : n < lo := by omega
    go_enter Try.func63, Try.ntmps63
    go_wp2
    go_ret
    exact ⟨ret_bool (inB_not.2 (.inl h')).symm, rfl⟩

theorem tick_c (n : Int) (w : World) :
    Calls Try.prog 62 #[.int .i64 n] w fun e w' => e = .returned (.bool (inB n 0 1000000000)) ∧ w = w' := by
  go_enter Try.func62, Try.ntmps62
  go_wp2_with (go_at_call 63; refine (within_c _ _ _ _).mono ?_; rintro e w' ⟨rfl, rfl⟩)
  go_ret
  exact ⟨rfl, rfl⟩

theorem signal_c (n : Int) (w : World) :
    Calls Try.prog 105 #[.int .i64 n] w fun e w' => e = .returned (.bool (inB n (-1000000000) 1000000000)) ∧ w = w' := by
  go_enter Try.func105, Try.ntmps105
  go_wp2_with (go_at_call 63; refine (within_c _ _ _ _).mono ?_; rintro e w' ⟨rfl, rfl⟩)
  go_ret
  exact ⟨rfl, rfl⟩

theorem In_c (n lo hi : Int) (w : World) :
    Calls Try.prog 29 #[.int .i64 n, .int .i64 lo, .int .i64 hi] w fun e w' => e = .returned (.bool (inB n lo hi)) ∧ w = w' := by
  by_cases h : lo ≤ n
  · go_enter Try.func29, Try.ntmps29
    go_wp2
    go_ret
    exact ⟨ret_bool (by simp [inB, h]), rfl⟩
  · have h' : n < lo := by omega
    go_enter Try.func29, Try.ntmps29
    go_wp2
    go_ret
    exact ⟨ret_bool (inB_not.2 (.inl h')).symm, rfl⟩

/-- 'all' of a list, by a name that no rule opens -/
def allB {α : Type} (p : α → Bool) (l : List α) : Bool := l.all p
theorem allB_iff {α : Type} {p : α → Bool} {l : List α} : allB p l = true ↔ ∀ (i : Nat) (x : α), l[i]? = some x → p x = true := by
  simp only [allB, List.all_eq_true]
  constructor
  · intro h i x hx; exact h x (List.mem_of_getElem? hx)
  · intro h x hx; obtain ⟨i, hi⟩ := List.getElem?_of_mem hx; exact h i x hi
theorem allB_not {α : Type} {p : α → Bool} {l : List α} : allB p l = false ↔ ∃ (i : Nat) (x : α), l[i]? = some x ∧ p x = false := by
  rw [← Bool.not_eq_true, allB_iff]
  constructor
  · intro h
    exact Classical.byContradiction fun hn => h fun i x hx => by
      cases hp : p x with
      | true => rfl
      | false => exact absurd ⟨i, x, hx, hp⟩ hn
  · rintro ⟨i, x, hx, hp⟩ h
    rw [h i x hx] at hp; cases hp
end Go.Proofs.Ytkgoojilmnkgiaa
