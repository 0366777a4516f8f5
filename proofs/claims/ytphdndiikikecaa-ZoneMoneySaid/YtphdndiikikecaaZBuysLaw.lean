/- PLAIN LAW: the best of all sets by bits is the best set. -/
import Derived.Test.YtphdndiikikecaaZBitsLaw
namespace Go.Proofs.Ytphdndiikikecaa

/-- is a set better than the best one till now? -/
def betterR (gs ps : List Int) (B : Int) (l best : List Int) : Bool :=
  decide (gL ps l ≤ B) && (decide (0 < gL gs l - gL gs best) || (decide (gL gs l - gL gs best = 0) && decide (gL ps l - gL ps best < 0)) || (decide (gL gs l - gL gs best = 0) && decide (gL ps l - gL ps best = 0) && decide (cmpL l best < 0)))
theorem betterR_iff {gs ps : List Int} {B : Int} {l best : List Int} : betterR gs ps B l best = true ↔ gL ps l ≤ B ∧ ¬ geB (bst gs ps best) (bst gs ps l) := by
  unfold betterR geB bst
  simp only [Bool.and_eq_true, Bool.or_eq_true, decide_eq_true_eq]
  have := cmpL_swap l best
  omega
/-- the best one of the sets by bits up to a number -/
def refTo (gs ps : List Int) (n : Nat) (B : Int) : Nat → List Int
  | 0 => []
  | k + 1 => if betterR gs ps B (bitsL (k + 1) n) (refTo gs ps n B k) = true then bitsL (k + 1) n else refTo gs ps n B k
theorem bitsL_zero : ∀ n, bitsL 0 n = []
  | 0 => rfl
  | n + 1 => by unfold bitsL; rw [bitsL_zero n]; simp
theorem refTo_spec {gs ps : List Int} {n : Nat} {B : Int} (hB : 0 ≤ B) : ∀ k, (AscB 0 n (refTo gs ps n B k) ∧ (refTo gs ps n B k).length ≤ n) ∧ gL ps (refTo gs ps n B k) ≤ B ∧ ∀ b, b ≤ k → gL ps (bitsL b n) ≤ B → geB (bst gs ps (refTo gs ps n B k)) (bst gs ps (bitsL b n))
  | 0 => ⟨⟨AscB.nil _ _, Nat.zero_le _⟩, by unfold refTo; rw [gL_nil]; exact hB, fun b hb _ => by
      obtain rfl : b = 0 := by omega
      rw [bitsL_zero]; exact geB_refl _⟩
  | k + 1 => by
    obtain ⟨h1, h2, h3⟩ := refTo_spec (gs := gs) (ps := ps) (n := n) hB k
    unfold refTo
    by_cases h : betterR gs ps B (bitsL (k + 1) n) (refTo gs ps n B k) = true
    · rw [if_pos h]
      obtain ⟨a1, a2⟩ := betterR_iff.1 h
      refine ⟨⟨bitsL_asc _ _, bitsL_len _ _⟩, a1, fun b hb hc => ?_⟩
      by_cases hbk : b = k + 1
      · subst hbk; exact geB_refl _
      · exact geB_trans ((geB_total _ _).resolve_left a2) (h3 b (by omega) hc)
    · rw [if_neg h]
      refine ⟨h1, h2, fun b hb hc => ?_⟩
      by_cases hbk : b = k + 1
      · subst hbk
        exact Classical.byContradiction fun hn => h (betterR_iff.2 ⟨hc, hn⟩)
      · exact h3 b (by omega) hc
theorem refTo_best {gs ps : List Int} {n : Nat} {B : Int} (hB : 0 ≤ B) : BestOf gs ps n B (bst gs ps (refTo gs ps n B (2 ^ n - 1))) := by
  obtain ⟨h1, h2, h3⟩ := refTo_spec (gs := gs) (ps := ps) (n := n) hB (2 ^ n - 1)
  refine ⟨rfl, h1.1, h2, fun e he hc => ?_⟩
  obtain ⟨b, hb, rfl⟩ := bits_all n e he
  exact h3 b (by omega) hc
/-- the tries and the sets by bits find the same -/
theorem best_ref {gs ps : List Int} {B : Int} (hp : ∀ i, 0 ≤ gAt ps i) (hB : 0 ≤ B) : bestB gs ps B = bst gs ps (refTo gs ps gs.length B (2 ^ gs.length - 1)) :=
  (bestB_spec hp hB).uniq (refTo_best hB)
end Go.Proofs.Ytphdndiikikecaa
