/- CONTRACTS of the law's conversions, as the laws' walks use them: what each returns reads as what it was given. -/
import Derived.Test.YtpijmfbpdglchaaKLakeC
import Derived.Test.YtpijmfbpdglchaaKBase
set_option linter.unusedVariables false
set_option linter.unusedSimpArgs false
namespace Go.Proofs.Ytpijmfbpdglchaa
open Go.RowKit Go.Proofs
section
variable {VA IA A : Option Addr} {nV nI cV cI n c : Nat} {w : World}
theorem LakeR_c {l : Lak} (h : RdL w VA nV IA nI l) (hn : nV ≤ 1000000) (hi : nI ≤ 1000000) :
    Calls Try.prog 20 #[.agg (lA VA nV cV IA nI cI l)] w fun e w' => ∃ VA' cV' IA' cI', e = .returned (.agg (lA VA' nV cV' IA' nI cI' l)) ∧ nV ≤ cV' ∧ nI ≤ cI' ∧ RdL w' VA' nV IA' nI l ∧ Below w.heap.size w w' := by
  refine (Lake_c h hn hi).mono ?_
  rintro e w' ⟨VA', cV', IA', cI', rfl, h1, h2, h3, h4, hb⟩
  exact ⟨VA', cV', IA', cI', rfl, h1, h2, ⟨Rd.of_own enc1_len h3 h.vols.len, Rd.of_own enc2_len h4 h.infl.len⟩, hb⟩
theorem WorksR_c {l : List Wrk} (h : Rd encW 3 w A n l) (hn : n ≤ 1000000) :
    Calls Try.prog 21 #[.slice A n c] w fun e w' => ∃ A' c', e = .returned (.slice A' n c') ∧ n ≤ c' ∧ Rd encW 3 w' A' n l ∧ Below w.heap.size w w' := by
  refine (Works_c h hn).mono ?_
  rintro e w' ⟨A', c', rfl, h1, h2, hb⟩
  exact ⟨A', c', rfl, h1, Rd.of_own encW_len h2 h.len, hb⟩
theorem HousesR_c {l : List Hou} (h : Rd encH 3 w A n l) (hn : n ≤ 1000000) :
    Calls Try.prog 45 #[.slice A n c] w fun e w' => ∃ A' c', e = .returned (.slice A' n c') ∧ n ≤ c' ∧ Rd encH 3 w' A' n l ∧ Below w.heap.size w w' := by
  refine (Houses_c h hn).mono ?_
  rintro e w' ⟨A', c', rfl, h1, h2, hb⟩
  exact ⟨A', c', rfl, h1, Rd.of_own encH_len h2 h.len, hb⟩
theorem listR_c {l : List Int} (h : Rd enc1 1 w A n l) (hn : n ≤ 1000000) :
    Calls Try.prog 27 #[.slice A n c] w fun e w' => ∃ A' c', e = .returned (.slice A' n c') ∧ n ≤ c' ∧ Rd enc1 1 w' A' n l ∧ Below w.heap.size w w' := by
  refine (list_c h hn).mono ?_
  rintro e w' ⟨A', c', rfl, h1, h2, hb⟩
  exact ⟨A', c', rfl, h1, Rd.of_own enc1_len h2 h.len, hb⟩
end
end Go.Proofs.Ytpijmfbpdglchaa
