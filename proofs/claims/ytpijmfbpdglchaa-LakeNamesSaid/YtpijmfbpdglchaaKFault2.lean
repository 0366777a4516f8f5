/- The error of a lake with works and a choice, by the law and by the program. -/
import Derived.Test.YtpijmfbpdglchaaKReady
import Derived.Test.YtpijmfbpdglchaaKRise
import Derived.Test.YtpijmfbpdglchaaKPlain
set_option linter.unusedVariables false
set_option linter.unusedSimpArgs false
namespace Go.Proofs.Ytpijmfbpdglchaa
theorem faultA_eq (l : Lak) (ws : List Wrk) (c : List Int) : faultA l ws c = errA l ws c := by
  unfold faultA errA
  by_cases h1 : errL l = 0
  · by_cases h2 : errW ws = 0
    · simp [h1, h2]
    · simp [h1, h2]
  · simp [h1]
theorem proveB_ok {l : Lak} {ws : List Wrk} {c : List Int} (h : errA l ws c = 0) : proveB l ws c = enB l ws c := by
  unfold proveB
  rw [h]
  cases he : enB l ws c
  · have := enB_not.1 he; simp; omega
  · have := enB_iff.1 he; simp; omega
theorem proveB_bad {l : Lak} {ws : List Wrk} {c : List Int} (h : errA l ws c ≠ 0) : proveB l ws c = false := by
  unfold proveB; simp [h]
theorem thin_len {l : Lak} {ws : List Wrk} {c : List Int} (h : thinA l ws c = true) : l.vols.length ≤ 35 ∧ l.inflow.length ≤ 65 ∧ ws.length ≤ 15 ∧ c.length ≤ 15 := by
  unfold thinA at h
  simpa using h
end Go.Proofs.Ytpijmfbpdglchaa
