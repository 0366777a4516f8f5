/- A LAW: two arrays of two ranges are compared as their ends are. -/
import Derived.Test.YtpijmfbpdglchaaKStep
import Derived.ChangeKeysEq
set_option linter.unusedVariables false
set_option linter.unusedSimpArgs false
namespace Go.Proofs.Ytpijmfbpdglchaa
open Go.RowKit Go.Proofs
theorem infoRng : (Try.prog.info? 35).map (fun i => (i.zero, i.size, i.bytes)) = some (some (.agg #[.int .i64 0, .int .i64 0]), 2, 16) := by kernel_rfl
theorem run_eql_may (a b c d e f g h : Int) (W : World) : (binOp .eql 138 (.agg #[.int .i64 a, .int .i64 b, .int .i64 c, .int .i64 d]) (.agg #[.int .i64 e, .int .i64 f, .int .i64 g, .int .i64 h])).run Try.prog W = .ok (.bool (decide ((a = e ∧ b = f) ∧ c = g ∧ d = h))) W := by
  rw [run_eql_struct]
  obtain ⟨i0, hi0, hz0, hz1, hz2⟩ := info_parts infoRng
  have hc : Try.prog.cellsOf 35 = 2 := by kernel_rfl
  have hs : (sizeOf 35).run Try.prog W = .ok 2 W := Try.sizeOf35 W
  have : (Op.equalIn (9999 + 1) 138 (.agg #[.int .i64 a, .int .i64 b, .int .i64 c, .int .i64 d]) (.agg #[.int .i64 e, .int .i64 f, .int .i64 g, .int .i64 h])).run Try.prog W = .ok (decide ((a = e ∧ b = f) ∧ c = g ∧ d = h)) W := by
    rw [run_equalIn_array _ 9999 _ _ Try.underlying138 hi0, hc]
    simp [go_sem, Op.eqItems, List.range_succ, part, Try.underlying35]
    by_cases h1 : a = e <;> by_cases h2 : b = f <;> by_cases h3 : c = g <;> by_cases h4 : d = h <;> simp [h1, h2, h3, h4]
  rw [this]; rfl
end Go.Proofs.Ytpijmfbpdglchaa
