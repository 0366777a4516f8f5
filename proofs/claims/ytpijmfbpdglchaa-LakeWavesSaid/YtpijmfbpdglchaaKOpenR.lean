/- OPENING a river and a house that came in. -/
import Derived.Test.YtpijmfbpdglchaaKOpen
import Derived.Test.YtpijmfbpdglchaaKHeight
set_option linter.unusedVariables false
set_option linter.unusedSimpArgs false
namespace Go.Proofs.Ytpijmfbpdglchaa
open Go.RowKit Go.Proofs Go.ChangeShapes Go.WideShapes Go.Deep
theorem c_riv : Try.prog.cellsOf 84 = 3 := by kernel_rfl
section
variable {H : Type} {enc : TypeId × Value → H} {w : World} {base : Nat} {spare : Nat → Bool} {held : Bool}
set_option maxRecDepth 100000 in
theorem rd_river {r : Reach} {b0 : Nat} {v : Value} {d : DataW H} {p : List MemPlace} (hv : Value.okWide Try.prog w r b0 84 v) (h : DataW.Trod enc Try.prog w base spare held 84 v d p) :
    ∃ (x : Riv), v = .agg (rA x) := by
  obtain ⟨cs, rfl⟩ := okWide_agg Try.underlying84 hv
  obtain ⟨fuel, h⟩ := h
  obtain ⟨ys, n, rfl, _, hl, hlen, hf⟩ := DataW.trod_struct Try.underlying84 h
  rw [c_riv] at hl
  obtain ⟨cl⟩ := cs
  simp only [Value.cells] at hl hf
  obtain ⟨a, b, c, rfl⟩ := len3 hl
  have h0 := hf 0 _ rfl; have h1 := hf 1 _ rfl
  simp [c_rng, c_int] at h0 h1
  obtain ⟨y0, e0⟩ := some_at hlen (show 0 < 2 by decide); obtain ⟨y1, e1⟩ := some_at hlen (show 1 < 2 by decide)
  rw [e0] at h0; rw [e1] at h1
  obtain ⟨z0, k0, _, _⟩ := DataW.trod_int Try.underlying3 h0
  obtain ⟨r1, k1, _⟩ := el_rng _ _ _ h1
  simp [enc2] at k0 k1
  obtain ⟨q1, q2⟩ := k1
  subst k0; subst q1; subst q2
  exact ⟨⟨z0, r1⟩, rfl⟩
set_option maxRecDepth 100000 in
theorem rd_house1 {r : Reach} {b0 : Nat} {v : Value} {d : DataW H} {p : List MemPlace} (hv : Value.okWide Try.prog w r b0 99 v) (h : DataW.Trod enc Try.prog w base spare held 99 v d p) :
    ∃ (x : Hou), v = .agg #[.int .i64 x.far, .int .i64 x.high, .int .i64 x.wide] := by
  obtain ⟨cs, rfl⟩ := okWide_agg Try.underlying99 hv
  obtain ⟨fuel, h⟩ := h
  obtain ⟨s, e, hr⟩ := el_hou _ _ _ h
  obtain ⟨cl⟩ := cs
  simp only [Value.cells] at e
  subst e
  exact ⟨s, rfl⟩
end
end Go.Proofs.Ytpijmfbpdglchaa
