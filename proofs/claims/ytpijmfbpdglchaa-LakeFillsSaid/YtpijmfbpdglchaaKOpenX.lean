/- OPENING a Real that came in. -/
import Derived.Test.YtpijmfbpdglchaaKOpen
import Derived.Test.YtpijmfbpdglchaaKFits
namespace Go.Proofs.Ytpijmfbpdglchaa
open Go.RowKit Go.Proofs Go.ChangeShapes Go.WideShapes Go.Deep
theorem len4x {α : Type} : ∀ {l : List α}, l.length = 4 → ∃ a b c d, l = [a, b, c, d]
  | [a, b, c, d], _ => ⟨a, b, c, d, rfl⟩
theorem c_rel : Try.prog.cellsOf 75 = 4 := by kernel_rfl
section
variable {H : Type} {enc : TypeId × Value → H} {w : World} {base : Nat} {spare : Nat → Bool} {held : Bool}
set_option maxRecDepth 100000 in
theorem rd_real {r : Reach} {b0 : Nat} {v : Value} {d : DataW H} {p : List MemPlace} (hv : Value.okWide Try.prog w r b0 75 v) (h : DataW.Trod enc Try.prog w base spare held 75 v d p) :
    ∃ (FA : Option Addr) (nF cF : Nat) (SA : Option Addr) (nS cS : Nat) (x : Rel), v = .agg (xA FA nF cF SA nS cS x) ∧ RdX w FA nF SA nS x ∧ nF ≤ cF ∧ cF ≤ maxLen ∧ nS ≤ cS ∧ cS ≤ maxLen := by
  obtain ⟨cs, rfl⟩ := okWide_agg Try.underlying75 hv
  obtain ⟨fuel, h⟩ := h
  obtain ⟨ys, n, rfl, _, hl, hlen, hf⟩ := DataW.trod_struct Try.underlying75 h
  rw [c_rel] at hl
  obtain ⟨cl⟩ := cs
  simp only [Value.cells] at hl hf
  obtain ⟨a, b, c, d, rfl⟩ := len4x hl
  have h0 := hf 0 _ rfl; have h1 := hf 1 _ rfl; have h2 := hf 2 _ rfl; have h3 := hf 3 _ rfl
  simp [c_ints, c_int] at h0 h1 h2 h3
  obtain ⟨y0, e0⟩ := some_at hlen (show 0 < 4 by decide); obtain ⟨y1, e1⟩ := some_at hlen (show 1 < 4 by decide); obtain ⟨y2, e2⟩ := some_at hlen (show 2 < 4 by decide); obtain ⟨y3, e3⟩ := some_at hlen (show 3 < 4 by decide)
  rw [e0] at h0; rw [e1] at h1; rw [e2] at h2; rw [e3] at h3
  obtain ⟨FA, nF, cF, fl, k0, hr0, hc0, hm0, _⟩ := rd_gen (en := enc1) (Q := fun z => (Lit.int .i64 z).wf = true) Try.underlying22 c_int (by decide) (el_int Try.underlying3) h0
  obtain ⟨SA, nS, cS, sl, k1, hr1, hc1, hm1, _⟩ := rd_gen (en := enc1) (Q := fun z => (Lit.int .i64 z).wf = true) Try.underlying22 c_int (by decide) (el_int Try.underlying3) h1
  obtain ⟨z2, k2, _, _⟩ := DataW.trod_int Try.underlying3 h2
  obtain ⟨z3, k3, _, _⟩ := DataW.trod_int Try.underlying3 h3
  simp at k0 k1 k2 k3
  subst k0; subst k1; subst k2; subst k3
  exact ⟨FA, nF, cF, SA, nS, cS, ⟨fl, sl, z2, z3⟩, rfl, ⟨hr0, hr1⟩, hc0, hm0, hc1, hm1⟩
end
end Go.Proofs.Ytpijmfbpdglchaa
