/- HOW A ZONE LAW's ARGUMENTS READ: bytes, evidence. -/
import Derived.Test.YtphdndiikikecaaZOpen
import Derived.Test.YtphdndiikikecaaZHearLaw
namespace Go.Proofs.Ytphdndiikikecaa
open Go.RowKit Go.Proofs Go.ChangeShapes Go.WideShapes Go.Deep

section
variable {H : Type} {enc : TypeId × Value → H} {P : Program} {w : World} {base : Nat} {spare : Nat → Bool} {held : Bool}
theorem rd_bytes_of {t e : TypeId} {A : Option Addr} {len cap : Nat} {d : DataW H} {p : List MemPlace} (ht : P.underlying t = some (.slice e)) (he : P.underlying e = some (.int .u8)) (hc : P.cellsOf e = 1) (h : DataW.Trod enc P w base spare held t (.slice A len cap) d p) :
    ∃ l : List UInt8, Rd encB 1 w A len l ∧ len ≤ cap ∧ cap ≤ maxLen := by
  obtain ⟨l, h1, h2, h3, h4⟩ := rd_ints_of ht he hc h
  refine ⟨l.map fun z => UInt8.ofNat z.toNat, ⟨by simp [h1.1], fun hn => ?_⟩, h2, h3⟩
  obtain ⟨b, o, e, hlt, hcell⟩ := h1.2 hn
  refine ⟨b, o, e, hlt, fun i x hx j v hv => ?_⟩
  rw [List.getElem?_map, Option.map_eq_some_iff] at hx
  obtain ⟨z, hz, rfl⟩ := hx
  have hb := byte_of_wf (h4 z (List.mem_of_getElem? hz))
  match j, hv with
  | 0, hv =>
    have := hcell i z hz 0 _ rfl
    rw [this]
    simp [encB] at hv
    rw [← hv]
    congr 2
    omega
end
section
variable {H : Type} {enc : TypeId × Value → H} {w : World} {base : Nat} {spare : Nat → Bool} {held : Bool}
theorem c_ev : Try.prog.cellsOf 95 = 3 := by kernel_rfl
theorem len3 {α : Type} : ∀ {l : List α}, l.length = 3 → ∃ a b c, l = [a, b, c]
  | [a, b, c], _ => ⟨a, b, c, rfl⟩
theorem el_ev (fuel : Nat) (cs : List Value) (x : DataW H × List MemPlace) (h : DataW.trod enc Try.prog w base spare held fuel 95 cs = some x) : ∃ e : Evd, encE e = cs ∧ True := by
  obtain ⟨ys, n, rfl, _, hl, hlen, hf⟩ := DataW.trod_struct Try.underlying95 h
  rw [c_ev] at hl
  obtain ⟨a, b, c, rfl⟩ := len3 hl
  have h0 := hf 0 _ rfl; have h1 := hf 1 _ rfl
  simp [c_int, c_rng] at h0 h1
  obtain ⟨y0, e0⟩ := some_at hlen (show 0 < 2 by decide); obtain ⟨y1, e1⟩ := some_at hlen (show 1 < 2 by decide)
  rw [e0] at h0; rw [e1] at h1
  obtain ⟨z0, k0, _, _⟩ := DataW.trod_int Try.underlying3 h0
  obtain ⟨zs, n', rfl, _, hl', hlen', hf'⟩ := DataW.trod_struct Try.underlying60 h1
  have g0 := hf' 0 _ rfl; have g1 := hf' 1 _ rfl
  simp [c_int] at g0 g1
  obtain ⟨u0, i0⟩ := some_at hlen' (show 0 < 2 by decide); obtain ⟨u1, i1⟩ := some_at hlen' (show 1 < 2 by decide)
  rw [i0] at g0; rw [i1] at g1
  obtain ⟨z2, k2, _, w2⟩ := DataW.trod_int Try.underlying3 g0
  obtain ⟨z3, k3, _, w3⟩ := DataW.trod_int Try.underlying3 g1
  simp at k0 k2 k3
  subst k0; subst k2; subst k3
  exact ⟨⟨z0, z2, z3⟩, rfl, trivial⟩
/-- A slice of evidence reads as a list. -/
theorem rd_evs_of {A : Option Addr} {len cap : Nat} {d : DataW H} {p : List MemPlace} (h : DataW.Trod enc Try.prog w base spare held 86 (.slice A len cap) d p) :
    ∃ l : List Evd, Rd encE 3 w A len l ∧ len ≤ cap ∧ cap ≤ maxLen := by
  obtain ⟨fuel, hf⟩ := h
  obtain ⟨A', len', cap', l, e, h1, h2, h3, _⟩ := rd_gen (en := encE) Try.underlying86 c_ev (by decide) el_ev hf
  simp [Value.cells] at e
  obtain ⟨rfl, rfl, rfl⟩ := e
  exact ⟨l, h1, h2, h3⟩
end
end Go.Proofs.Ytphdndiikikecaa
