/- HOW A LAKE LAW's ARGUMENTS READ: a lake, works, houses, slices of ints. -/
import Derived.Test.YtpijmfbpdglchaaKBase
import Derived.Test.YtpijmfbpdglchaaKFits
import Derived.Deep.Slices
import Derived.Deep.Fields
import Derived.ChangeSame
import Derived.OpenShut
set_option linter.unusedVariables false
set_option linter.unusedSimpArgs false
namespace Go.Proofs.Ytpijmfbpdglchaa
open Go.RowKit Go.Proofs Go.ChangeShapes Go.WideShapes Go.Deep

theorem list_choice {α : Type} {P : Nat → α → Prop} : ∀ (n : Nat), (∀ i, i < n → ∃ x, P i x) → ∃ l : List α, l.length = n ∧ ∀ (i : Nat) (x : α), l[i]? = some x → P i x
  | 0, _ => ⟨[], rfl, fun i x h => by simp at h⟩
  | n + 1, h => by
    obtain ⟨l, hl, hp⟩ := list_choice n (fun i hi => h i (by omega))
    obtain ⟨x, hx⟩ := h n (by omega)
    refine ⟨l ++ [x], by simp [hl], fun i y hy => ?_⟩
    rcases Nat.lt_or_ge i n with h' | h'
    · rw [List.getElem?_append_left (by omega)] at hy; exact hp i y hy
    · rw [List.getElem?_append_right (by omega)] at hy
      have : i = n := by
        have := (List.getElem?_eq_some_iff.1 hy).1
        simp at this; omega
      subst this
      simp [hl] at hy; subst hy; exact hx

section
variable {H : Type} {enc : TypeId × Value → H} {P : Program} {w : World} {base : Nat} {spare : Nat → Bool} {held : Bool}
/-- A slice reads as a list, if each element's cells read as a value. -/
theorem rd_gen {α : Type} {en : α → List Value} {k : Nat} {Q : α → Prop} {t e : TypeId} (ht : P.underlying t = some (.slice e)) (hC : P.cellsOf e = k) (hk : 0 < k)
    (hel : ∀ (fuel : Nat) (cs : List Value) (x : DataW H × List MemPlace), DataW.trod enc P w base spare held fuel e cs = some x → ∃ a, en a = cs ∧ Q a) {fuel : Nat} {cs : List Value} {x : DataW H × List MemPlace}
    (h : DataW.trod enc P w base spare held fuel t cs = some x) : ∃ A len cap l, cs = [.slice A len cap] ∧ Rd en k w A len l ∧ len ≤ cap ∧ cap ≤ maxLen ∧ ∀ a ∈ l, Q a := by
  rcases open_slice ht h with h0 | ⟨a, len, cap, m, n, D, Pl, hcs, hb, hl, hm, hmm, hx, hi⟩
  · exact ⟨none, 0, 0, [], h0.1, Rd.nil _ _ _ _, Nat.le_refl _, Nat.zero_le _, fun x hx => by cases hx⟩
  · have hlm : len ≤ m := by rw [hmm]; split <;> omega
    obtain ⟨l, hll, hp⟩ := list_choice (P := fun i (x : α) => Q x ∧ (en x).length = k ∧ ∀ j, j < k → w.cell? (a.add (i * k + j)) = (en x)[j]?) len (fun i him => by
      obtain ⟨cs', hc, ht'⟩ := hi i (by omega)
      obtain ⟨x, hex, hq⟩ := hel _ _ _ ht'
      rw [hC] at hc
      obtain ⟨_, hcl, hat⟩ := World.cells?_some hc
      refine ⟨x, hq, by rw [hex, hcl], fun j hj => ?_⟩
      have := hat j hj
      rw [Go.Deep.add_add] at this
      rw [hex]; exact this)
    refine ⟨some a, len, cap, l, hcs, ⟨hll, fun hn => ?_⟩, hl, hm, fun x hx => ?_⟩
    · obtain ⟨x0, hx0⟩ : ∃ x, l[0]? = some x := ⟨_, List.getElem?_eq_getElem (by omega)⟩
      obtain ⟨_, hl0, hc⟩ := hp 0 x0 hx0
      obtain ⟨b, off, spot⟩ := a
      have hc0 := hc 0 hk
      rw [List.getElem?_eq_getElem (by omega)] at hc0
      have hsp : spot = none := by simpa [Addr.add] using World.cell?_spot hc0
      subst hsp
      refine ⟨b, off, rfl, ?_, fun i x hx j v hv => ?_⟩
      · simp only [Nat.zero_mul, Nat.add_zero, Addr.add, if_true] at hc0
        exact World.block_lt_of_cell? w _ hc0
      · obtain ⟨_, hlx, hc⟩ := hp i x hx
        have hj : j < k := by have := (List.getElem?_eq_some_iff.1 hv).1; omega
        have := hc j hj
        have hadd : (⟨b, off, none⟩ : Addr).add (i * k + j) = ⟨b, off + (i * k + j), none⟩ := by unfold Addr.add; split <;> simp_all
        rw [hadd, ← Nat.add_assoc, hv] at this
        exact this
    · obtain ⟨i, hix⟩ := List.getElem?_of_mem hx
      exact (hp i x hix).1
theorem okWide_agg {t : TypeId} {fs : Array Field} {r : Reach} {b0 : Nat} {v : Value} (ht : P.underlying t = some (.struct fs)) (h : Value.okWide P w r b0 t v) : ∃ cs, v = .agg cs := by
  simp only [Value.okWide, ht] at h
  obtain ⟨cs, e, _⟩ := h
  exact ⟨cs, e⟩
theorem el_int {t : TypeId} {k : IntKind} (ht : P.underlying t = some (.int k)) (fuel : Nat) (cs : List Value) (x : DataW H × List MemPlace) (h : DataW.trod enc P w base spare held fuel t cs = some x) :
    ∃ z : Int, (fun z => [Value.int k z]) z = cs ∧ (Lit.int k z).wf = true := by
  obtain ⟨z, e, _, hw⟩ := DataW.trod_int ht h
  exact ⟨z, e.symm, hw⟩
/-- A slice of ints of a kind reads as a list. -/
theorem rd_ints_of {k : IntKind} {t e : TypeId} {A : Option Addr} {len cap : Nat} {d : DataW H} {p : List MemPlace} (ht : P.underlying t = some (.slice e)) (he : P.underlying e = some (.int k)) (hc : P.cellsOf e = 1) (h : DataW.Trod enc P w base spare held t (.slice A len cap) d p) :
    ∃ l : List Int, Rd (fun z => [Value.int k z]) 1 w A len l ∧ len ≤ cap ∧ cap ≤ maxLen ∧ ∀ z ∈ l, (Lit.int k z).wf = true := by
  obtain ⟨fuel, hf⟩ := h
  obtain ⟨A', len', cap', l, e, h1, h2, h3, h4⟩ := rd_gen (en := fun z => [Value.int k z]) ht hc (by decide) (el_int he) hf
  simp [Value.cells] at e
  obtain ⟨rfl, rfl, rfl⟩ := e
  exact ⟨l, h1, h2, h3, h4⟩
end

section
variable {H : Type} {enc : TypeId × Value → H} {w : World} {base : Nat} {spare : Nat → Bool} {held : Bool}
theorem c_int : Try.prog.cellsOf 3 = 1 := by kernel_rfl
theorem c_rng : Try.prog.cellsOf 24 = 2 := by kernel_rfl
theorem c_ints : Try.prog.cellsOf 22 = 1 := by kernel_rfl
theorem c_rngs : Try.prog.cellsOf 25 = 1 := by kernel_rfl
theorem c_wrk : Try.prog.cellsOf 131 = 3 := by kernel_rfl
theorem c_hou : Try.prog.cellsOf 99 = 3 := by kernel_rfl
theorem c_lak : Try.prog.cellsOf 27 = 10 := by kernel_rfl

theorem len2 {α : Type} : ∀ {l : List α}, l.length = 2 → ∃ a b, l = [a, b]
  | [a, b], _ => ⟨a, b, rfl⟩
theorem len3 {α : Type} : ∀ {l : List α}, l.length = 3 → ∃ a b c, l = [a, b, c]
  | [a, b, c], _ => ⟨a, b, c, rfl⟩
theorem len10 {α : Type} : ∀ {l : List α}, l.length = 10 → ∃ a b c d e f g h i j, l = [a, b, c, d, e, f, g, h, i, j]
  | [a, b, c, d, e, f, g, h, i, j], _ => ⟨a, b, c, d, e, f, g, h, i, j, rfl⟩
theorem some_at {α : Type} {l : List α} {i n : Nat} (h : l.length = n) (hi : i < n) : ∃ y, l[i]? = some y := ⟨_, List.getElem?_eq_getElem (by omega)⟩

/-- the two numbers of a range -/
theorem el_rng (fuel : Nat) (cs : List Value) (x : DataW H × List MemPlace) (h : DataW.trod enc Try.prog w base spare held fuel 24 cs = some x) : ∃ p : Int × Int, enc2 p = cs ∧ ((Lit.int .i64 p.1).wf = true ∧ (Lit.int .i64 p.2).wf = true) := by
  obtain ⟨ys, n, rfl, _, hl, hlen, hf⟩ := DataW.trod_struct Try.underlying24 h
  rw [c_rng] at hl
  obtain ⟨a, b, rfl⟩ := len2 hl
  have h0 := hf 0 _ rfl; have h1 := hf 1 _ rfl
  simp [c_int] at h0 h1
  obtain ⟨y0, e0⟩ := some_at hlen (show 0 < 2 by decide); obtain ⟨y1, e1⟩ := some_at hlen (show 1 < 2 by decide)
  rw [e0] at h0; rw [e1] at h1
  obtain ⟨z0, k0, _, w0⟩ := DataW.trod_int Try.underlying3 h0
  obtain ⟨z1, k1, _, w1⟩ := DataW.trod_int Try.underlying3 h1
  simp at k0 k1
  subst k0; subst k1
  exact ⟨(z0, z1), rfl, w0, w1⟩
theorem el_wrk (fuel : Nat) (cs : List Value) (x : DataW H × List MemPlace) (h : DataW.trod enc Try.prog w base spare held fuel 131 cs = some x) : ∃ p : Wrk, encW p = cs ∧ True := by
  obtain ⟨ys, n, rfl, _, hl, hlen, hf⟩ := DataW.trod_struct Try.underlying131 h
  rw [c_wrk] at hl
  obtain ⟨a, b, c, rfl⟩ := len3 hl
  have h0 := hf 0 _ rfl; have h1 := hf 1 _ rfl; have h2 := hf 2 _ rfl
  simp [c_int] at h0 h1 h2
  obtain ⟨y0, e0⟩ := some_at hlen (show 0 < 3 by decide); obtain ⟨y1, e1⟩ := some_at hlen (show 1 < 3 by decide); obtain ⟨y2, e2⟩ := some_at hlen (show 2 < 3 by decide)
  rw [e0] at h0; rw [e1] at h1; rw [e2] at h2
  obtain ⟨z0, k0, _, w0⟩ := DataW.trod_int Try.underlying3 h0
  obtain ⟨z1, k1, _, w1⟩ := DataW.trod_int Try.underlying3 h1
  obtain ⟨z2, k2, _, w2⟩ := DataW.trod_int Try.underlying3 h2
  simp at k0 k1 k2
  subst k0; subst k1; subst k2
  exact ⟨⟨z0, z1, z2⟩, rfl, trivial⟩
theorem el_hou (fuel : Nat) (cs : List Value) (x : DataW H × List MemPlace) (h : DataW.trod enc Try.prog w base spare held fuel 99 cs = some x) : ∃ p : Hou, encH p = cs ∧ True := by
  obtain ⟨ys, n, rfl, _, hl, hlen, hf⟩ := DataW.trod_struct Try.underlying99 h
  rw [c_hou] at hl
  obtain ⟨a, b, c, rfl⟩ := len3 hl
  have h0 := hf 0 _ rfl; have h1 := hf 1 _ rfl; have h2 := hf 2 _ rfl
  simp [c_int] at h0 h1 h2
  obtain ⟨y0, e0⟩ := some_at hlen (show 0 < 3 by decide); obtain ⟨y1, e1⟩ := some_at hlen (show 1 < 3 by decide); obtain ⟨y2, e2⟩ := some_at hlen (show 2 < 3 by decide)
  rw [e0] at h0; rw [e1] at h1; rw [e2] at h2
  obtain ⟨z0, k0, _, w0⟩ := DataW.trod_int Try.underlying3 h0
  obtain ⟨z1, k1, _, w1⟩ := DataW.trod_int Try.underlying3 h1
  obtain ⟨z2, k2, _, w2⟩ := DataW.trod_int Try.underlying3 h2
  simp at k0 k1 k2
  subst k0; subst k1; subst k2
  exact ⟨⟨z0, z1, z2⟩, rfl, trivial⟩
set_option maxRecDepth 100000 in
/-- A lake reads as one. -/
theorem rd_lake {r : Reach} {b0 : Nat} {v : Value} {d : DataW H} {p : List MemPlace} (hv : Value.okWide Try.prog w r b0 27 v) (h : DataW.Trod enc Try.prog w base spare held 27 v d p) :
    ∃ (VA : Option Addr) (nV cV : Nat) (IA : Option Addr) (nI cI : Nat) (l : Lak), v = .agg (lA VA nV cV IA nI cI l) ∧ RdL w VA nV IA nI l ∧ nV ≤ cV ∧ cV ≤ maxLen ∧ nI ≤ cI ∧ cI ≤ maxLen := by
  obtain ⟨cs, rfl⟩ := okWide_agg Try.underlying27 hv
  obtain ⟨fuel, h⟩ := h
  obtain ⟨ys, n, rfl, _, hl, hlen, hf⟩ := DataW.trod_struct Try.underlying27 h
  rw [c_lak] at hl
  obtain ⟨cl⟩ := cs
  simp only [Value.cells] at hl hf
  obtain ⟨a, b, c, d, e, f, g, x7, x8, x9, rfl⟩ := len10 hl
  have h0 := hf 0 _ rfl; have h1 := hf 1 _ rfl; have h2 := hf 2 _ rfl; have h3 := hf 3 _ rfl; have h4 := hf 4 _ rfl; have h5 := hf 5 _ rfl; have h6 := hf 6 _ rfl
  simp [c_ints, c_int, c_rng, c_rngs] at h0 h1 h2 h3 h4 h5 h6
  obtain ⟨y0, e0⟩ := some_at hlen (show 0 < 7 by decide); obtain ⟨y1, e1⟩ := some_at hlen (show 1 < 7 by decide); obtain ⟨y2, e2⟩ := some_at hlen (show 2 < 7 by decide); obtain ⟨y3, e3⟩ := some_at hlen (show 3 < 7 by decide)
  obtain ⟨y4, e4⟩ := some_at hlen (show 4 < 7 by decide); obtain ⟨y5, e5⟩ := some_at hlen (show 5 < 7 by decide); obtain ⟨y6, e6⟩ := some_at hlen (show 6 < 7 by decide)
  rw [e0] at h0; rw [e1] at h1; rw [e2] at h2; rw [e3] at h3; rw [e4] at h4; rw [e5] at h5; rw [e6] at h6
  obtain ⟨VA, nV, cV, vl, k0, hr0, hc0, hm0, _⟩ := rd_gen (en := enc1) (Q := fun z => (Lit.int .i64 z).wf = true) Try.underlying22 c_int (by decide) (el_int Try.underlying3) h0
  obtain ⟨z1, k1, _, _⟩ := DataW.trod_int Try.underlying3 h1
  obtain ⟨z2, k2, _, _⟩ := DataW.trod_int Try.underlying3 h2
  obtain ⟨r3, k3, _⟩ := el_rng _ _ _ h3
  obtain ⟨r4, k4, _⟩ := el_rng _ _ _ h4
  obtain ⟨r5, k5, _⟩ := el_rng _ _ _ h5
  obtain ⟨IA, nI, cI, il, k6, hr6, hc6, hm6, _⟩ := rd_gen (en := enc2) Try.underlying25 c_rng (by decide) el_rng h6
  simp [enc2] at k0 k1 k2 k3 k4 k5 k6
  obtain ⟨q1, q2⟩ := k3; obtain ⟨q3, q4⟩ := k4; obtain ⟨q5, q6⟩ := k5
  subst k0; subst k1; subst k2; subst q1; subst q2; subst q3; subst q4; subst q5; subst q6; subst k6
  exact ⟨VA, nV, cV, IA, nI, cI, ⟨vl, z1, z2, r3, r4, r5, il⟩, rfl, ⟨hr0, hr6⟩, hc0, hm0, hc6, hm6⟩
/-- A slice of works reads as a list. -/
theorem rd_works_of {A : Option Addr} {len cap : Nat} {d : DataW H} {p : List MemPlace} (h : DataW.Trod enc Try.prog w base spare held 28 (.slice A len cap) d p) :
    ∃ l : List Wrk, Rd encW 3 w A len l ∧ len ≤ cap ∧ cap ≤ maxLen := by
  obtain ⟨fuel, hf⟩ := h
  obtain ⟨A', len', cap', l, e, h1, h2, h3, _⟩ := rd_gen (en := encW) Try.underlying28 c_wrk (by decide) el_wrk hf
  simp [Value.cells] at e
  obtain ⟨rfl, rfl, rfl⟩ := e
  exact ⟨l, h1, h2, h3⟩
/-- A slice of houses reads as a list. -/
theorem rd_houses_of {A : Option Addr} {len cap : Nat} {d : DataW H} {p : List MemPlace} (h : DataW.Trod enc Try.prog w base spare held 85 (.slice A len cap) d p) :
    ∃ l : List Hou, Rd encH 3 w A len l ∧ len ≤ cap ∧ cap ≤ maxLen := by
  obtain ⟨fuel, hf⟩ := h
  obtain ⟨A', len', cap', l, e, h1, h2, h3, _⟩ := rd_gen (en := encH) Try.underlying85 c_hou (by decide) el_hou hf
  simp [Value.cells] at e
  obtain ⟨rfl, rfl, rfl⟩ := e
  exact ⟨l, h1, h2, h3⟩
end
theorem wfu16 {z : Int} (h : (Lit.int .u16 z).wf = true) : 0 ≤ z ∧ z ≤ 65535 := by
  simp [Lit.wf, IntKind.min, IntKind.max, IntKind.bits, IntKind.signed] at h
  omega
theorem byte_of_wf {z : Int} (h : (Lit.int .u8 z).wf = true) : 0 ≤ z ∧ z ≤ 255 := by
  simp [Lit.wf, IntKind.min, IntKind.max, IntKind.bits, IntKind.signed] at h
  omega
end Go.Proofs.Ytpijmfbpdglchaa
