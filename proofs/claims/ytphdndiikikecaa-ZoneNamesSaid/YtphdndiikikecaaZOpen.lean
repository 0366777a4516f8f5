/- HOW A ZONE LAW's ARGUMENTS READ: a valley, a slide, slices of ints. -/
import Derived.Test.YtphdndiikikecaaZCheck
import Derived.Deep.Slices
import Derived.Deep.Fields
import Derived.ChangeSame
import Derived.OpenShut
set_option linter.unusedVariables false
set_option linter.unusedSimpArgs false
namespace Go.Proofs.Ytphdndiikikecaa
open Go.RowKit Go.Proofs Go.ChangeShapes Go.WideShapes Go.Deep

theorem list_choice {α : Type} {P : Nat → α → Prop} : ∀ (n : Nat), (∀ i, i < n → ∃ x, P i x) → ∃ l : List α, l.length = n ∧ ∀ (i : Nat) (x : α), l[i]? = some x → P i x
  | 0, _ => ⟨[], rfl, fun i x h => by simp at h⟩
  | n + 1, h => by
    obtain ⟨l, hl, hp⟩ := list_choice n (fun i hi => h i (by omega))
    obtain ⟨x, hx⟩ := h n (by omega)
    refine ⟨l ++ [x], by simp [hl], fun i y hy => ?_⟩
    rcases Nat.lt_or_ge i n with h' | h'
    · rw [List.getElem?_append_left (by omega)] at hy; exact hp i y hy
    · rw [List.getElem?_append_right (by omega)] at hy
      have : i = n := by
        have := (List.getElem?_eq_some_iff.1 hy).1
        simp at this; omega
      subst this
      simp [hl] at hy; subst hy; exact hx

section
variable {H : Type} {enc : TypeId × Value → H} {P : Program} {w : World} {base : Nat} {spare : Nat → Bool} {held : Bool}
/-- A slice reads as a list, if each element's cells read as a value. -/
theorem rd_gen {α : Type} {en : α → List Value} {k : Nat} {Q : α → Prop} {t e : TypeId} (ht : P.underlying t = some (.slice e)) (hC : P.cellsOf e = k) (hk : 0 < k)
    (hel : ∀ (fuel : Nat) (cs : List Value) (x : DataW H × List MemPlace), DataW.trod enc P w base spare held fuel e cs = some x → ∃ a, en a = cs ∧ Q a) {fuel : Nat} {cs : List Value} {x : DataW H × List MemPlace}
    (h : DataW.trod enc P w base spare held fuel t cs = some x) : ∃ A len cap l, cs = [.slice A len cap] ∧ Rd en k w A len l ∧ len ≤ cap ∧ cap ≤ maxLen ∧ ∀ a ∈ l, Q a := by
  rcases open_slice ht h with h0 | ⟨a, len, cap, m, n, D, Pl, hcs, hb, hl, hm, hmm, hx, hi⟩
  · exact ⟨none, 0, 0, [], h0.1, Rd.nil _ _ _ _, Nat.le_refl _, Nat.zero_le _, fun x hx => by cases hx⟩
  · have hlm : len ≤ m := by rw [hmm]; split <;> omega
    obtain ⟨l, hll, hp⟩ := list_choice (P := fun i (x : α) => Q x ∧ (en x).length = k ∧ ∀ j, j < k → w.cell? (a.add (i * k + j)) = (en x)[j]?) len (fun i him => by
      obtain ⟨cs', hc, ht'⟩ := hi i (by omega)
      obtain ⟨x, hex, hq⟩ := hel _ _ _ ht'
      rw [hC] at hc
      obtain ⟨_, hcl, hat⟩ := World.cells?_some hc
      refine ⟨x, hq, by rw [hex, hcl], fun j hj => ?_⟩
      have := hat j hj
      rw [Go.Deep.add_add] at this
      rw [hex]; exact this)
    refine ⟨some a, len, cap, l, hcs, ⟨hll, fun hn => ?_⟩, hl, hm, fun x hx => ?_⟩
    · obtain ⟨x0, hx0⟩ : ∃ x, l[0]? = some x := ⟨_, List.getElem?_eq_getElem (by omega)⟩
      obtain ⟨_, hl0, hc⟩ := hp 0 x0 hx0
      obtain ⟨b, off, spot⟩ := a
      have hc0 := hc 0 hk
      rw [List.getElem?_eq_getElem (by omega)] at hc0
      have hsp : spot = none := by simpa [Addr.add] using World.cell?_spot hc0
      subst hsp
      refine ⟨b, off, rfl, ?_, fun i x hx j v hv => ?_⟩
      · simp only [Nat.zero_mul, Nat.add_zero, Addr.add, if_true] at hc0
        exact World.block_lt_of_cell? w _ hc0
      · obtain ⟨_, hlx, hc⟩ := hp i x hx
        have hj : j < k := by have := (List.getElem?_eq_some_iff.1 hv).1; omega
        have := hc j hj
        have hadd : (⟨b, off, none⟩ : Addr).add (i * k + j) = ⟨b, off + (i * k + j), none⟩ := by unfold Addr.add; split <;> simp_all
        rw [hadd, ← Nat.add_assoc, hv] at this
        exact this
    · obtain ⟨i, hix⟩ := List.getElem?_of_mem hx
      exact (hp i x hix).1
theorem okWide_agg {t : TypeId} {fs : Array Field} {r : Reach} {b0 : Nat} {v : Value} (ht : P.underlying t = some (.struct fs)) (h : Value.okWide P w r b0 t v) : ∃ cs, v = .agg cs := by
  simp only [Value.okWide, ht] at h
  obtain ⟨cs, e, _⟩ := h
  exact ⟨cs, e⟩
theorem el_int {t : TypeId} {k : IntKind} (ht : P.underlying t = some (.int k)) (fuel : Nat) (cs : List Value) (x : DataW H × List MemPlace) (h : DataW.trod enc P w base spare held fuel t cs = some x) :
    ∃ z : Int, (fun z => [Value.int k z]) z = cs ∧ (Lit.int k z).wf = true := by
  obtain ⟨z, e, _, hw⟩ := DataW.trod_int ht h
  exact ⟨z, e.symm, hw⟩
/-- A slice of ints of a kind reads as a list. -/
theorem rd_ints_of {k : IntKind} {t e : TypeId} {A : Option Addr} {len cap : Nat} {d : DataW H} {p : List MemPlace} (ht : P.underlying t = some (.slice e)) (he : P.underlying e = some (.int k)) (hc : P.cellsOf e = 1) (h : DataW.Trod enc P w base spare held t (.slice A len cap) d p) :
    ∃ l : List Int, Rd (fun z => [Value.int k z]) 1 w A len l ∧ len ≤ cap ∧ cap ≤ maxLen ∧ ∀ z ∈ l, (Lit.int k z).wf = true := by
  obtain ⟨fuel, hf⟩ := h
  obtain ⟨A', len', cap', l, e, h1, h2, h3, h4⟩ := rd_gen (en := fun z => [Value.int k z]) ht hc (by decide) (el_int he) hf
  simp [Value.cells] at e
  obtain ⟨rfl, rfl, rfl⟩ := e
  exact ⟨l, h1, h2, h3, h4⟩
end

section
variable {H : Type} {enc : TypeId × Value → H} {w : World} {base : Nat} {spare : Nat → Bool} {held : Bool}
theorem c_int : Try.prog.cellsOf 3 = 1 := by kernel_rfl
theorem c_bool : Try.prog.cellsOf 4 = 1 := by kernel_rfl
theorem c_par : Try.prog.cellsOf 57 = 4 := by kernel_rfl
theorem c_rng : Try.prog.cellsOf 60 = 2 := by kernel_rfl
theorem c_sli : Try.prog.cellsOf 62 = 4 := by kernel_rfl
theorem c_ints : Try.prog.cellsOf 39 = 1 := by kernel_rfl
theorem c_pars : Try.prog.cellsOf 22 = 1 := by kernel_rfl
theorem c_slis : Try.prog.cellsOf 23 = 1 := by kernel_rfl
theorem c_arr : Try.prog.cellsOf 24 = 3 := by kernel_rfl
theorem c_vly : Try.prog.cellsOf 26 = 5 := by kernel_rfl

theorem len4 {α : Type} : ∀ {l : List α}, l.length = 4 → ∃ a b c d, l = [a, b, c, d]
  | [a, b, c, d], _ => ⟨a, b, c, d, rfl⟩
theorem len5 {α : Type} : ∀ {l : List α}, l.length = 5 → ∃ a b c d e, l = [a, b, c, d, e]
  | [a, b, c, d, e], _ => ⟨a, b, c, d, e, rfl⟩
theorem some_at {α : Type} {l : List α} {i n : Nat} (h : l.length = n) (hi : i < n) : ∃ y, l[i]? = some y := ⟨_, List.getElem?_eq_getElem (by omega)⟩

theorem el_par (fuel : Nat) (cs : List Value) (x : DataW H × List MemPlace) (h : DataW.trod enc Try.prog w base spare held fuel 57 cs = some x) : ∃ p : Par, encP p = cs ∧ True := by
  obtain ⟨ys, n, rfl, _, hl, hlen, hf⟩ := DataW.trod_struct Try.underlying57 h
  rw [c_par] at hl
  obtain ⟨a, b, c, d, rfl⟩ := len4 hl
  · skip
    have h0 := hf 0 _ rfl; have h1 := hf 1 _ rfl; have h2 := hf 2 _ rfl; have h3 := hf 3 _ rfl
    simp [c_int, c_bool] at h0 h1 h2 h3
    obtain ⟨y0, e0⟩ := some_at hlen (show 0 < 4 by decide); obtain ⟨y1, e1⟩ := some_at hlen (show 1 < 4 by decide)
    obtain ⟨y2, e2⟩ := some_at hlen (show 2 < 4 by decide); obtain ⟨y3, e3⟩ := some_at hlen (show 3 < 4 by decide)
    rw [e0] at h0; rw [e1] at h1; rw [e2] at h2; rw [e3] at h3
    obtain ⟨z0, k0, _, _⟩ := DataW.trod_int Try.underlying3 h0
    obtain ⟨z1, k1, _, _⟩ := DataW.trod_int Try.underlying3 h1
    obtain ⟨z2, k2, _, _⟩ := DataW.trod_int Try.underlying3 h2
    obtain ⟨z3, k3, _⟩ := DataW.trod_bool Try.underlying4 h3
    simp at k0 k1 k2 k3
    subst k0; subst k1; subst k2; subst k3
    exact ⟨⟨z0, z1, z2, z3⟩, rfl, trivial⟩

theorem el_sli (fuel : Nat) (cs : List Value) (x : DataW H × List MemPlace) (h : DataW.trod enc Try.prog w base spare held fuel 62 cs = some x) :
    ∃ s : Sli, encS s = cs ∧ Rd enc1 1 w s.A s.n s.way ∧ s.n ≤ maxLen ∧ s.n ≤ s.c ∧ (∀ z ∈ s.way, (Lit.int .i64 z).wf = true) ∧ (Lit.int .i64 s.rate).wf = true ∧ (Lit.int .i64 s.lo).wf = true ∧ (Lit.int .i64 s.hi).wf = true := by
  obtain ⟨ys, n, rfl, _, hl, hlen, hf⟩ := DataW.trod_struct Try.underlying62 h
  rw [c_sli] at hl
  obtain ⟨a, b, c, d, rfl⟩ := len4 hl
  · skip
    have h0 := hf 0 _ rfl; have h1 := hf 1 _ rfl; have h2 := hf 2 _ rfl
    simp [c_int, c_ints, c_rng] at h0 h1 h2
    obtain ⟨y0, e0⟩ := some_at hlen (show 0 < 3 by decide); obtain ⟨y1, e1⟩ := some_at hlen (show 1 < 3 by decide); obtain ⟨y2, e2⟩ := some_at hlen (show 2 < 3 by decide)
    rw [e0] at h0; rw [e1] at h1; rw [e2] at h2
    obtain ⟨A, len, cap, l, k0, hr, hc, hm, hwf⟩ := rd_gen (en := enc1) (Q := fun z => (Lit.int .i64 z).wf = true) Try.underlying39 c_int (by decide) (el_int Try.underlying3) h0
    obtain ⟨z1, k1, _, w1⟩ := DataW.trod_int Try.underlying3 h1
    obtain ⟨zs, n', rfl, _, hl', hlen', hf'⟩ := DataW.trod_struct Try.underlying60 h2
    have g0 := hf' 0 _ rfl; have g1 := hf' 1 _ rfl
    simp [c_int] at g0 g1
    obtain ⟨u0, i0⟩ := some_at hlen' (show 0 < 2 by decide); obtain ⟨u1, i1⟩ := some_at hlen' (show 1 < 2 by decide)
    rw [i0] at g0; rw [i1] at g1
    obtain ⟨z2, k2, _, w2⟩ := DataW.trod_int Try.underlying3 g0
    obtain ⟨z3, k3, _, w3⟩ := DataW.trod_int Try.underlying3 g1
    simp at k0 k1 k2 k3
    subst k0; subst k1; subst k2; subst k3
    exact ⟨⟨A, len, cap, l, z1, z2, z3⟩, rfl, hr, Nat.le_trans hc hm, hc, hwf, w1, w2, w3⟩

set_option maxRecDepth 100000 in
/-- A valley reads as one. -/
theorem rd_valley {r : Reach} {b0 : Nat} {v : Value} {d : DataW H} {p : List MemPlace} (hv : Value.okWide Try.prog w r b0 26 v) (h : DataW.Trod enc Try.prog w base spare held 26 v d p) :
    ∃ (PA : Option Addr) (pn pc : Nat) (SA : Option Addr) (sn sc : Nat) (x : Vly), v = .agg #[.slice PA pn pc, .slice SA sn sc, .int .i64 x.s0, .int .i64 x.s1, .int .i64 x.s2] ∧ RdV w PA pn SA sn x ∧ pn ≤ pc ∧ pc ≤ maxLen ∧ sn ≤ sc ∧ sc ≤ maxLen := by
  obtain ⟨cs, rfl⟩ := okWide_agg Try.underlying26 hv
  obtain ⟨fuel, h⟩ := h
  obtain ⟨ys, n, rfl, _, hl, hlen, hf⟩ := DataW.trod_struct Try.underlying26 h
  rw [c_vly] at hl
  obtain ⟨cl⟩ := cs
  simp only [Value.cells] at hl hf
  obtain ⟨a, b, c, d, e, rfl⟩ := len5 hl
  · skip
    have h0 := hf 0 _ rfl; have h1 := hf 1 _ rfl; have h2 := hf 2 _ rfl
    simp [c_pars, c_slis, c_arr] at h0 h1 h2
    obtain ⟨y0, e0⟩ := some_at hlen (show 0 < 3 by decide); obtain ⟨y1, e1⟩ := some_at hlen (show 1 < 3 by decide); obtain ⟨y2, e2⟩ := some_at hlen (show 2 < 3 by decide)
    rw [e0] at h0; rw [e1] at h1; rw [e2] at h2
    obtain ⟨PA, pn, pc, pl, k0, hr0, hc0, hm0, _⟩ := rd_gen (en := encP) Try.underlying22 c_par (by decide) el_par h0
    obtain ⟨SA, sn, sc, sl, k1, hr1, hc1, hm1, hq1⟩ := rd_gen (en := encS) Try.underlying23 c_sli (by decide) el_sli h1
    obtain ⟨zs, n', rfl, _, hl', hlen', hf'⟩ := DataW.trod_array Try.underlying24 h2
    have g0 := hf' 0 (by decide); have g1 := hf' 1 (by decide); have g2 := hf' 2 (by decide)
    simp [c_int] at g0 g1 g2
    obtain ⟨u0, i0⟩ := some_at hlen' (show 0 < 3 by decide); obtain ⟨u1, i1⟩ := some_at hlen' (show 1 < 3 by decide); obtain ⟨u2, i2⟩ := some_at hlen' (show 2 < 3 by decide)
    rw [i0] at g0; rw [i1] at g1; rw [i2] at g2
    obtain ⟨z0, j0, _, w0⟩ := DataW.trod_int Try.underlying3 g0
    obtain ⟨z1, j1, _, w1⟩ := DataW.trod_int Try.underlying3 g1
    obtain ⟨z2, j2, _, w2⟩ := DataW.trod_int Try.underlying3 g2
    simp at k0 k1 j0 j1 j2
    subst k0; subst k1; subst j0; subst j1; subst j2
    exact ⟨PA, pn, pc, SA, sn, sc, ⟨pl, sl, z0, z1, z2⟩, rfl, ⟨hr0, hr1, fun i s hs => by
      have := hq1 s (List.mem_of_getElem? hs)
      exact ⟨this.1, this.2.1, this.2.2.1⟩⟩, hc0, hm0, hc1, hm1⟩
set_option maxRecDepth 100000 in
/-- A slide reads as one. -/
theorem rd_slide {r : Reach} {b0 : Nat} {v : Value} {d : DataW H} {p : List MemPlace} (hv : Value.okWide Try.prog w r b0 62 v) (h : DataW.Trod enc Try.prog w base spare held 62 v d p) :
    ∃ s : Sli, v = .agg #[.slice s.A s.n s.c, .int .i64 s.rate, .int .i64 s.lo, .int .i64 s.hi] ∧ Rd enc1 1 w s.A s.n s.way ∧ s.n ≤ maxLen ∧ s.n ≤ s.c ∧ (∀ z ∈ s.way, (Lit.int .i64 z).wf = true) ∧ (Lit.int .i64 s.rate).wf = true ∧ (Lit.int .i64 s.lo).wf = true ∧ (Lit.int .i64 s.hi).wf = true := by
  obtain ⟨cs, rfl⟩ := okWide_agg Try.underlying62 hv
  obtain ⟨fuel, h⟩ := h
  obtain ⟨s, e, hr⟩ := el_sli _ _ _ h
  obtain ⟨cl⟩ := cs
  simp only [Value.cells] at e
  subst e
  exact ⟨s, rfl, hr⟩
end

theorem byte_of_wf {z : Int} (h : (Lit.int .u8 z).wf = true) : 0 ≤ z ∧ z ≤ 255 := by
  simp [Lit.wf, IntKind.min, IntKind.max, IntKind.bits, IntKind.signed] at h
  omega
theorem wf64 {z : Int} (h : (Lit.int .i64 z).wf = true) : -9223372036854775808 ≤ z ∧ z ≤ 9223372036854775807 := by
  simp [Lit.wf, IntKind.min, IntKind.max, IntKind.bits, IntKind.signed] at h
  omega
theorem wfu32 {z : Int} (h : (Lit.int .u32 z).wf = true) : 0 ≤ z ∧ z ≤ 4294967295 := by
  simp [Lit.wf, IntKind.min, IntKind.max, IntKind.bits, IntKind.signed] at h
  omega
theorem wfu16 {z : Int} (h : (Lit.int .u16 z).wf = true) : 0 ≤ z ∧ z ≤ 65535 := by
  simp [Lit.wf, IntKind.min, IntKind.max, IntKind.bits, IntKind.signed] at h
  omega
end Go.Proofs.Ytphdndiikikecaa
