/- HOW THE ARGUMENTS OF A WATER LAW READ: a ground, days, bytes, slices of ints. -/
import Derived.Test.YtjpobkmlcjbpiaaGreatYAllCel
import Derived.Deep.Slices
import Derived.Deep.Fields
import Derived.ChangeSame
import Derived.OpenShut
set_option linter.unusedVariables false
set_option linter.unusedSimpArgs false
namespace Go.Proofs.YtjpobkmlcjbpiaaGreat
open Go.RowKit Go.Proofs Go.ChangeShapes Go.WideShapes Go.Deep

theorem list_choice {α : Type} {P : Nat → α → Prop} : ∀ (n : Nat), (∀ i, i < n → ∃ x, P i x) → ∃ l : List α, l.length = n ∧ ∀ (i : Nat) (x : α), l[i]? = some x → P i x
  | 0, _ => ⟨[], rfl, fun i x h => by simp at h⟩
  | n + 1, h => by
    obtain ⟨l, hl, hp⟩ := list_choice n (fun i hi => h i (by omega))
    obtain ⟨x, hx⟩ := h n (by omega)
    refine ⟨l ++ [x], by simp [hl], fun i y hy => ?_⟩
    rcases Nat.lt_or_ge i n with h' | h'
    · rw [List.getElem?_append_left (by omega)] at hy; exact hp i y hy
    · rw [List.getElem?_append_right (by omega)] at hy
      have : i = n := by
        have := (List.getElem?_eq_some_iff.1 hy).1
        simp at this; omega
      subst this
      simp [hl] at hy; subst hy; exact hx

section
variable {H : Type} {enc : TypeId × Value → H} {P : Program} {w : World} {base : Nat} {spare : Nat → Bool} {held : Bool}
/-- A slice reads as a list, if each element's cells read as a value. -/
theorem rd_gen {α : Type} {en : α → List Value} {k : Nat} {Q : α → Prop} {t e : TypeId} (ht : P.underlying t = some (.slice e)) (hC : P.cellsOf e = k) (hk : 0 < k)
    (hel : ∀ (fuel : Nat) (cs : List Value) (x : DataW H × List MemPlace), DataW.trod enc P w base spare held fuel e cs = some x → ∃ a, en a = cs ∧ Q a) {fuel : Nat} {cs : List Value} {x : DataW H × List MemPlace}
    (h : DataW.trod enc P w base spare held fuel t cs = some x) : ∃ A len cap l, cs = [.slice A len cap] ∧ Rd en k w A len l ∧ len ≤ cap ∧ cap ≤ maxLen ∧ ∀ a ∈ l, Q a := by
  rcases open_slice ht h with h0 | ⟨a, len, cap, m, n, D, Pl, hcs, hb, hl, hm, hmm, hx, hi⟩
  · exact ⟨none, 0, 0, [], h0.1, Rd.nil _ _ _ _, Nat.le_refl _, Nat.zero_le _, fun x hx => by cases hx⟩
  · have hlm : len ≤ m := by rw [hmm]; split <;> omega
    obtain ⟨l, hll, hp⟩ := list_choice (P := fun i (x : α) => Q x ∧ (en x).length = k ∧ ∀ j, j < k → w.cell? (a.add (i * k + j)) = (en x)[j]?) len (fun i him => by
      obtain ⟨cs', hc, ht'⟩ := hi i (by omega)
      obtain ⟨x, hex, hq⟩ := hel _ _ _ ht'
      rw [hC] at hc
      obtain ⟨_, hcl, hat⟩ := World.cells?_some hc
      refine ⟨x, hq, by rw [hex, hcl], fun j hj => ?_⟩
      have := hat j hj
      rw [Go.Deep.add_add] at this
      rw [hex]; exact this)
    refine ⟨some a, len, cap, l, hcs, ⟨hll, fun hn => ?_⟩, hl, hm, fun x hx => ?_⟩
    · obtain ⟨x0, hx0⟩ : ∃ x, l[0]? = some x := ⟨_, List.getElem?_eq_getElem (by omega)⟩
      obtain ⟨_, hl0, hc⟩ := hp 0 x0 hx0
      obtain ⟨b, off, spot⟩ := a
      have hc0 := hc 0 hk
      rw [List.getElem?_eq_getElem (by omega)] at hc0
      have hsp : spot = none := by simpa [Addr.add] using World.cell?_spot hc0
      subst hsp
      refine ⟨b, off, rfl, ?_, fun i x hx j v hv => ?_⟩
      · simp only [Nat.zero_mul, Nat.add_zero, Addr.add, if_true] at hc0
        exact World.block_lt_of_cell? w _ hc0
      · obtain ⟨_, hlx, hc⟩ := hp i x hx
        have hj : j < k := by have := (List.getElem?_eq_some_iff.1 hv).1; omega
        have := hc j hj
        have hadd : (⟨b, off, none⟩ : Addr).add (i * k + j) = ⟨b, off + (i * k + j), none⟩ := by unfold Addr.add; split <;> simp_all
        rw [hadd, ← Nat.add_assoc, hv] at this
        exact this
    · obtain ⟨i, hix⟩ := List.getElem?_of_mem hx
      exact (hp i x hix).1
theorem okWide_agg {t : TypeId} {fs : Array Field} {r : Reach} {b0 : Nat} {v : Value} (ht : P.underlying t = some (.struct fs)) (h : Value.okWide P w r b0 t v) : ∃ cs, v = .agg cs := by
  simp only [Value.okWide, ht] at h
  obtain ⟨cs, e, _⟩ := h
  exact ⟨cs, e⟩
theorem el_int {t : TypeId} {k : IntKind} (ht : P.underlying t = some (.int k)) (fuel : Nat) (cs : List Value) (x : DataW H × List MemPlace) (h : DataW.trod enc P w base spare held fuel t cs = some x) :
    ∃ z : Int, (fun z => [Value.int k z]) z = cs ∧ (Lit.int k z).wf = true := by
  obtain ⟨z, e, _, hw⟩ := DataW.trod_int ht h
  exact ⟨z, e.symm, hw⟩
/-- A slice of ints of a kind reads as a list. -/
theorem rd_ints_of {k : IntKind} {t e : TypeId} {A : Option Addr} {len cap : Nat} {d : DataW H} {p : List MemPlace} (ht : P.underlying t = some (.slice e)) (he : P.underlying e = some (.int k)) (hc : P.cellsOf e = 1) (h : DataW.Trod enc P w base spare held t (.slice A len cap) d p) :
    ∃ l : List Int, Rd (fun z => [Value.int k z]) 1 w A len l ∧ len ≤ cap ∧ cap ≤ maxLen ∧ ∀ z ∈ l, (Lit.int k z).wf = true := by
  obtain ⟨fuel, hf⟩ := h
  obtain ⟨A', len', cap', l, e, h1, h2, h3, h4⟩ := rd_gen (en := fun z => [Value.int k z]) ht hc (by decide) (el_int he) hf
  simp [Value.cells] at e
  obtain ⟨rfl, rfl, rfl⟩ := e
  exact ⟨l, h1, h2, h3, h4⟩
end

section
variable {H : Type} {enc : TypeId × Value → H} {w : World} {base : Nat} {spare : Nat → Bool} {held : Bool}
theorem c_int : Tryz.prog.cellsOf 3 = 1 := by kernel_rfl
theorem c_rng : Tryz.prog.cellsOf 24 = 2 := by kernel_rfl
theorem c_cels : Tryz.prog.cellsOf 22 = 1 := by kernel_rfl
theorem c_cel : Tryz.prog.cellsOf 76 = 7 := by kernel_rfl
theorem c_day : Tryz.prog.cellsOf 72 = 3 := by kernel_rfl
theorem c_gnd : Tryz.prog.cellsOf 26 = 6 := by kernel_rfl
theorem len2 {α : Type} : ∀ {l : List α}, l.length = 2 → ∃ a b, l = [a, b]
  | [a, b], _ => ⟨a, b, rfl⟩
theorem len3 {α : Type} : ∀ {l : List α}, l.length = 3 → ∃ a b c, l = [a, b, c]
  | [a, b, c], _ => ⟨a, b, c, rfl⟩
theorem len6 {α : Type} : ∀ {l : List α}, l.length = 6 → ∃ a b c d e f, l = [a, b, c, d, e, f]
  | [a, b, c, d, e, f], _ => ⟨a, b, c, d, e, f, rfl⟩
theorem len7 {α : Type} : ∀ {l : List α}, l.length = 7 → ∃ a b c d e f g, l = [a, b, c, d, e, f, g]
  | [a, b, c, d, e, f, g], _ => ⟨a, b, c, d, e, f, g, rfl⟩
theorem some_at {α : Type} {l : List α} {i n : Nat} (h : l.length = n) (hi : i < n) : ∃ y, l[i]? = some y := ⟨_, List.getElem?_eq_getElem (by omega)⟩

/-- the two numbers of a range -/
theorem el_rng (fuel : Nat) (cs : List Value) (x : DataW H × List MemPlace) (h : DataW.trod enc Tryz.prog w base spare held fuel 24 cs = some x) : ∃ p : Int × Int, enc2 p = cs ∧ ((Lit.int .i64 p.1).wf = true ∧ (Lit.int .i64 p.2).wf = true) := by
  obtain ⟨ys, n, rfl, _, hl, hlen, hf⟩ := DataW.trod_struct Tryz.underlying24 h
  rw [c_rng] at hl
  obtain ⟨a, b, rfl⟩ := len2 hl
  have h0 := hf 0 _ rfl; have h1 := hf 1 _ rfl
  simp [c_int] at h0 h1
  obtain ⟨y0, e0⟩ := some_at hlen (show 0 < 2 by decide); obtain ⟨y1, e1⟩ := some_at hlen (show 1 < 2 by decide)
  rw [e0] at h0; rw [e1] at h1
  obtain ⟨z0, k0, _, w0⟩ := DataW.trod_int Tryz.underlying3 h0
  obtain ⟨z1, k1, _, w1⟩ := DataW.trod_int Tryz.underlying3 h1
  simp at k0 k1
  subst k0; subst k1
  exact ⟨(z0, z1), rfl, w0, w1⟩
theorem el_cel (fuel : Nat) (cs : List Value) (x : DataW H × List MemPlace) (h : DataW.trod enc Tryz.prog w base spare held fuel 76 cs = some x) : ∃ p : Cel, encCel p = cs ∧ True := by
  obtain ⟨ys, n, rfl, _, hl, hlen, hf⟩ := DataW.trod_struct Tryz.underlying76 h
  rw [c_cel] at hl
  obtain ⟨a, b, c, d, e, f, g, rfl⟩ := len7 hl
  have h0 := hf 0 _ rfl; have h1 := hf 1 _ rfl; have h2 := hf 2 _ rfl; have h3 := hf 3 _ rfl; have h4 := hf 4 _ rfl; have h5 := hf 5 _ rfl
  simp [c_int, c_rng] at h0 h1 h2 h3 h4 h5
  obtain ⟨y0, e0⟩ := some_at hlen (show 0 < 6 by decide); obtain ⟨y1, e1⟩ := some_at hlen (show 1 < 6 by decide); obtain ⟨y2, e2⟩ := some_at hlen (show 2 < 6 by decide); obtain ⟨y3, e3⟩ := some_at hlen (show 3 < 6 by decide); obtain ⟨y4, e4⟩ := some_at hlen (show 4 < 6 by decide); obtain ⟨y5, e5⟩ := some_at hlen (show 5 < 6 by decide)
  rw [e0] at h0; rw [e1] at h1; rw [e2] at h2; rw [e3] at h3; rw [e4] at h4; rw [e5] at h5
  obtain ⟨r0, k0, _⟩ := el_rng _ _ _ h0
  obtain ⟨z1, k1, _, _⟩ := DataW.trod_int Tryz.underlying3 h1
  obtain ⟨z2, k2, _, _⟩ := DataW.trod_int Tryz.underlying3 h2
  obtain ⟨z3, k3, _, _⟩ := DataW.trod_int Tryz.underlying3 h3
  obtain ⟨z4, k4, _, _⟩ := DataW.trod_int Tryz.underlying3 h4
  obtain ⟨z5, k5, _, _⟩ := DataW.trod_int Tryz.underlying3 h5
  simp [enc2] at k0 k1 k2 k3 k4 k5
  obtain ⟨q1, q2⟩ := k0
  subst q1; subst q2; subst k1; subst k2; subst k3; subst k4; subst k5
  exact ⟨⟨_, _, _, _, _, _, _⟩, rfl, trivial⟩
theorem el_day (fuel : Nat) (cs : List Value) (x : DataW H × List MemPlace) (h : DataW.trod enc Tryz.prog w base spare held fuel 72 cs = some x) : ∃ p : Dy, encDy p = cs ∧ True := by
  obtain ⟨ys, n, rfl, _, hl, hlen, hf⟩ := DataW.trod_struct Tryz.underlying72 h
  rw [c_day] at hl
  obtain ⟨a, b, c, rfl⟩ := len3 hl
  have h0 := hf 0 _ rfl; have h1 := hf 1 _ rfl
  simp [c_int, c_rng] at h0 h1
  obtain ⟨y0, e0⟩ := some_at hlen (show 0 < 2 by decide); obtain ⟨y1, e1⟩ := some_at hlen (show 1 < 2 by decide)
  rw [e0] at h0; rw [e1] at h1
  obtain ⟨r0, k0, _⟩ := el_rng _ _ _ h0
  obtain ⟨z1, k1, _, _⟩ := DataW.trod_int Tryz.underlying3 h1
  simp [enc2] at k0 k1
  obtain ⟨q1, q2⟩ := k0
  subst q1; subst q2; subst k1
  exact ⟨⟨_, _, _⟩, rfl, trivial⟩
/-- what a ground reads as -/
structure Gnd where
  A : Option Addr
  n : Nat
  c : Nat
  sn0 : Int
  sn1 : Int
  so0 : Int
  so1 : Int
  melt : Int
  C : List Cel
set_option maxRecDepth 100000 in
theorem rd_ground {r : Reach} {b0 : Nat} {v : Value} {d : DataW H} {p : List MemPlace} (hv : Value.okWide Tryz.prog w r b0 26 v) (h : DataW.Trod enc Tryz.prog w base spare held 26 v d p) :
    ∃ g : Gnd, v = .agg #[.slice g.A g.n g.c, .int .i64 g.sn0, .int .i64 g.sn1, .int .i64 g.so0, .int .i64 g.so1, .int .i64 g.melt] ∧ Rd encCel 7 w g.A g.n g.C ∧ g.n ≤ g.c ∧ g.c ≤ maxLen := by
  obtain ⟨cs, rfl⟩ := okWide_agg Tryz.underlying26 hv
  obtain ⟨fuel, h⟩ := h
  obtain ⟨ys, n, rfl, _, hl, hlen, hf⟩ := DataW.trod_struct Tryz.underlying26 h
  rw [c_gnd] at hl
  obtain ⟨cl⟩ := cs
  simp only [Value.cells] at hl hf
  obtain ⟨a, b, c, d, e, f, rfl⟩ := len6 hl
  have h0 := hf 0 _ rfl; have h1 := hf 1 _ rfl; have h2 := hf 2 _ rfl; have h3 := hf 3 _ rfl
  simp [c_cels, c_int, c_rng] at h0 h1 h2 h3
  obtain ⟨y0, e0⟩ := some_at hlen (show 0 < 4 by decide); obtain ⟨y1, e1⟩ := some_at hlen (show 1 < 4 by decide); obtain ⟨y2, e2⟩ := some_at hlen (show 2 < 4 by decide); obtain ⟨y3, e3⟩ := some_at hlen (show 3 < 4 by decide)
  rw [e0] at h0; rw [e1] at h1; rw [e2] at h2; rw [e3] at h3
  obtain ⟨A, n, c', cl, k0, hr0, hc0, hm0, _⟩ := rd_gen (en := encCel) Tryz.underlying22 c_cel (by decide) el_cel h0
  obtain ⟨r1, k1, _⟩ := el_rng _ _ _ h1
  obtain ⟨r2, k2, _⟩ := el_rng _ _ _ h2
  obtain ⟨z3, k3, _, _⟩ := DataW.trod_int Tryz.underlying3 h3
  simp [enc2] at k0 k1 k2 k3
  obtain ⟨q1, q2⟩ := k1; obtain ⟨q3, q4⟩ := k2
  subst k0; subst q1; subst q2; subst q3; subst q4; subst k3
  exact ⟨⟨A, n, c', r1.1, r1.2, r2.1, r2.2, z3, cl⟩, rfl, hr0, hc0, hm0⟩
/-- A slice of days reads as a list. -/
theorem rd_days_of {A : Option Addr} {len cap : Nat} {d : DataW H} {p : List MemPlace} (h : DataW.Trod enc Tryz.prog w base spare held 27 (.slice A len cap) d p) :
    ∃ l : List Dy, Rd encDy 3 w A len l ∧ len ≤ cap ∧ cap ≤ maxLen := by
  obtain ⟨fuel, hf⟩ := h
  obtain ⟨A', len', cap', l, e, h1, h2, h3, _⟩ := rd_gen (en := encDy) Tryz.underlying27 c_day (by decide) el_day hf
  simp [Value.cells] at e
  obtain ⟨rfl, rfl, rfl⟩ := e
  exact ⟨l, h1, h2, h3⟩
end
theorem wfu16 {z : Int} (h : (Lit.int .u16 z).wf = true) : 0 ≤ z ∧ z ≤ 65535 := by
  simp [Lit.wf, IntKind.min, IntKind.max, IntKind.bits, IntKind.signed] at h
  omega
theorem byte_of_wf {z : Int} (h : (Lit.int .u8 z).wf = true) : 0 ≤ z ∧ z ≤ 255 := by
  simp [Lit.wf, IntKind.min, IntKind.max, IntKind.bits, IntKind.signed] at h
  omega
section
variable {H : Type} {enc : TypeId × Value → H} {P : Program} {w : World} {base : Nat} {spare : Nat → Bool} {held : Bool}
theorem rd_bytes_of {t e : TypeId} {A : Option Addr} {len cap : Nat} {d : DataW H} {p : List MemPlace} (ht : P.underlying t = some (.slice e)) (he : P.underlying e = some (.int .u8)) (hc : P.cellsOf e = 1) (h : DataW.Trod enc P w base spare held t (.slice A len cap) d p) :
    ∃ l : List UInt8, Rd encB 1 w A len l ∧ len ≤ cap ∧ cap ≤ maxLen := by
  obtain ⟨l, h1, h2, h3, h4⟩ := rd_ints_of ht he hc h
  refine ⟨l.map fun z => UInt8.ofNat z.toNat, ⟨by simp [h1.1], fun hn => ?_⟩, h2, h3⟩
  obtain ⟨b, o, e, hlt, hcell⟩ := h1.2 hn
  refine ⟨b, o, e, hlt, fun i x hx j v hv => ?_⟩
  rw [List.getElem?_map, Option.map_eq_some_iff] at hx
  obtain ⟨z, hz, rfl⟩ := hx
  have hb := byte_of_wf (h4 z (List.mem_of_getElem? hz))
  match j, hv with
  | 0, hv =>
    have := hcell i z hz 0 _ rfl
    rw [this]
    simp [encB] at hv
    rw [← hv]
    congr 2
    omega
end
end Go.Proofs.YtjpobkmlcjbpiaaGreat
