/- HOW A LAW's ARGUMENTS READ: slices of structs of ints, of ints, of bytes, and slices of such slices, as lists in memory. -/
import Derived.Test.YtkgoojilmnkgiaaCheck
import Derived.Deep.Slices
import Derived.Deep.Fields
import Derived.ChangeSame
namespace Go.Proofs.Ytkgoojilmnkgiaa
open Go.RowKit Go.Proofs Go.ChangeShapes Go.WideShapes Go.Deep

theorem list_choice {α : Type} {P : Nat → α → Prop} : ∀ (n : Nat), (∀ i, i < n → ∃ x, P i x) → ∃ l : List α, l.length = n ∧ ∀ (i : Nat) (x : α), l[i]? = some x → P i x
  | 0, _ => ⟨[], rfl, fun i x h => by simp at h⟩
  | n + 1, h => by
    obtain ⟨l, hl, hp⟩ := list_choice n (fun i hi => h i (by omega))
    obtain ⟨x, hx⟩ := h n (by omega)
    refine ⟨l ++ [x], by simp [hl], fun i y hy => ?_⟩
    rcases Nat.lt_or_ge i n with h' | h'
    · rw [List.getElem?_append_left (by omega)] at hy; exact hp i y hy
    · rw [List.getElem?_append_right (by omega)] at hy
      have : i = n := by
        have := (List.getElem?_eq_some_iff.1 hy).1
        simp at this; omega
      subst this
      simp [hl] at hy; subst hy; exact hx

section
variable {H : Type} {enc : TypeId × Value → H} {P : Program} {w : World} {base : Nat} {spare : Nat → Bool} {held : Bool}
theorem open_slice_fields {t e : TypeId} {fs : Array Field} {fuel : Nat} {cs : List Value} {x : DataW H × List MemPlace} (ht : P.underlying t = some (.slice e)) (he : P.underlying e = some (.struct fs))
    (hone : oneCellFields P fs = true) (hC : P.cellsOf e = fs.size) (h : DataW.trod enc P w base spare held fuel t cs = some x) :
    cs = [.slice none 0 0] ∨
    ∃ (a : Addr) (len cap m : Nat), cs = [.slice (some a) len cap] ∧ len ≤ cap ∧ cap ≤ maxLen ∧ m = (if spare a.block then cap else len) ∧
      ∀ i, i < m → ∀ (j : Nat) (f : Field), fs[j]? = some f → ∃ (v : Value) (y : DataW H × List MemPlace) (n : Nat), w.cell? (a.add (i * fs.size + j)) = some v ∧ DataW.trod enc P w base spare held n f.type [v] = some y := by
  rcases open_slice ht h with h0 | ⟨a, len, cap, m, n, D, Pl, hcs, hb, hl, hm, hmm, hx, hi⟩
  · exact .inl h0.1
  · refine .inr ⟨a, len, cap, m, hcs, hl, hm, hmm, fun i him j f hj => ?_⟩
    obtain ⟨cs', hc, ht'⟩ := hi i him
    rw [hC] at hc
    obtain ⟨ys, n', hn', hy, hlen, hyl, hf⟩ := DataW.trod_struct he ht'
    obtain ⟨_, hcl, hat⟩ := World.cells?_some hc
    obtain ⟨ho, hk⟩ := hone_of hone j f hj
    have hjl : j < fs.size := (Array.getElem?_eq_some_iff.1 hj).1
    have hcell := hat j hjl
    have hv : cs'[j]? = some (cs'[j]'(by omega)) := List.getElem?_eq_getElem (by omega)
    have h1 := hf j f hj
    rw [ho, hk] at h1
    have hone' : (cs'.drop j).take 1 = [cs'[j]'(by omega)] := by
      rw [List.drop_eq_getElem_cons (by omega)]
      rfl
    rw [hone'] at h1
    have hys : ys[j]? = some (ys[j]'(by omega)) := List.getElem?_eq_getElem (by omega)
    refine ⟨_, _, n', ?_, h1.trans hys⟩
    rw [← Go.Deep.add_add, hcell, hv]

/-- A slice of structs of ints reads as a list. -/
theorem rd_structs {α : Type} {en : α → List Value} {k : Nat} (mk : List Int → α) (hmk : ∀ xs : List Int, xs.length = k → en (mk xs) = xs.map (Value.int .i64)) {t e : TypeId} {fs : Array Field} {A : Option Addr} {len cap : Nat} {d : DataW H} {p : List MemPlace} (ht : P.underlying t = some (.slice e)) (he : P.underlying e = some (.struct fs))
    (hone : oneCellFields P fs = true) (hC : P.cellsOf e = fs.size) (hk : fs.size = k) (hk0 : 0 < k) {ti : TypeId} (hti : P.underlying ti = some (.int .i64)) (hall : ∀ f ∈ fs.toList, f.type = ti) (h : DataW.Trod enc P w base spare held t (.slice A len cap) d p) :
    ∃ l : List α, Rd en k w A len l ∧ len ≤ cap ∧ cap ≤ maxLen ∧ ∀ x ∈ l, ∃ xs : List Int, xs.length = k ∧ x = mk xs ∧ ∀ z ∈ xs, (Lit.int .i64 z).wf = true := by
  obtain ⟨fuel, hf⟩ := h
  rcases open_slice_fields ht he hone hC hf with h0 | ⟨a, len', cap', m, hcs, hl, hm, hmm, hi⟩
  · simp [Value.cells] at h0
    obtain ⟨rfl, rfl, rfl⟩ := h0
    exact ⟨[], Rd.nil _ _ _ _, Nat.le_refl _, Nat.zero_le _, fun x hx => by cases hx⟩
  · simp [Value.cells] at hcs
    obtain ⟨rfl, rfl, rfl⟩ := hcs
    have hlm : len ≤ m := by rw [hmm]; split <;> omega
    obtain ⟨l, hll, hp⟩ := list_choice (P := fun i (x : α) => ∃ xs : List Int, xs.length = k ∧ x = mk xs ∧ (∀ z ∈ xs, (Lit.int .i64 z).wf = true) ∧ ∀ (j : Nat) (z : Int), xs[j]? = some z → w.cell? (a.add (i * k + j)) = some (.int .i64 z)) len (fun i him => by
      obtain ⟨xs, hx1, hx2⟩ := list_choice (P := fun j (z : Int) => (Lit.int .i64 z).wf = true ∧ w.cell? (a.add (i * k + j)) = some (.int .i64 z)) k (fun j hj => by
        have hjf : j < fs.size := by omega
        obtain ⟨v, y, n, hc, ht'⟩ := hi i (by omega) j fs[j] (Array.getElem?_eq_getElem hjf)
        obtain ⟨z, hz, _, hwf⟩ := DataW.trod_int (by rw [hall _ (by simp)]; exact hti) ht'
        simp at hz; subst hz
        exact ⟨z, hwf, by rw [← hk]; exact hc⟩)
      refine ⟨mk xs, xs, hx1, rfl, fun z hz => ?_, fun j z hz => (hx2 j z hz).2⟩
      obtain ⟨j, hj⟩ := List.getElem?_of_mem hz
      exact (hx2 j z hj).1)
    refine ⟨l, ⟨hll, fun hn => ?_⟩, hl, hm, fun x hx => ?_⟩
    · obtain ⟨x0, hx0⟩ : ∃ x, l[0]? = some x := ⟨_, List.getElem?_eq_getElem (by omega)⟩
      obtain ⟨xs, hxl, _, _, hc⟩ := hp 0 x0 hx0
      obtain ⟨b, off, spot⟩ := a
      have hc0 := hc 0 _ (List.getElem?_eq_getElem (by omega))
      have hsp : spot = none := by simpa [Addr.add] using World.cell?_spot hc0
      subst hsp
      refine ⟨b, off, rfl, ?_, fun i x hx j v hv => ?_⟩
      · simp only [Nat.zero_mul, Nat.add_zero, Addr.add, if_true] at hc0
        exact World.block_lt_of_cell? w _ hc0
      · obtain ⟨xs, hxl, rfl, _, hc⟩ := hp i x hx
        rw [hmk xs hxl, List.getElem?_map, Option.map_eq_some_iff] at hv
        obtain ⟨z, hz, rfl⟩ := hv
        have := hc j z hz
        have hadd : (⟨b, off, none⟩ : Addr).add (i * k + j) = ⟨b, off + (i * k + j), none⟩ := by unfold Addr.add; split <;> simp_all
        rw [hadd, ← Nat.add_assoc] at this
        exact this
    · obtain ⟨i, hix⟩ := List.getElem?_of_mem hx
      obtain ⟨xs, h1, h2, h3, _⟩ := hp i x hix
      exact ⟨xs, h1, h2, h3⟩

theorem rd_ints_of {k : IntKind} {t e : TypeId} {A : Option Addr} {len cap : Nat} {d : DataW H} {p : List MemPlace} (ht : P.underlying t = some (.slice e)) (he : P.underlying e = some (.int k)) (hc : P.cellsOf e = 1) (h : DataW.Trod enc P w base spare held t (.slice A len cap) d p) :
    ∃ l : List Int, Rd (fun z => [Value.int k z]) 1 w A len l ∧ len ≤ cap ∧ cap ≤ maxLen ∧ ∀ z ∈ l, (Lit.int k z).wf = true := by
  obtain ⟨fuel, hf⟩ := h
  rcases open_ints ht he hc hf with ⟨hcs, _⟩ | ⟨a, len', cap', zs, hcs, _, hl, hm, hz, _, hcell, hwz⟩
  · simp [Value.cells] at hcs
    obtain ⟨rfl, rfl, rfl⟩ := hcs
    exact ⟨[], Rd.nil _ _ _ _, Nat.le_refl _, Nat.zero_le _, fun x hx => by cases hx⟩
  · simp [Value.cells] at hcs
    obtain ⟨rfl, rfl, rfl⟩ := hcs
    have hlz : len ≤ zs.length := by rw [hz]; split <;> omega
    refine ⟨zs.take len, ⟨by simp; omega, fun hn => ?_⟩, hl, hm, fun z hz => hwz z (List.mem_of_mem_take hz)⟩
    obtain ⟨b, off, spot⟩ := a
    have hc0 := hcell 0 (by omega)
    have hsp : spot = none := by simpa [Addr.add] using World.cell?_spot hc0
    subst hsp
    refine ⟨b, off, rfl, ?_, fun i x hx j v hv => ?_⟩
    · exact World.block_lt_of_cell? w _ (by simpa [Addr.add] using hc0)
    · rw [List.getElem?_take] at hx
      split at hx
      · have hi := (List.getElem?_eq_some_iff.1 hx).1
        match j, hv with
        | 0, hv =>
          simp at hv; subst hv
          have := hcell i hi
          have hadd : (⟨b, off, none⟩ : Addr).add i = ⟨b, off + i, none⟩ := by unfold Addr.add; split <;> simp_all
          rw [hadd] at this
          rw [Nat.mul_one, Nat.add_zero, this]
          simp [List.getD, hx]
      · cases hx
end

def mk2 (xs : List Int) : Int × Int := (xs.getD 0 0, xs.getD 1 0)
theorem mk2_enc (xs : List Int) (h : xs.length = 2) : enc2 (mk2 xs) = xs.map (Value.int .i64) := by
  match xs, h with
  | [a, b], _ => rfl
def mk4 (xs : List Int) : Rdg := ⟨xs.getD 0 0, xs.getD 1 0, xs.getD 2 0, xs.getD 3 0⟩
theorem mk4_enc (xs : List Int) (h : xs.length = 4) : encR (mk4 xs) = xs.map (Value.int .i64) := by
  match xs, h with
  | [a, b, c, d], _ => rfl

theorem byte_of_wf {z : Int} (h : (Lit.int .u8 z).wf = true) : 0 ≤ z ∧ z ≤ 255 := by
  simp [Lit.wf, IntKind.min, IntKind.max, IntKind.bits, IntKind.signed] at h
  omega
theorem wf64 {z : Int} (h : (Lit.int .i64 z).wf = true) : -9223372036854775808 ≤ z ∧ z ≤ 9223372036854775807 := by
  simp [Lit.wf, IntKind.min, IntKind.max, IntKind.bits, IntKind.signed] at h
  omega
theorem wfu32 {z : Int} (h : (Lit.int .u32 z).wf = true) : 0 ≤ z ∧ z ≤ 4294967295 := by
  simp [Lit.wf, IntKind.min, IntKind.max, IntKind.bits, IntKind.signed] at h
  omega
theorem wfu16 {z : Int} (h : (Lit.int .u16 z).wf = true) : 0 ≤ z ∧ z ≤ 65535 := by
  simp [Lit.wf, IntKind.min, IntKind.max, IntKind.bits, IntKind.signed] at h
  omega
theorem wfi32 {z : Int} (h : (Lit.int .i32 z).wf = true) : -2147483648 ≤ z ∧ z ≤ 2147483647 := by
  simp [Lit.wf, IntKind.min, IntKind.max, IntKind.bits, IntKind.signed] at h
  omega
section
variable {H : Type} {enc : TypeId × Value → H} {P : Program} {w : World} {base : Nat} {spare : Nat → Bool} {held : Bool}
theorem rd_bytes_of {t e : TypeId} {A : Option Addr} {len cap : Nat} {d : DataW H} {p : List MemPlace} (ht : P.underlying t = some (.slice e)) (he : P.underlying e = some (.int .u8)) (hc : P.cellsOf e = 1) (h : DataW.Trod enc P w base spare held t (.slice A len cap) d p) :
    ∃ l : List UInt8, Rd encB 1 w A len l ∧ len ≤ cap ∧ cap ≤ maxLen := by
  obtain ⟨l, h1, h2, h3, h4⟩ := rd_ints_of ht he hc h
  refine ⟨l.map fun z => UInt8.ofNat z.toNat, ⟨by simp [h1.1], fun hn => ?_⟩, h2, h3⟩
  obtain ⟨b, o, e, hlt, hcell⟩ := h1.2 hn
  refine ⟨b, o, e, hlt, fun i x hx j v hv => ?_⟩
  rw [List.getElem?_map, Option.map_eq_some_iff] at hx
  obtain ⟨z, hz, rfl⟩ := hx
  have hb := byte_of_wf (h4 z (List.mem_of_getElem? hz))
  match j, hv with
  | 0, hv =>
    have := hcell i z hz 0 _ rfl
    rw [this]
    simp [encB] at hv
    rw [← hv]
    congr 2
    omega
end
end Go.Proofs.Ytkgoojilmnkgiaa
