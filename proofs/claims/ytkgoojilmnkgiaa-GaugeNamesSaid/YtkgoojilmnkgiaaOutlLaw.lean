/- PLAIN LAWS of points that stand out. No program in sight. -/
import Derived.Test.YtkgoojilmnkgiaaNear
namespace Go.Proofs.Ytkgoojilmnkgiaa

/-- does a value stand out between two others? -/
def stB (v a b far : Int) : Bool := (decide (far < v - a) && decide (far < v - b) || decide (far < a - v) && decide (far < b - v)) && inB (a - b) (-far) far
theorem stB_iff {v a b far : Int} : stB v a b far = true ↔ ((far < v - a ∧ far < v - b) ∨ (far < a - v ∧ far < b - v)) ∧ -far ≤ a - b ∧ a - b ≤ far := by
  simp [stB, inB_iff]
/-- does the point with an index stand out? -/
def stAt (l : List (Int × Int)) (far : Int) (i : Nat) : Bool := decide (0 < i) && decide (i + 1 < l.length) && stB (l.getD i (0, 0)).2 (l.getD (i - 1) (0, 0)).2 (l.getD (i + 1) (0, 0)).2 far
theorem stAt_of {l : List (Int × Int)} {far : Int} {i : Nat} {x y z : Int × Int} (hx : l[i]? = some x) (hy : l[i + 1]? = some y) (hz : l[i + 1 + 1]? = some z) : stAt l far (i + 1) = stB y.2 x.2 z.2 far := by
  have h1 := (List.getElem?_eq_some_iff.1 hz).1
  have e1 : l.getD (i + 1) (0, 0) = y := by simp [List.getD, hy]
  have e2 : l.getD (i + 1 - 1) (0, 0) = x := by simp [List.getD, hx]
  have e3 : l.getD (i + 1 + 1) (0, 0) = z := by rw [List.getD, hz]; rfl
  rw [stAt, e1, e2, e3]
  simp [h1]
theorem stAt_zero (l : List (Int × Int)) (far : Int) : stAt l far 0 = false := by simp [stAt]
theorem stAt_end {l : List (Int × Int)} {far : Int} {i : Nat} (h : l.length ≤ i + 1) : stAt l far i = false := by
  simp [stAt]; omega
theorem stAt_in {l : List (Int × Int)} {far : Int} {i : Nat} (h : stAt l far i = true) : 0 < i ∧ i + 1 < l.length := by
  simp [stAt] at h; exact h.1
/-- the points that stand out before an index -/
def outTo (l : List (Int × Int)) (far : Int) (k : Nat) : List Nat := (List.range k).filter (stAt l far)
theorem outTo_yes {l : List (Int × Int)} {far : Int} {k : Nat} (h : stAt l far k = true) : outTo l far (k + 1) = outTo l far k ++ [k] := by simp [outTo, List.range_succ, h]
theorem outTo_no {l : List (Int × Int)} {far : Int} {k : Nat} (h : stAt l far k = false) : outTo l far (k + 1) = outTo l far k := by simp [outTo, List.range_succ, h]
theorem outTo_len (l : List (Int × Int)) (far : Int) (k : Nat) : (outTo l far k).length ≤ k := by
  have := List.length_filter_le (stAt l far) (List.range k); simpa [outTo] using this
def outl (l : List (Int × Int)) (far : Int) : List Nat := outTo l far l.length
theorem outTo_past {l : List (Int × Int)} {far : Int} {k : Nat} (h : l.length ≤ k + 1) : ∀ m, outTo l far (k + m) = outTo l far k
  | 0 => rfl
  | m + 1 => by rw [← Nat.add_assoc, outTo_no (stAt_end (by omega)), outTo_past h m]
theorem outl_eq {l : List (Int × Int)} {far : Int} {k : Nat} (h : l.length ≤ k + 1) : outl l far = outTo l far k := by
  rcases Nat.le_total k l.length with h' | h'
  · obtain ⟨m, hm⟩ := Nat.exists_eq_add_of_le h'
    rw [outl, hm, outTo_past (by omega)]
  · obtain ⟨m, hm⟩ := Nat.exists_eq_add_of_le h'
    rw [outl, hm, outTo_past (by omega)]
theorem mem_outl {l : List (Int × Int)} {far : Int} {i : Nat} : i ∈ outl l far ↔ stAt l far i = true := by
  simp only [outl, outTo, List.mem_filter, List.mem_range]
  exact ⟨fun h => h.2, fun h => ⟨by have := stAt_in h; omega, h⟩⟩
end Go.Proofs.Ytkgoojilmnkgiaa
