/- CONTRACT of the law's pick: a number of a range, by words. -/
import Derived.Test.YtpijmfbpdglchaaKInts
namespace Go.Proofs.Ytpijmfbpdglchaa
open Go.RowKit Go.Proofs

def encU (z : Int) : List Value := [.int .u16 z]
theorem encU_len (z : Int) : (encU z).length = 1 := rfl
theorem Rd.atU {w : World} {A : Option Addr} {n : Nat} {l : List Int} (h : Rd encU 1 w A n l) {i : Nat} (hi : i < n) :
    ∃ b o x, A = some ⟨b, o, none⟩ ∧ b < w.heap.size ∧ l[i]? = some x ∧ w.cell? ⟨b, o + i, none⟩ = some (.int .u16 x) := by
  obtain ⟨b, o, x, e, hb, hx, hc⟩ := h.at_ hi
  exact ⟨b, o, x, e, hb, hx, by simpa using hc 0 _ rfl⟩
/-- some number of a range -/
def InP (w : World) (r : Rng) (e : Ending) (w' : World) : Prop := ∃ v : Int, e = .returned (.int .i64 v) ∧ r.1 ≤ v ∧ v ≤ r.2 ∧ Below w.heap.size w w'
theorem InP.mk {w w' : World} {r : Rng} {v : Int} (h1 : r.1 ≤ v) (h2 : v ≤ r.2) (hb : Below w.heap.size w w') : InP w r (.returned (.int .i64 v)) w' := ⟨v, rfl, h1, h2, hb⟩
set_option maxRecDepth 100000 in
set_option maxHeartbeats 400000 in
theorem pick_c {r : Rng} {l : List Int} {A : Option Addr} {n c : Nat} {w : World} (h : Rd encU 1 w A n l) (hl : ∀ z ∈ l, 0 ≤ z ∧ z ≤ 65535) (hn : n ≤ maxLen) (hr : 0 ≤ r.1 ∧ r.1 ≤ r.2 ∧ r.2 ≤ 1000000000) {a : Int} (ha : 0 ≤ a ∧ a ≤ 1000000000) :
    Calls Try.prog 52 #[.agg #[.int .i64 r.1, .int .i64 r.2], .slice A n c, .int .i64 a] w (InP w r) := by
  unfold maxLen at hn
  obtain ⟨lo, hi⟩ := r
  simp only at hr
  have HR := Lib.hid h; have HL := Lib.hid hl
  have hb := (Below.refl w.heap.size w).alloc (Nat.le_refl _) (.cells #[.int .i64 lo, .int .i64 hi] 24)
  have HB := Lib.hid hb
  have hX := Blk.new w 24 #[.int .i64 lo, .int .i64 hi]
  have x0 := hX.cell 0; have x1 := hX.cell 1
  simp at x0 x1
  clear h hl hX
  by_cases hz : n = 0
  · obtain rfl := hz
    clear hb
    go_enter Try.func52, Try.ntmps52
    go_wp2_with fail
    go_ret
    exact InP.mk (by simp only; omega) (by simp only; omega) HB.out
  · have hm0 : 0 ≤ a % (n : Int) := Int.emod_nonneg _ (by omega)
    have hm1 : a % (n : Int) < (n : Int) := Int.emod_lt_of_pos _ (by omega)
    obtain ⟨b, o, x, rfl, hbl, hx, h0'⟩ := HR.out.atU (i := (a % (n : Int)).toNat) (by omega)
    have hxb := HL.out x (List.mem_of_getElem? hx)
    have h0 := (hb.cell (p := ⟨b, o + (a % (n : Int)).toNat, none⟩) hbl).trans h0'
    have hnz : ((n : Int) == 0) = false := by simp; omega
    have hnz' : ¬ ((n : Int) = 0) := by omega
    have hne : b ≠ w.heap.size := by omega
    clear hx h0' hb hz
    by_cases h4 : x % 4 = 0
    · have e4 : (x % 4 == 0) = true := by simp [h4]
      clear h4
      go_enter Try.func52, Try.ntmps52
      go_wp2_with fail
      go_ret
      exact InP.mk (by simp only; omega) (by simp only; omega) HB.out
    · have e4 : (x % 4 == 0) = false := by simp [h4]
      by_cases h5 : x % 4 = 1
      · have e5 : (x % 4 == 1) = true := by simp [h5]
        clear h4 h5
        go_enter Try.func52, Try.ntmps52
        go_wp2_with fail
        go_ret
        exact InP.mk (by simp only; omega) (by simp only; omega) HB.out
      · have e5 : (x % 4 == 1) = false := by simp [h5]
        clear h4 h5
        have q0 : 0 ≤ x % (hi - lo + 1) := Int.emod_nonneg _ (by omega)
        have q1 : x % (hi - lo + 1) < hi - lo + 1 := Int.emod_lt_of_pos _ (by omega)
        have w1 : IntKind.i64.wrap (hi - lo) = hi - lo := wi (by omega)
        have w2 : IntKind.i64.wrap (hi - lo + 1) = hi - lo + 1 := wi (by omega)
        have w3 : x.tmod (hi - lo + 1) = x % (hi - lo + 1) := Int.tmod_eq_emod_of_nonneg (by omega)
        have w4 : IntKind.i64.wrap (x % (hi - lo + 1)) = x % (hi - lo + 1) := wi (by omega)
        have w5 : IntKind.i64.wrap (lo + x % (hi - lo + 1)) = lo + x % (hi - lo + 1) := wi (by omega)
        have w6 : (hi - lo + 1 == 0) = false := by simp; omega
        have w7 : ¬ (hi - lo + 1 = 0) := by omega
        have HW := Lib.hid w1; have HW2 := Lib.hid w2; have HW3 := Lib.hid w3; have HW4 := Lib.hid w4; have HW5 := Lib.hid w5
        clear w1 w2 w3 w4 w5
        go_enter Try.func52, Try.ntmps52
        go_wp2_with fail
        have w1 := HW.out; have w2 := HW2.out; have w3 := HW3.out; have w4 := HW4.out; have w5 := HW5.out
        go_quiet (fail)
        clear w1 w2 w3 w4 w5
        go_wp2_with fail
        go_ret
        exact InP.mk (by simp only; omega) (by simp only; omega) (below_drewN HB.out _)
end Go.Proofs.Ytpijmfbpdglchaa
