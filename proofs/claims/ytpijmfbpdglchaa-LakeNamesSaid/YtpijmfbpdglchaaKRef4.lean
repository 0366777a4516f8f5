/- CONTRACTS of the reference's Level and Height. -/
import Derived.Test.YtpijmfbpdglchaaKRef2
import Derived.Test.YtpijmfbpdglchaaKPlain
import Derived.Test.YtpijmfbpdglchaaKHeight
set_option linter.unusedVariables false
set_option linter.unusedSimpArgs false
namespace Go.Proofs.Ytpijmfbpdglchaa
open Go.RowKit Go.Proofs
theorem levTo_up {l : Lak} (hok : LOk l) {v a b : Int} {i : Nat} (ha : l.vols[i]? = some a) (hv : a ≤ v) (hb : l.vols[i + 1]? = some b) (hbv : v < b) : ∀ k, i < k → levTo l.vols v k = (i : Int)
  | 0, h => absurd h (by omega)
  | k + 1, h => by
    rcases Nat.lt_or_ge i k with h1 | h1
    · have ih := levTo_up hok ha hv hb hbv k h1
      simp only [levTo]
      split
      · rename_i x hx
        rw [if_neg ?_, ih]
        rcases Nat.lt_or_ge (i + 1) k with h2 | h2
        · have := riseB_lt hok.rise k (i + 1) b x h2 hb hx; omega
        · obtain rfl : k = i + 1 := by omega
          rw [hb] at hx; cases hx; omega
      · exact ih
    · obtain rfl : i = k := by omega
      simp [levTo, ha, hv]
theorem levOf_at {l : Lak} (hok : LOk l) {v a : Int} {i : Nat} (ha : l.vols[i]? = some a) (hv : a ≤ v) (hb : ∀ b, l.vols[i + 1]? = some b → v < b) : levOf l.vols v = (i : Int) := by
  have hi := lt_of_get ha
  rcases Nat.lt_or_ge (i + 1) l.vols.length with h | h
  · have hx := List.getElem?_eq_getElem h
    exact levTo_up hok ha hv hx (hb _ hx) _ hi
  · unfold levOf
    obtain e : l.vols.length = i + 1 := by omega
    rw [e]
    simp [levTo, ha, hv]
section
variable {VA IA : Option Addr} {nV nI cV cI : Nat} {l : Lak} {w : World}
set_option maxRecDepth 100000 in
set_option maxHeartbeats 1000000 in
theorem rLevel_c (h : RdL w VA nV IA nI l) (hok : LOk l) {v : Int} (hv : 0 ≤ v) :
    Calls Try.prog 50 #[.agg (lA VA nV cV IA nI cI l), .int .i64 v] w fun e w' => e = .returned (.int .i64 (levOf l.vols v)) ∧ Below w.heap.size w w' := by
  have hb0 := (Below.refl w.heap.size w).alloc (Nat.le_refl _) (.cells (lA VA nV cV IA nI cI l) 27)
  have HB0 := Lib.hid hb0
  have HH := Lib.hid h.vols
  have hln := h.vols.len; have hnn := hok.n
  have hz := atI_lt (l := l.vols) (i := 0) (by omega) (by omega)
  have hz0 : l.vols[0]? = some 0 := by have := hok.v0; simpa [this] using hz
  have hx := Blk.new w 27 (lA VA nV cV IA nI cI l)
  have p0 := hx.cell 0; have p9 := hx.cell 9
  simp at p0 p9
  have HOK := Lib.hid hok; have HZ := Lib.hid hz0
  have hn2 : 2 ≤ nV := by omega
  have hn30 : nV ≤ 30 := by omega
  clear h hok hb0 hz hz0 hx hln hnn
  go_enter Try.func50, Try.ntmps50
  go_wp2_with fail
  go_loopw [5] (fun i wr => ∃ (k : Nat) (a : Int), k < nV ∧ i = .int .i64 k ∧ l.vols[k]? = some a ∧ a ≤ v ∧ wr = w.alloc (.cells (lA VA nV cV IA nI cI l) 27)) (fun i _ => nV - (intOf i).toNat)
  case atStart => exact ⟨0, 0, by omega, rfl, HZ.out, hv, by first | rfl | trivial⟩
  case round =>
    obtain ⟨k, a, hk, rfl, ha, hav, rfl⟩ := hrel
    have HA := Lib.hid ha
    clear ha
    by_cases hlt : k + 1 < nV
    · obtain ⟨b, o, x, rfl, hbl, hx, e0⟩ := (HH.out.below HB0.out).at1 hlt
      have HX := Lib.hid hx
      have hkn : (k : Int) + 1 < (nV : Int) := by omega
      have hk0 : (0 : Int) ≤ (k : Int) + 1 := by omega
      have hkt : ((k : Int) + 1).toNat = k + 1 := by omega
      clear hx
      by_cases hle : x ≤ v
      · go_wp2_with fail
        go_roundw
        case rel => exact ⟨k + 1, x, hlt, by go_num, HX.out, hle, by first | rfl | trivial⟩
        case measure => simp [intOf] <;> omega
      · have hgt : v < x := by omega
        go_wp2_with fail
        go_ret
        exact ⟨ret_int (levOf_at HOK.out HA.out hav fun b hb => by rw [HX.out] at hb; cases hb; omega).symm, HB0.out⟩
    · have hkn : ¬ (k : Int) + 1 < (nV : Int) := by omega
      go_wp2_with fail
      go_ret
      exact ⟨ret_int (levOf_at HOK.out HA.out hav fun b hb => by have := lt_of_get hb; have := HH.out.len; omega).symm, HB0.out⟩
end
set_option maxRecDepth 100000 in
set_option maxHeartbeats 1000000 in
theorem rHeight_c {r : Riv} {x : Hou} {v : Int} (hr : okRi r = true) (hx : okH x = true) (hv : 0 ≤ v ∧ v ≤ 1000000000) (w : World) :
    Calls Try.prog 51 #[.agg (rA r), .agg #[.int .i64 x.far, .int .i64 x.high, .int .i64 x.wide], .int .i64 v] w fun e w' => e = .returned (.int .i64 (hgt r x v)) ∧ Below w.heap.size w w' := by
  have hr' := okRi_iff.1 hr; have hx' := okH_iff.1 hx
  have hm1 : 0 ≤ r.loss * x.far := Int.mul_nonneg hr'.1.1 hx'.1.1
  have hm2 : r.loss * x.far ≤ 1000000 * 200 := Int.mul_le_mul hr'.1.2 hx'.1.2 hx'.1.1 (by omega)
  have hb := ((Below.refl w.heap.size w).alloc (Nat.le_refl _) (.cells (rA r) 84)).alloc (by simp) (.cells #[.int .i64 x.far, .int .i64 x.high, .int .i64 x.wide] 99)
  have HB := Lib.hid hb
  have hw0 : IntKind.i64.wrap (r.loss * x.far) = r.loss * x.far := wi (by omega)
  have hlo := fun h => hgt_low (r := r) (x := x) (v := v) hx'.2.2.1 h
  have hhi := fun h => hgt_high (r := r) (x := x) (v := v) h
  have HLO := Lib.hid hlo; have HHI := Lib.hid hhi
  obtain ⟨M, hM⟩ : ∃ M, M = r.loss * x.far := ⟨_, rfl⟩
  rw [← hM] at hm1 hm2 hw0
  have HM := Lib.hid hM
  clear hb hlo hhi hr hx
  by_cases hle : v - M ≤ 0
  · go_enter Try.func51, Try.ntmps51
    rw [hM] at hw0 hle
    go_wp2_with fail
    go_ret
    exact ⟨ret_int (HLO.out (by omega)).symm, HB.out⟩
  · have hE := HHI.out (by omega)
    have hmb : 0 ≤ r.loss * x.far ∧ r.loss * x.far ≤ 200000000 := by rw [← hM]; omega
    have hgt0 : ¬ v - r.loss * x.far ≤ 0 := by rw [← hM]; exact hle
    have hE' := Lib.hid hE
    have hd0 : ¬ x.wide = 0 := by omega
    have hd1 : (x.wide == 0) = false := by simp; omega
    clear hle hE hM hm1 hm2 hw0
    go_enter Try.func51, Try.ntmps51
    go_wp2_with fail
    go_ret
    exact ⟨ret_int hE'.out.symm, HB.out⟩
end Go.Proofs.Ytpijmfbpdglchaa
