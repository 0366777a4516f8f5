/- CONTRACTS of the reference's Price and Less. -/
import Derived.Test.YtpijmfbpdglchaaKBase
import Derived.Test.YtpijmfbpdglchaaKPlain
set_option linter.unusedVariables false
set_option linter.unusedSimpArgs false
namespace Go.Proofs.Ytpijmfbpdglchaa
open Go.RowKit Go.Proofs
section
variable {A C D : Option Addr} {n cp m d m' d' : Nat} {ws : List Wrk} {c e : List Int} {w : World}
set_option maxRecDepth 100000 in
set_option maxHeartbeats 1000000 in
theorem rPrice_c (h : Rd encW 3 w A n ws) (hc : Rd enc1 1 w C m c) (hok : WOk ws) (hcho : choB ws.length c = true) (hm : m ≤ 10) :
    Calls Try.prog 24 #[.slice A n cp, .slice C m d] w fun e w' => e = .returned (.int .i64 (priceC ws c)) ∧ Below w.heap.size w w' := by
  have HWL := Lib.hid h.len; have HCL := Lib.hid hc.len
  have HW := Lib.hid h; have HC := Lib.hid hc; have HOK := Lib.hid hok; have HCH := Lib.hid (choB_iff.1 hcho).1
  have HBD := Lib.hid (priceTo_bd hok c)
  clear h hc hok hcho
  go_enter Try.func24, Try.ntmps24
  go_wp2_with fail
  go_loopw [5, 6] (fun v i wr => ∃ k : Nat, k ≤ m ∧ i = .int .i64 k ∧ v = .int .i64 (priceTo ws c k) ∧ wr = w) (fun _ i _ => m - (intOf i).toNat)
  case atStart => exact ⟨0, Nat.zero_le _, rfl, rfl, rfl⟩
  case round =>
    obtain ⟨k, hk, rfl, rfl, rfl⟩ := hrel
    by_cases hlt : k < m
    · obtain ⟨b, o, x, rfl, hbl, hx, h0⟩ := HC.out.at1 hlt
      have hxb := HCH.out k x hx
      have hwl := HWL.out
      obtain ⟨j, rfl⟩ : ∃ j : Nat, x = (j : Int) := ⟨x.toNat, by omega⟩
      obtain ⟨b2, o2, y, rfl, hbl2, hy, g0, g1, g2⟩ := HW.out.atW (i := j) (by omega)
      have hi1 : (k : Int) < (m : Int) := by omega
      have hi0 : (0 : Int) ≤ (k : Int) := by omega
      have hj1 : (j : Int) < (n : Int) := by omega
      have hj0 : (0 : Int) ≤ (j : Int) := by omega
      have hs : priceTo ws c (k + 1) = priceTo ws c k + y.price := by simp only [priceTo, hx, Int.toNat_natCast, hy]
      have hb1 := HBD.out k
      have hyb := (okW_iff.1 (HOK.out.all j y hy)).2.2
      have hwr : IntKind.i64.wrap (priceTo ws c k + y.price) = priceTo ws c k + y.price := wi (by omega)
      have HS := Lib.hid hs
      clear hs hx hy hb1 hyb hxb hwl
      go_wp2
      go_roundw
      case rel => exact ⟨k + 1, by omega, by go_num, by rw [HS.out], by first | rfl | trivial⟩
      case measure => simp [intOf] <;> omega
    · obtain rfl : m = k := by omega
      go_wp2
      go_ret
      exact ⟨by unfold priceC; rw [HCL.out]; rfl, Below.refl _ _⟩
theorem cmpL_first : ∀ {k : Nat} {x y : List Int} {a b : Int}, (∀ j, j < k → x[j]? = y[j]?) → x[k]? = some a → y[k]? = some b → a ≠ b → cmpL x y = if a < b then -1 else 1
  | 0, u :: x, v :: y, a, b, _, hx, hy, hne => by
    simp at hx hy; subst hx; subst hy
    unfold cmpL
    split
    · rfl
    · rw [if_pos (by omega)]
  | k + 1, u :: x, v :: y, a, b, h, hx, hy, hne => by
    have h0 := h 0 (by omega)
    simp at h0; subst h0
    unfold cmpL
    rw [if_neg (by omega), if_neg (by omega)]
    exact cmpL_first (k := k) (fun j hj => by simpa using h (j + 1) (by omega)) (by simpa using hx) (by simpa using hy) hne
set_option maxRecDepth 100000 in
set_option maxHeartbeats 1000000 in
theorem rLess_c (h : Rd encW 3 w A n ws) (hc : Rd enc1 1 w C m c) (he : Rd enc1 1 w D m' e) (hok : WOk ws) (hcho : choB ws.length c = true) (hche : choB ws.length e = true) (hm : m ≤ 10) (hm' : m' ≤ 10) :
    Calls Try.prog 30 #[.slice A n cp, .slice C m d, .slice D m' d'] w fun r w' => r = .returned (.bool (ltC ws c e)) ∧ Below w.heap.size w w' := by
  have HPC := Lib.hid (fun (U : World) (hU : Below w.heap.size w U) => rPrice_c (cp := cp) (d := d) (h.below hU) (hc.below hU) hok hcho hm)
  have HPE := Lib.hid (fun (U : World) (hU : Below w.heap.size w U) => rPrice_c (cp := cp) (d := d') (h.below hU) (he.below hU) hok hche hm')
  have HCL := Lib.hid hc.len; have HEL := Lib.hid he.len; have HC := Lib.hid hc; have HE := Lib.hid he
  have HT := Lib.hid (show ltC ws c e = decide (cmpC (priceC ws c) (priceC ws e) c e < 0) from rfl)
  obtain ⟨R, hR⟩ : ∃ R, R = ltC ws c e := ⟨_, rfl⟩
  obtain ⟨pc, hpc⟩ : ∃ x, x = priceC ws c := ⟨_, rfl⟩
  obtain ⟨pe, hpe⟩ : ∃ x, x = priceC ws e := ⟨_, rfl⟩
  rw [← hR, ← hpc, ← hpe] at HT
  rw [← hpc] at HPC
  rw [← hpe] at HPE
  rw [← hR]
  clear hR hpc hpe h hc he hok hcho hche
  by_cases h1 : pc = pe
  · subst h1
    by_cases h2 : m = m'
    · subst h2
      go_enter Try.func30, Try.ntmps30
      go_wp2_with (go_at_call 24; (first | (with_reducible refine (HPC.out _ (by first | with_reducible exact HB.out | exact Below.refl _ _)).mono ?_) | (with_reducible refine (HPE.out _ (by first | with_reducible exact HB.out | exact Below.refl _ _)).mono ?_)); rintro r w1 ⟨rfl, hb1⟩; have hb2 := below_tr (a := w) (by first | with_reducible exact HB.out | exact Below.refl _ _) hb1; (try clear HB); have HB := Lib.hid hb2; clear hb1 hb2)
      go_loopw [7] (fun i wr => ∃ k : Nat, k ≤ m ∧ i = .int .i64 k ∧ Below w.heap.size w wr ∧ ∀ j, j < k → c[j]? = e[j]?) (fun i _ => m - (intOf i).toNat)
      case atStart => exact ⟨0, Nat.zero_le _, rfl, HB.out, fun j hj => absurd hj (by omega)⟩
      case round =>
        obtain ⟨k, hk, rfl, hbr, hall⟩ := hrel
        have HA := Lib.hid hall; have HBR := Lib.hid hbr; clear hall hbr
        by_cases hlt : k < m
        · obtain ⟨b, o, x, rfl, hbl, hx, h0⟩ := (HC.out.below HBR.out).at1 hlt
          obtain ⟨b2, o2, y, rfl, hbl2, hy, g0⟩ := (HE.out.below HBR.out).at1 hlt
          have HX := Lib.hid hx; have HY := Lib.hid hy; clear hx hy
          have hi1 : (k : Int) < (m : Int) := by omega
          have hi0 : (0 : Int) ≤ (k : Int) := by omega
          by_cases hxy : x = y
          · subst hxy
            go_wp2_with fail
            refine wp_region_ext (by kernel_rfl) (by kernel_rfl) ?_
            repeat (go_big_quiet_step (fail))
            refine wpQuiet_nil ?_
            rintro _ ⟨q, rfl⟩
            have HB2 := Lib.hid (below_tr HBR.out q.below)
            go_wp2
            go_roundw
            case rel => exact ⟨k + 1, by omega, by go_num, HB2.out, fun j hj => by
              rcases Nat.lt_or_ge j k with hjk | hjk
              · exact HA.out j hjk
              · obtain rfl : j = k := by omega
                rw [HX.out, HY.out]⟩
            case measure => simp [intOf] <;> omega
          · have hxy' : (x == y) = false := by simpa using hxy
            have hr : R = decide (x < y) := by
              rw [HT.out]
              unfold cmpC
              rw [if_neg (by simp [sgn]), if_neg (by rw [HCL.out, HEL.out]; simp [sgn]), cmpL_first HA.out HX.out HY.out hxy]
              split <;> simp_all <;> omega
            have HR := Lib.hid hr; clear hr
            have HXY := Lib.hid hxy; clear hxy
            go_wp2_with fail
            refine wp_region_ext (by kernel_rfl) (by kernel_rfl) ?_
            repeat (go_big_quiet_step (fail))
            refine wpQuiet_nil ?_
            rintro _ ⟨q, rfl⟩
            have HB2 := Lib.hid (below_tr HBR.out q.below)
            have k0 := (q.below.cell (p := ⟨b, o + k, none⟩) hbl).trans h0
            have k1 := (q.below.cell (p := ⟨b2, o2 + k, none⟩) hbl2).trans g0
            have l0 : b < q.w.heap.size := Nat.lt_of_lt_of_le hbl q.below.size
            have l1 : b2 < q.w.heap.size := Nat.lt_of_lt_of_le hbl2 q.below.size
            clear h0 g0
            go_wp2_with fail
            refine wp_region_ext (by kernel_rfl) (by kernel_rfl) ?_
            repeat (go_big_quiet_step (fail))
            refine wpQuiet_nil ?_
            rintro _ ⟨q', rfl⟩
            have HB3 := Lib.hid (below_tr HB2.out q'.below)
            go_wp2
            go_ret
            exact ⟨ret_bool (by rw [HR.out]), HB3.out⟩
        · obtain rfl : m = k := by omega
          go_wp2
          go_ret
          refine ⟨ret_bool ?_, HBR.out⟩
          have hce : c = e := List.ext_getElem? fun i => by
            rcases Nat.lt_or_ge i m with hi | hi
            · exact HA.out i hi
            · rw [List.getElem?_eq_none (by rw [HCL.out]; exact hi), List.getElem?_eq_none (by rw [HEL.out]; exact hi)]
          rw [HT.out]; subst hce
          simp [cmpC, sgn, cmpL_self]
    · have h2' : ((m : Int) == (m' : Int)) = false := by simpa using (show ¬ (m : Int) = (m' : Int) by omega)
      have HR := Lib.hid (show R = decide ((m : Int) < (m' : Int)) by
        rw [HT.out]; unfold cmpC; rw [if_neg (by simp [sgn]), HCL.out, HEL.out]
        rcases Int.lt_trichotomy (m : Int) (m' : Int) with h | h | h
        · rw [sgn_lt h, if_pos (by omega)]; simp [h]
        · omega
        · rw [sgn_gt h, if_pos (by omega)]; simp; omega)
      go_enter Try.func30, Try.ntmps30
      go_wp2_with (go_at_call 24; (first | (with_reducible refine (HPC.out _ (by first | with_reducible exact HB.out | exact Below.refl _ _)).mono ?_) | (with_reducible refine (HPE.out _ (by first | with_reducible exact HB.out | exact Below.refl _ _)).mono ?_)); rintro r w1 ⟨rfl, hb1⟩; have hb2 := below_tr (a := w) (by first | with_reducible exact HB.out | exact Below.refl _ _) hb1; (try clear HB); have HB := Lib.hid hb2; clear hb1 hb2)
      go_ret
      exact ⟨ret_bool (by rw [HR.out]; simp), HB.out⟩
  · have h1' : (pc == pe) = false := by simpa using h1
    have HR := Lib.hid (show R = decide (pc < pe) by
      rw [HT.out]; unfold cmpC
      rcases Int.lt_trichotomy pc pe with h | h | h
      · rw [sgn_lt h, if_pos (by omega)]; simp [h]
      · omega
      · rw [sgn_gt h, if_pos (by omega)]; simp; omega)
    go_enter Try.func30, Try.ntmps30
    go_wp2_with (go_at_call 24; (first | (with_reducible refine (HPC.out _ (by first | with_reducible exact HB.out | exact Below.refl _ _)).mono ?_) | (with_reducible refine (HPE.out _ (by first | with_reducible exact HB.out | exact Below.refl _ _)).mono ?_)); rintro r w1 ⟨rfl, hb1⟩; have hb2 := below_tr (a := w) (by first | with_reducible exact HB.out | exact Below.refl _ _) hb1; (try clear HB); have HB := Lib.hid hb2; clear hb1 hb2)
    go_ret
    exact ⟨ret_bool (by rw [HR.out]), HB.out⟩
end
end Go.Proofs.Ytpijmfbpdglchaa
