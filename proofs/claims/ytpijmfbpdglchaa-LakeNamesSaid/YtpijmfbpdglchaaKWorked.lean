/- CONTRACT: the error of a lake with works and a choice. -/
import Derived.Test.YtpijmfbpdglchaaKCheck
set_option linter.unusedVariables false
set_option linter.unusedSimpArgs false
namespace Go.Proofs.Ytpijmfbpdglchaa
open Go.RowKit Go.Proofs
attribute [local go_sem ↓] Go.wp_at_zero Go.wp_at_succ

section
variable {VA IA WA CA : Option Addr} {nV nI nW nC cV cI cW cC : Nat} {l : Lak} {ws : List Wrk} {c : List Int} {w : World}
theorem errA_l {l : Lak} {ws : List Wrk} {c : List Int} (h : errL l ≠ 0) : errA l ws c = errL l := by unfold errA; rw [if_pos h]
theorem errA_w {l : Lak} {ws : List Wrk} {c : List Int} (h : errL l = 0) (h2 : errW ws ≠ 0) : errA l ws c = errW ws := by unfold errA; rw [if_neg (by simp [h]), if_pos h2]
theorem errA_c {l : Lak} {ws : List Wrk} {c : List Int} (h : errL l = 0) (h2 : errW ws = 0) : errA l ws c = if choB ws.length c then 0 else 2 := by unfold errA; rw [if_neg (by simp [h]), if_neg (by simp [h2])]
theorem choB_bad {n : Nat} {c : List Int} {k : Nat} {x : Int} (hx : c[k]? = some x) (h : inB x 0 ((n : Int) - 1) = false) : choB n c = false := by
  rw [← Bool.not_eq_true, choB_iff]
  intro h'
  have := h'.1 k x hx
  have := inB_not.1 h
  omega
theorem choB_bad2 {n : Nat} {c : List Int} {k : Nat} {x y : Int} (hx : c[k]? = some x) (hy : c[k + 1]? = some y) (h : y ≤ x) : choB n c = false := by
  rw [← Bool.not_eq_true, choB_iff]
  intro h'
  have := h'.2 k x y hx hy
  omega

set_option maxRecDepth 100000 in
set_option maxHeartbeats 4000000 in
theorem worked_c (h : RdP w VA nV IA nI l WA nW ws CA nC c) (hcV : nV ≤ cV) (hcI : nI ≤ cI) (hnV : nV ≤ maxLen) (hnI : nI ≤ maxLen) (hnW : nW ≤ maxLen) (hnC : nC ≤ maxLen) :
    Calls Try.prog 57 #[.agg (lA VA nV cV IA nI cI l), .slice WA nW cW, .slice CA nC cC] w fun e w' => e = .returned (.int .i64 (errA l ws c)) ∧ Below w.heap.size w w' := by
  have hwl := h.wk.len; have hcl := h.c.len
  have hb := (Below.refl w.heap.size w).alloc (Nat.le_refl _) (.cells (lA VA nV cV IA nI cI l) 38)
  have HC := Lib.hid (check_c (cV := cV) (cI := cI) (h.l.below hb) hcV hcI hnV hnI)
  have HB := Lib.hid hb; have HH := Lib.hid h
  have HNW := Lib.hid hnW; have HNC := Lib.hid hnC
  have HEL := Lib.hid (errA_l (l := l) (ws := ws) (c := c)); have HEW := Lib.hid (errA_w (l := l) (ws := ws) (c := c)); have HEC := Lib.hid (errA_c (l := l) (ws := ws) (c := c))
  have hnC' : (nC : Int) ≤ 9223372036854775807 := by unfold maxLen at hnC; omega
  have hnW' : (nW : Int) ≤ 9223372036854775807 := by unfold maxLen at hnW; omega
  obtain ⟨R, hR⟩ : ∃ R, R = errA l ws c := ⟨_, rfl⟩
  rw [← hR] at HEL HEW HEC ⊢
  obtain ⟨E, hE⟩ : ∃ E, E = errL l := ⟨_, rfl⟩
  rw [← hE] at HEL HEW HEC HC
  have hww : IntKind.i64.wrap ((nW : Int) - 1) = (nW : Int) - 1 := wi (by omega)
  clear hb h hnW hnC hR hE
  by_cases g1 : E = 0
  · subst g1
    have HEW := Lib.hid (HEW.out rfl); have HEC := Lib.hid (HEC.out rfl)
    by_cases g2 : 10 < nW
    · have g2' : (10 : Int) < (nW : Int) := by omega
      have hew : errW ws = 3 := by unfold errW; rw [if_pos (by omega)]
      obtain rfl : R = 3 := by rw [HEW.out (by rw [hew]; omega), hew]
      clear HEL HEW HEC hew
      go_enter Try.func57, Try.ntmps57
      go_wp2_with (go_at_call 63; refine HC.out.mono ?_; rintro e w1 ⟨rfl, hb1⟩)
      go_ret
      exact ⟨rfl, below_tr HB.out hb1⟩
    · have g2' : ¬ (10 : Int) < (nW : Int) := by omega
      have HAW := Lib.hid (fun (U : World) (hU : Below w.heap.size w U) => allWrk_c (p := okW) (c := cW) U (HH.out.wk.mono hU) HNW.out (fun i x W _ _ => work_c x W))
      cases g3 : allB okW ws
      · have hew : errW ws = 1 := by unfold errW; rw [if_neg (by omega), g3]; rfl
        obtain rfl : R = 1 := by rw [HEW.out (by rw [hew]; omega), hew]
        rw [g3] at HAW
        clear HEL HEW HEC hew
        go_enter Try.func57, Try.ntmps57
        go_wp2_with (first | (go_at_call 63; refine HC.out.mono ?_; rintro e w1 ⟨rfl, hb1⟩) | (go_at_call 85; refine (HAW.out _ (below_tr HB.out hb1)).mono ?_; rintro e w2 ⟨rfl, hb2⟩))
        go_ret
        exact ⟨rfl, below_tr (below_tr HB.out hb1) hb2⟩
      · have hew : errW ws = 0 := by unfold errW; rw [if_neg (by omega), g3]; rfl
        have hrc := HEC.out hew
        rw [hwl] at hrc
        have HRC := Lib.hid hrc
        rw [g3] at HAW
        clear HEL HEW HEC hew hrc
        go_enter Try.func57, Try.ntmps57
        go_wp2_with (first | (go_at_call 63; refine HC.out.mono ?_; rintro e w1 ⟨rfl, hb1⟩) | (go_at_call 85; refine (HAW.out _ (below_tr HB.out hb1)).mono ?_; rintro e w2 ⟨rfl, hb2⟩))
        have HB2 := Lib.hid (below_tr (below_tr HB.out hb1) hb2)
        clear hb1 hb2
        go_loopw [25] (fun i wr => ∃ k : Nat, k ≤ nC ∧ i = .int .i64 k ∧ (∀ (j : Nat) (x : Int), j < k → c[j]? = some x → inB x 0 ((nW : Int) - 1) = true) ∧ (∀ (j : Nat) (x y : Int), j + 1 < k → c[j]? = some x → c[j + 1]? = some y → x < y) ∧ wr = w2) (fun i _ => nC - (intOf i).toNat)
        case atStart => exact ⟨0, Nat.zero_le _, rfl, fun j _ hj => absurd hj (by omega), fun j _ _ hj => absurd hj (by omega), by first | rfl | trivial⟩
        case round =>
          obtain ⟨k, hk, rfl, ha1, ha2, rfl⟩ := hrel
          have HA1 := Lib.hid ha1; have HA2 := Lib.hid ha2
          clear ha1 ha2
          by_cases hlt : k < nC
          · obtain ⟨b3, o3, x, rfl, hbl3, hx, e3⟩ := (HH.out.c.below HB2.out).at1 (i := k) hlt
            have HX := Lib.hid hx
            have hkm : (k : Int) < (nC : Int) := by omega
            have hk0 : (0 : Int) ≤ (k : Int) := by omega
            clear hx
            cases g4 : inB x 0 ((nW : Int) - 1)
            · obtain rfl : R = 2 := by rw [HRC.out, choB_bad HX.out g4]; rfl
              go_wp2_with (go_at_call 78; refine (within_c _ _ _ _).mono ?_; rintro e w' ⟨rfl, rfl⟩; simp only [g4])
              go_ret
              exact ⟨rfl, HB2.out⟩
            · by_cases hk1 : 0 < k
              · obtain ⟨k', rfl⟩ : ∃ k', k = k' + 1 := ⟨k - 1, by omega⟩
                obtain ⟨b4, o4, y, hA4, hbl4, hy, e4⟩ := (HH.out.c.below HB2.out).at1 (i := k') (by omega)
                cases hA4
                have HY := Lib.hid hy
                have hkc : ((k' + 1 : Nat) : Int) = (k' : Int) + 1 := by push_cast; rfl
                have hkp : (0 : Int) < (k' : Int) + 1 := by omega
                have hkm' : (k' : Int) + 1 < (nC : Int) := by omega
                have hk'0 : (0 : Int) ≤ (k' : Int) := by omega
                have hk'n : (k' : Int) < (nC : Int) := by omega
                clear hy
                by_cases hle : x ≤ y
                · obtain rfl : R = 2 := by rw [HRC.out, choB_bad2 HY.out HX.out hle]; rfl
                  rw [hkc] at *
                  go_wp2_with (go_at_call 78; refine (within_c _ _ _ _).mono ?_; rintro e w' ⟨rfl, rfl⟩; simp only [g4])
                  go_ret
                  exact ⟨rfl, HB2.out⟩
                · have hlt' : y < x := by omega
                  clear hle
                  rw [hkc] at *
                  go_wp2_with (go_at_call 78; refine (within_c _ _ _ _).mono ?_; rintro e w' ⟨rfl, rfl⟩; simp only [g4])
                  go_roundw
                  case rel =>
                    refine ⟨k' + 1 + 1, by omega, by go_num, fun j u hj hu => ?_, fun j u v hj hu hv => ?_, by first | rfl | trivial⟩
                    · rcases Nat.lt_or_ge j (k' + 1) with h5 | h5
                      · exact HA1.out j u h5 hu
                      · obtain rfl : j = k' + 1 := by omega
                        rw [HX.out] at hu; cases hu; exact g4
                    · rcases Nat.lt_or_ge (j + 1) (k' + 1) with h5 | h5
                      · exact HA2.out j u v h5 hu hv
                      · obtain rfl : j = k' := by omega
                        rw [HY.out] at hu; cases hu
                        rw [HX.out] at hv; cases hv
                        exact hlt'
                  case measure => simp [intOf] <;> omega
              · obtain rfl : k = 0 := by omega
                rw [Nat.add_zero] at e3
                clear hk1
                go_wp2_with (go_at_call 78; refine (within_c _ _ _ _).mono ?_; rintro e w' ⟨rfl, rfl⟩; simp only [g4])
                go_roundw
                case rel =>
                  refine ⟨0 + 1, by omega, by go_num, fun j u hj hu => ?_, fun j u v hj hu hv => absurd hj (by omega), by first | rfl | trivial⟩
                  obtain rfl : j = 0 := by omega
                  rw [HX.out] at hu; cases hu; exact g4
                case measure => simp [intOf] <;> omega
          · obtain rfl : k = nC := by omega
            obtain rfl : R = 0 := by
              rw [HRC.out, if_pos]
              rw [choB_iff]
              exact ⟨fun j x hx => inB_iff.1 (HA1.out j x (by have := lt_of_get hx; omega) hx), fun j x y hx hy => HA2.out j x y (by have := lt_of_get hy; omega) hx hy⟩
            go_wp2_with fail
            go_ret
            exact ⟨rfl, HB2.out⟩
  · obtain rfl := HEL.out g1
    clear HEL HEW HEC
    go_enter Try.func57, Try.ntmps57
    go_wp2_with (go_at_call 63; refine HC.out.mono ?_; rintro e w1 ⟨rfl, hb1⟩)
    go_ret
    exact ⟨rfl, below_tr HB.out hb1⟩
end
end Go.Proofs.Ytpijmfbpdglchaa
