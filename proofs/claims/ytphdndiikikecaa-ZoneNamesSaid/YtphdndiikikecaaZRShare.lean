/- THE CONTRACT of the reference's Share. -/
import Derived.Test.YtphdndiikikecaaZRShareLaw
import Derived.Test.YtphdndiikikecaaZShare
set_option linter.unusedVariables false
set_option linter.unusedSimpArgs false
namespace Go.Proofs.Ytphdndiikikecaa
open Go.RowKit Go.Proofs
attribute [local go_sem ↓] Go.wp_at_zero Go.wp_at_succ

/-- two rows of ints lie in two blocks -/
def Apart (a b : Value) : Prop := ∀ g, a.ownBlock = some g → b.ownBlock ≠ some g
theorem Apart.symm {a b : Value} (h : Apart a b) : Apart b a := fun g h1 h2 => h g h2 h1
theorem own_block_lt {w : World} {base : Nat} {e : TypeId} {size n : Nat} {v : Value} {xs : List Value} (h : w.ownsRow base e size v n xs) {g : Nat} (hg : v.ownBlock = some g) : g < w.heap.size := (h.lt g hg).2
/-- a row that an append has made is apart from another one -/
theorem Apart.step {W : World} {base : Nat} {e : TypeId} {size n : Nat} {v v' u : Value} {xs : List Value} (h : Apart v u) (hu : W.ownsRow base e size u n xs) (hv : v'.ownBlock = v.ownBlock ∨ v'.ownBlock = some W.heap.size) : Apart v' u := by
  intro g hg hug
  rcases hv with e1 | e1
  · exact h g (by rw [← e1]; exact hg) hug
  · rw [e1] at hg; cases hg
    have := own_block_lt hu hug; omega

set_option maxRecDepth 100000 in
set_option maxHeartbeats 2000000 in
theorem rshare_c {coins : Int} {ws : List Int} {A : Option Addr} {n c : Nat} {w : World} (h : Rd enc1 1 w A n ws) (hn : n ≤ 30) (hc : 0 ≤ coins ∧ coins ≤ 100000000) (hws : ∀ x ∈ ws, 0 ≤ x ∧ x ≤ 1000000000) (hpos : 0 < sumL ws) :
    Calls Try.prog 30 #[.int .i64 coins, .slice A n c] w fun e w' => ∃ A' c', e = .returned (.slice A' n c') ∧ Rd enc1 1 w' A' n (shareL coins ws) ∧ Below w.heap.size w w' := by
  obtain ⟨i0, hi0, hz0, hz1, hz2⟩ := info_parts infoZ
  have HL := Lib.hid h.len
  have HI := Lib.hid hi0; have HZ0 := Lib.hid hz0; have HZ1 := Lib.hid hz1; have HZ2 := Lib.hid hz2
  have hsum := sumL_bd (M := 1000000000) (by omega) hws
  have hsok := SumOk.of (M := 1000000000) (by omega) hws (by rw [h.len]; omega)
  rw [h.len] at hsum
  have HSUM := Lib.hid (rsum_c (c := c) h (by omega) hsok)
  have HWS := Lib.hid hws
  clear hi0 hz0 hz1 hz2 hws hsok
  obtain ⟨S, hS⟩ : ∃ S, S = sumL ws := ⟨_, rfl⟩
  have HQ := Lib.hid (show quos coins ws = ws.map (fun w => coins * w / S) by rw [hS]; rfl)
  have HR := Lib.hid (show rems coins ws = ws.map (fun w => coins * w % S) by rw [hS]; rfl)
  have HLB := Lib.hid (left_bd (c := coins) hpos)
  rw [← hS] at hsum hpos HSUM
  clear hS
  have hS0 : (S == 0) = false := by rw [beq_eq_false_iff_ne]; omega
  have HV := Lib.hid h
  clear h
  go_enter Try.func30, Try.ntmps30
  go_wp2_with (go_at_call 27; refine HSUM.out.mono ?_; rintro e w' ⟨rfl, rfl⟩)
  go_loopw [6, 7, 8] (fun o p i wr => ∃ k : Nat, k ≤ n ∧ i = .int .i64 k ∧ wr.ownsRow w.heap.size 3 1 o k (((quos coins ws).take k).flatMap enc1) ∧ wr.ownsRow w.heap.size 3 1 p k (((rems coins ws).take k).flatMap enc1) ∧ Apart o p ∧ Below w.heap.size w wr) (fun _ _ i _ => n - (intOf i).toNat)
  case atStart => exact ⟨0, Nat.zero_le _, rfl, World.ownsRow_nil _ _ _ _, World.ownsRow_nil _ _ _ _, (fun g hg => by simp [Value.ownBlock] at hg), Below.refl _ _⟩
  case round =>
    obtain ⟨k, hk, rfl, hown, hown2, hap, hb⟩ := hrel
    have HO := Lib.hid hown; have HP := Lib.hid hown2; have HAP := Lib.hid hap
    clear hown hown2 hap
    by_cases hlt : k < n
    · obtain ⟨b, o, x, hA, hbw, hx, h00⟩ := HV.out.at1 hlt
      subst hA
      have h0 := (hb.cell (p := ⟨b, o + k, none⟩) hbw).trans h00
      have hx1 := HWS.out x (List.mem_of_getElem? hx)
      have hmul : 0 ≤ coins * x ∧ coins * x ≤ 100000000000000000 := by
        constructor
        · exact Int.mul_nonneg hc.1 hx1.1
        · calc coins * x ≤ 100000000 * x := Int.mul_le_mul_of_nonneg_right hc.2 hx1.1
            _ ≤ 100000000 * 1000000000 := Int.mul_le_mul_of_nonneg_left hx1.2 (by omega)
      have hq : (quos coins ws)[k]? = some (coins * x / S) := by rw [HQ.out, List.getElem?_map, hx]; rfl
      have hr : (rems coins ws)[k]? = some (coins * x % S) := by rw [HR.out, List.getElem?_map, hx]; rfl
      have HQK := Lib.hid hq; have HRK := Lib.hid hr; have HB := Lib.hid hb
      have hw1 : IntKind.i64.wrap (coins * x) = coins * x := wi (by omega)
      have hkn : (k : Int) < (n : Int) := by omega
      have hk0 : (0 : Int) ≤ (k : Int) := by omega
      have hsz := hb.size
      clear hx hq hr hb
      go_wp2_with (first
        | (at_builtin; refine wpList_append_own_at _ rfl _ _ 39 rfl w.heap.size 3 i0 _ 1 8 Try.underlying39 HI.out HZ0.out HZ1.out HZ2.out rfl (by decide) _ _ _ rfl (HO.out.alloc _) ⟨wr.heap.size, 0, none⟩ 1 1 [.int .i64 (coins * x / S)] rfl rfl (fun j u hj => World.news_of_block (cs := #[.int .i64 (coins * x / S)]) (t := 3) (fr := (0, 0)) (heap_alloc_new wr _) j u hj) (by simp [Value.oneCell']) (by unfold maxLen; omega) (by omega) (by simp; omega) ?_; intro v' w1 hown' hgrow _ hbk; have HO1 := Lib.hid hown'; have HP1 := Lib.hid (own_kept (HP.out.alloc (.cells #[.int .i64 (coins * x / S)] 3)) hgrow (fun g hg e => HAP.out.symm g hg e)); have HAP1 := Lib.hid (HAP.out.step (HP.out.alloc (.cells #[.int .i64 (coins * x / S)] 3)) hbk); have HB1 := Lib.hid ((HB.out.alloc hsz _).grown hgrow (by simp; omega) (fun g hg => (HO.out.lt g hg).1)); have hsz1 := HB1.out.size; have h01 := (HB1.out.cell (p := ⟨b, o + k, none⟩) hbw).trans h00; clear hown' hgrow hbk)
        | (at_builtin; refine wpList_append_own_at _ rfl _ _ 39 rfl w.heap.size 3 i0 _ 1 8 Try.underlying39 HI.out HZ0.out HZ1.out HZ2.out rfl (by decide) _ _ _ rfl (HP1.out.alloc _) ⟨w1.heap.size, 0, none⟩ 1 1 [.int .i64 (coins * x % S)] rfl rfl (fun j u hj => World.news_of_block (cs := #[.int .i64 (coins * x % S)]) (t := 3) (fr := (0, 0)) (heap_alloc_new w1 _) j u hj) (by simp [Value.oneCell']) (by unfold maxLen; omega) (by omega) (by simp; omega) ?_; intro v2 w2 hown' hgrow _ hbk; have HP2 := Lib.hid hown'; have HO2 := Lib.hid (own_kept (HO1.out.alloc (.cells #[.int .i64 (coins * x % S)] 3)) hgrow (fun g hg e => HAP1.out g hg e)); have HAP2 := Lib.hid (HAP1.out.symm.step (HO1.out.alloc (.cells #[.int .i64 (coins * x % S)] 3)) hbk).symm; have HB2 := Lib.hid ((HB1.out.alloc hsz1 _).grown hgrow (by simp; omega) (fun g hg => (HP1.out.lt g hg).1)); clear hown' hgrow hbk))
      have HO3 : Hid (w2.ownsRow w.heap.size 3 1 v' (k + 1) (((quos coins ws).take (k + 1)).flatMap enc1)) := by
        show World.ownsRow _ _ _ _ _ _ _
        rw [List.take_add_one, HQK.out, List.flatMap_append]; exact HO2.out
      have HP3 : Hid (w2.ownsRow w.heap.size 3 1 v2 (k + 1) (((rems coins ws).take (k + 1)).flatMap enc1)) := by
        show World.ownsRow _ _ _ _ _ _ _
        rw [List.take_add_one, HRK.out, List.flatMap_append]; exact HP2.out
      clear h00 h0 h01
      go_roundw
      case rel => exact ⟨k + 1, by omega, by go_num, HO3.out, HP3.out, HAP2.out, HB2.out⟩
      case measure => simp [intOf] <;> omega
    · obtain rfl : k = n := by omega
      rw [List.take_of_length_le (by rw [quos_len, HL.out]; exact Nat.le_refl _)] at HO
      rw [List.take_of_length_le (by rw [rems_len, HL.out]; exact Nat.le_refl _)] at HP
      have hk0 : 0 < k := by omega
      have hqb : ∀ y ∈ quos coins ws, 0 ≤ y ∧ y ≤ 100000000000000000 := fun y hy => by
        rw [HQ.out] at hy
        obtain ⟨x, hx, rfl⟩ := List.mem_map.1 hy
        have hx1 := HWS.out x hx
        have h1 : 0 ≤ coins * x := Int.mul_nonneg hc.1 hx1.1
        have h2 : coins * x ≤ 100000000000000000 := by
          calc coins * x ≤ 100000000 * x := Int.mul_le_mul_of_nonneg_right hc.2 hx1.1
            _ ≤ 100000000 * 1000000000 := Int.mul_le_mul_of_nonneg_left hx1.2 (by omega)
        exact ⟨Int.ediv_nonneg h1 (by omega), Int.le_trans (Int.ediv_le_self S h1) h2⟩
      have hrb : ∀ r ∈ rems coins ws, 0 ≤ r := fun y hy => by
        rw [HR.out] at hy
        obtain ⟨x, hx, rfl⟩ := List.mem_map.1 hy
        exact Int.emod_nonneg _ (by omega)
      have hqok := SumOk.of (M := 100000000000000000) (by omega) hqb (by rw [quos_len, HL.out]; omega)
      obtain ⟨g6, c6, rfl, hc6⟩ := own_pos HO.out hk0
      obtain ⟨g7, c7, rfl, hc7⟩ := own_pos HP.out hk0
      have hg67 : g6 ≠ g7 := fun e => HAP.out g6 rfl (by rw [e]; rfl)
      have HB := Lib.hid hb; have HQB := Lib.hid hqb; have HRB := Lib.hid hrb
      obtain ⟨T, hT⟩ : ∃ T : Nat, coins - sumL (quos coins ws) = (T : Int) := ⟨(coins - sumL (quos coins ws)).toNat, by have := HLB.out.1; omega⟩
      have hTk : T ≤ k := by have := HLB.out.2; have := HL.out; omega
      have HTT := Lib.hid hT
      have hw2 : IntKind.i64.wrap (coins - sumL (quos coins ws)) = (T : Int) := by rw [hT]; exact wi (by omega)
      have HSM := Lib.hid (rsum_c (c := c6) (Rd.of_own enc1_len HO.out (by rw [quos_len, HL.out])) (by omega) hqok)
      have HB3 := HB
      clear hqb hrb hqok hb hT hk HSUM
      go_wp2_with (go_at_call 27; refine HSM.out.mono ?_; rintro e w' ⟨rfl, rfl⟩)
      go_loopw [9] (fun i wr => ∃ t : Nat, t ≤ T ∧ i = .int .i64 ((T - t : Nat) : Int) ∧ wr.ownsRow w.heap.size 3 1 (.slice (some ⟨g6, 0, none⟩) k c6) k ((outsAt coins ws t).flatMap enc1) ∧ wr.ownsRow w.heap.size 3 1 (.slice (some ⟨g7, 0, none⟩) k c7) k ((restAt coins ws t).flatMap enc1) ∧ Below w.heap.size w wr) (fun i _ => (intOf i).toNat)
      case atStart => exact ⟨0, Nat.zero_le _, by simp, by rw [outsAt_zero]; exact HO.out, by rw [restAt_zero]; exact HP.out, HB.out⟩
      case round =>
        obtain ⟨t, ht, rfl, hown, hown2, hb⟩ := hrel
        have HO4 := Lib.hid hown; have HP4 := Lib.hid hown2; have HB4 := Lib.hid hb
        clear hown hown2 hb
        by_cases htT : t < T
        · obtain ⟨m, hm⟩ : ∃ m : Nat, m = T - t := ⟨_, rfl⟩
          rw [← hm]
          have hgt : (0 : Int) < (m : Int) := by omega
          have hgd : decide ((0 : Int) < (m : Int)) = true := decide_eq_true hgt
          have hgd2 : decide (0 < m) = true := decide_eq_true (by omega)
          have HBR := Lib.hid (best_rank (c := coins) (ws := ws) HRB.out (t := t) (by rw [HL.out]; omega))
          have HM := Lib.hid hm
          clear hm
          go_wp2_with fail
          go_loopw [10, 11] (fun b j wr2 => ∃ q : Nat, 1 ≤ q ∧ q ≤ k ∧ j = .int .i64 q ∧ b = .int .i64 (bestTo (restAt coins ws t) q) ∧ Below wr.heap.size wr wr2) (fun _ j _ => k - (intOf j).toNat)
          case atStart => exact ⟨1, Nat.le_refl _, by omega, rfl, by rw [bestTo_one]; rfl, Below.refl _ _⟩
          case round =>
            obtain ⟨q, hq1, hqk, rfl, rfl, hb2⟩ := hrel
            have HRD := Lib.hid (Rd.of_own enc1_len (own_mono HP4.out hb2) (by rw [restAt_len, HL.out]))
            have HB2 := Lib.hid hb2; have HB2d := Lib.hid hb2.drew; clear hb2
            by_cases hqlt : q < k
            · have hble := bestTo_le (restAt coins ws t) q
              have HNX := Lib.hid (show bestTo (restAt coins ws t) (q + 1) = if gAt (restAt coins ws t) (bestTo (restAt coins ws t) q) < gAt (restAt coins ws t) q then q else bestTo (restAt coins ws t) q from rfl)
              generalize bestTo (restAt coins ws t) q = b at hble HNX ⊢
              obtain ⟨b1, o1, x1, hA1, _, hx1, m1⟩ := HRD.out.at1 (i := q) hqlt
              cases hA1
              have hbs : b < k := Nat.lt_of_le_of_lt hble hqlt
              obtain ⟨b2, o2, x2, hA2, _, hx2, m2⟩ := HRD.out.at1 (i := b) hbs
              cases hA2
              rw [gAt_of hx1, gAt_of hx2] at HNX
              rw [Nat.zero_add] at m1 m2
              have f1 : (0 : Int) ≤ (q : Int) := by omega
              have f2 : (q : Int) < (k : Int) := by omega
              have f3 : (0 : Int) ≤ (b : Int) := by omega
              have f4 : (b : Int) < (k : Int) := by omega
              clear hx1 hx2 hble
              by_cases hgt2 : x2 < x1
              · rw [if_pos hgt2] at HNX
                go_wp2_with fail
                go_region
                all_goals
                  go_wp2_with fail
                  go_roundw
                  case rel => exact ⟨q + 1, by omega, by omega, by go_num, by rw [HNX.out], HB2d.out⟩
                  case measure => simp [intOf] <;> omega
              · rw [if_neg hgt2] at HNX
                go_wp2_with fail
                go_region
                all_goals
                  go_wp2_with fail
                  go_roundw
                  case rel => exact ⟨q + 1, by omega, by omega, by go_num, by rw [HNX.out], HB2d.out⟩
                  case measure => simp [intOf] <;> omega
            · obtain rfl : q = k := by omega
              have hbr := HBR.out
              rw [HL.out] at hbr
              generalize bestTo (restAt coins ws t) q = b at hbr ⊢
              obtain ⟨hget, hset, hset2⟩ := outsAt_best (c := coins) (ws := ws) (t := t) (b := b) (by rw [HL.out]; exact hbr.1) hbr.2
              have hownA := own_mono HO4.out HB2.out
              have hownB := own_mono HP4.out HB2.out
              have HB5 := Lib.hid (below_tr HB4.out HB2.out)
              obtain ⟨b6, o6, y, hA6, _, hy, m3⟩ := (Rd.of_own enc1_len hownA (by rw [outsAt_len, HL.out])).at1 (i := b) hbr.1
              cases hA6
              rw [hget] at hy
              cases hy
              rw [Nat.zero_add] at m3
              have hgb : 0 ≤ gAt (quos coins ws) b ∧ gAt (quos coins ws) b ≤ 100000000000000000 := by
                have hiq : b < (quos coins ws).length := by rw [quos_len, HL.out]; exact hbr.1
                rw [gAt_of (List.getElem?_eq_getElem hiq)]
                exact HQB.out _ (List.getElem_mem hiq)
              generalize gAt (quos coins ws) b = z at hset m3 hgb
              have hw3 : IntKind.i64.wrap (z + 1) = z + 1 := wi (by omega)
              have hfz := hownA.frozenAt b
              have hsto := hownA.stored b (.int .i64 (z + 1))
              rw [flat_set1, ← hset] at hsto
              have hownB5 := own_kept hownB hsto.2 (fun g hg e => HAP.out.symm g hg e)
              have hb5 := HB5.out.grown hsto.2 HB5.out.size (fun g hg => (hownA.lt g hg).1)
              have hownA5 := hsto.1
              have hfz5 := hownB5.frozenAt b
              have hfz6 := hownB.frozenAt b
              obtain ⟨b7, o7, y7, hA7, _, _, m5⟩ := (Rd.of_own enc1_len hownB (by rw [restAt_len, HL.out])).at1 (i := b) hbr.1
              cases hA7
              rw [Nat.zero_add] at m5
              have hst2 := hownB5.stored b (.int .i64 (-1))
              rw [flat_set1, ← hset2] at hst2
              have hownA6 := own_kept hownA5 hst2.2 (fun g hg e => HAP.out g hg e)
              have hb6 := hb5.grown hst2.2 hb5.size (fun g hg => (hownB5.lt g hg).1)
              have HO6 := Lib.hid hownA6; have HP6 := Lib.hid hst2.1; have HB6 := Lib.hid hb6
              have hi0 : (0 : Int) ≤ (b : Int) := by omega
              have hik : (b : Int) < (q : Int) := by omega
              clear hsto hb5 hset hset2 hget hownA hownB hownA5 hownB5 hst2 hownA6 hb6 hbr
              have hw4 : IntKind.i64.wrap ((m : Int) - 1) = (m : Int) - 1 := wi (by have := HM.out; omega)
              go_wp2_with fail
              go_roundw
              case rel => exact ⟨t + 1, by omega, (by have := HM.out; congr 1; omega), HO6.out, HP6.out, HB6.out⟩
              case measure => have := HM.out; simp [intOf] <;> omega
        · obtain rfl : t = T := by omega
          rw [Nat.sub_self]
          have HRD := Lib.hid (Rd.of_own enc1_len HO4.out (by rw [outsAt_len, HL.out]))
          clear hc6 hc7
          go_wp2_with fail
          go_ret
          refine ⟨_, _, rfl, ?_, HB4.out⟩
          have := HRD.out
          unfold shareL
          rw [HTT.out]
          simpa using this
end Go.Proofs.Ytphdndiikikecaa
