/- CONTRACT of the reference's Cheapest. -/
import Derived.Test.YtpijmfbpdglchaaKSetLaw
import Derived.Test.YtpijmfbpdglchaaKREnough
import Derived.Test.YtpijmfbpdglchaaKRef3
set_option linter.unusedVariables false
set_option linter.unusedSimpArgs false
namespace Go.Proofs.Ytpijmfbpdglchaa
open Go.RowKit Go.Proofs
attribute [local go_sem ↓] Go.wp_at_zero Go.wp_at_succ
def CheR (w : World) (l : Lak) (ws : List Wrk) (e : Ending) (w' : World) : Prop :=
  ((∃ A n c b, e = .returned (.tuple #[.slice A n c, .bool true]) ∧ n ≤ 10 ∧ Rd enc1 1 w' A n b ∧ Best l ws b) ∨ ((∀ c, choB ws.length c = true → enB l ws c = false) ∧ ∃ A n c, e = .returned (.tuple #[.slice A n c, .bool false]))) ∧ Below w.heap.size w w'
section
variable {VA IA WA : Option Addr} {nV cV nI cI nW cW : Nat} {l : Lak} {ws : List Wrk} {w : World}
set_option linter.unusedSimpArgs false in
set_option maxRecDepth 100000 in
set_option maxHeartbeats 4000000 in
theorem rCheapest_c (h : RdL w VA nV IA nI l) (hw : Rd encW 3 w WA nW ws) (hok : LOk l) (hwk : WOk ws) :
    Calls Try.prog 22 #[.agg (lA VA nV cV IA nI cI l), .slice WA nW cW] w (CheR w l ws) := by
  obtain ⟨W, hW⟩ : ∃ W, W = w.alloc (.cells (lA VA nV cV IA nI cI l) 27) := ⟨_, rfl⟩
  have hb : Below w.heap.size w W := by rw [hW]; exact (Below.refl _ _).alloc (Nat.le_refl _) _
  have hX := Blk.new w 27 (lA VA nV cV IA nI cI l)
  rw [← hW] at hX
  have hwl := hw.len; have h10 := hwk.n
  have HXL := Lib.hid (fun (U : World) (hU : Below W.heap.size W U) => blk_lA (hX.below hU hX.lt))
  have HLS := Lib.hid (fun (U : World) (hU : Below w.heap.size w U) (C D : Option Addr) (m d m' d' : Nat) (c e : List Int) (hc : Rd enc1 1 U C m c) (he : Rd enc1 1 U D m' e) (hcho : choB ws.length c = true) (hche : choB ws.length e = true) (hm : m ≤ 10) (hm' : m' ≤ 10) => rLess_c (cp := cW) (d := d) (d' := d') (hw.below hU) hc he hwk hcho hche hm hm')
  have HEN := Lib.hid (fun (U : World) (hU : Below w.heap.size w U) (C : Option Addr) (m d : Nat) (c : List Int) (hc : Rd enc1 1 U C m c) (hcho : choB ws.length c = true) => rEnough_c (cV := cV) (cI := cI) (cW := cW) (cC := d) (h.below hU) (hw.below hU) hc hok hwk hcho)
  have HW := Lib.hid hW; have HB := Lib.hid hb; have HQ := Lib.hid (Below.refl W.heap.size W); have HWL := Lib.hid hwl
  obtain ⟨i0, hi0, hz0, hz1, hz2⟩ := info_parts infoInt
  have HI := Lib.hid hi0; have HZ0 := Lib.hid hz0; have HZ1 := Lib.hid hz1; have HZ2 := Lib.hid hz2
  obtain ⟨N, hN⟩ : ∃ N : Nat, N = 2 ^ nW := ⟨_, rfl⟩
  have hN1 : 1 ≤ N := by rw [hN]; exact Nat.two_pow_pos nW
  have hN2 : N ≤ 1024 := by rw [hN]; exact Nat.pow_le_pow_right (by omega) (show nW ≤ 10 by omega)
  have HWN := Lib.hid (show wrap64 ((2 : Int) ^ nW) = (N : Int) by
    have h1 : ((2 : Int) ^ nW) = (N : Int) := by rw [hN]; simp
    rw [h1]
    unfold wrap64
    omega)
  have HN := Lib.hid hN
  have hw10 : nW ≤ 10 := by omega
  clear h hw hok hwk hW hb hX hwl h10 hi0 hz0 hz1 hz2 hN
  go_enter Try.func22, Try.ntmps22
  go_upto_region 1 with fail
  rw [← HW.out]
  go_wp2_with fail
  go_loopw [6, 7, 8] (fun bv fv sv wr => ∃ (s : Nat) (f : Bool) (A : Option Addr) (n c : Nat) (b : List Int), s ≤ N ∧ sv = .int .i64 s ∧ fv = .bool f ∧ bv = .slice A n c ∧ Rd enc1 1 wr A n b ∧ BestTo l ws s f b ∧ Below W.heap.size W wr) (fun _ _ sv _ => N - (intOf sv).toNat)
  case atStart => exact ⟨0, false, none, 0, 0, [], Nat.zero_le _, rfl, rfl, rfl, Rd.nil _ _ _ _, BestTo.zero _ _, HQ.out⟩
  case round =>
    obtain ⟨s, f, A, n, c, b, hs, rfl, rfl, rfl, hrd, hbt, hbr⟩ := hrel
    have HRD := Lib.hid hrd; have HBT := Lib.hid hbt; have HBR := Lib.hid hbr
    have HNL := Lib.hid (show n ≤ 10 from by have := cho_len hbt.cho; have := hrd.len; have := HWL.out; omega)
    clear hrd hbt hbr
    by_cases hlt : s < N
    · have hltI : (s : Int) < (N : Int) := by omega
      obtain ⟨wo, hwo⟩ : ∃ wo : World, wo = wr := ⟨_, rfl⟩
      rw [← hwo] at HRD HBR ⊢
      clear hwo
      have hwN := HWN.out
      go_wp2_with fail
      clear hwN
      go_loopw [9, 10] (fun o i wr => ∃ k : Nat, k ≤ nW ∧ i = .int .i64 k ∧ wr.ownsRow wo.heap.size 3 1 o (bitsK s k).length ((bitsK s k).flatMap enc1) ∧ Below wo.heap.size wo wr) (fun _ i _ => nW - (intOf i).toNat)
      case atStart => exact ⟨0, Nat.zero_le _, rfl, World.ownsRow_nil _ _ _ _, Below.refl _ _⟩
      case round =>
        obtain ⟨k, hk, rfl, hown, hbl⟩ := hrel
        have HO := Lib.hid hown; have HBL := Lib.hid hbl
        by_cases hlt2 : k < nW
        · have hkn : (k : Int) < (nW : Int) := by omega
          have hk0 : (0 : Int) ≤ (k : Int) := by omega
          have hll := bitsK_len s k
          have hsucc : bitsK s (k + 1) = bitsK s k ++ (if s / 2 ^ k % 2 = 1 then [(k : Int)] else []) := rfl
          have hbit := bitK_at s k
          have hksz := HBL.out.size
          by_cases hb1 : s / 2 ^ k % 2 = 1
          · rw [hb1] at hbit
            rw [if_pos hb1] at hsucc
            have hbt : (((s : Int) / (2 : Int) ^ k).tmod 2 == 1) = true := by rw [hbit]; rfl
            have HSC := Lib.hid hsucc
            clear hsucc hbit hown hbl hb1
            go_wp2_with (at_builtin; go_must (refine wpList_append_own_at _ rfl _ _ 22 rfl wo.heap.size 3 i0 _ 1 8 Try.underlying22 HI.out HZ0.out HZ1.out HZ2.out rfl (by decide) _ _ _ rfl (HO.out.alloc _) ⟨wr.heap.size, 0, none⟩ 1 1 [.int .i64 (k : Int)] rfl rfl (fun j u hj => World.news_of_block (cs := #[.int .i64 (k : Int)]) (t := 3) (fr := (0, 0)) (heap_alloc_new wr _) j u hj) (by simp [Value.oneCell']) (by unfold maxLen; omega) (by omega) (by simp; omega) ?_; intro v' w1 hown' hgrow _ _))
            have H1 : Hid (w1.ownsRow wo.heap.size 3 1 v' (bitsK s (k + 1)).length ((bitsK s (k + 1)).flatMap enc1)) := by
              rw [HSC.out, List.flatMap_append, List.length_append]
              exact hown'
            have H2 := Lib.hid ((HBL.out.alloc HBL.out.size _).grown hgrow (by simp; omega) (fun g hg => (HO.out.lt g hg).1))
            clear hown' hgrow
            go_wp2_with fail
            go_roundw
            case rel => exact ⟨k + 1, by omega, by go_num, H1.out, H2.out⟩
            case measure => simp [intOf] <;> omega
          · have hb0 : s / 2 ^ k % 2 = 0 := by omega
            rw [hb0] at hbit
            rw [if_neg hb1, List.append_nil] at hsucc
            have hbt : (((s : Int) / (2 : Int) ^ k).tmod 2 == 1) = false := by rw [hbit]; rfl
            have HSC := Lib.hid hsucc
            clear hsucc hbit hown hbl hb1 hb0
            go_wp2_with fail
            go_roundw
            case rel => exact ⟨k + 1, by omega, by go_num, by rw [HSC.out]; exact HO.out, HBL.out⟩
            case measure => simp [intOf] <;> omega
        · obtain rfl : k = nW := by omega
          obtain ⟨A2, C2, rfl, hc2⟩ := own_form hown
          have hrl := Rd.of_own enc1_len hown rfl
          have hLl := bitsK_len s k
          obtain ⟨m2, hm2⟩ : ∃ m, m = (bitsK s k).length := ⟨_, rfl⟩
          rw [← hm2] at hrl hLl ⊢
          have HCH := Lib.hid (bitsK_cho s k)
          have HKE := Lib.hid (fun (ff : Bool) (bb : List Int) (H : BestTo l ws s ff bb) => And.intro (fun (h1 : ff = true → ltC ws (bitsK s k) bb = true) (h2 : enB l ws (bitsK s k) = true) => show BestTo l ws (s + 1) true (bitsK s k) from by have := H.take (by rw [HWL.out]; exact h1) (by rw [HWL.out]; exact h2); rwa [HWL.out] at this) (fun (h3 : enB l ws (bitsK s k) = false ∨ (ff = true ∧ ltC ws (bitsK s k) bb = false)) => H.keep (by rw [HWL.out]; exact h3)))
          obtain ⟨L, hL⟩ : ∃ L, L = bitsK s k := ⟨_, rfl⟩
          rw [← hL] at hrl HCH HKE
          have HRL := Lib.hid hrl
          have HB1 := Lib.hid (below_tr HB.out (below_tr HBR.out hbl)); have HQ1 := Lib.hid (below_tr HBR.out hbl)
          have HRB := Lib.hid (HRD.out.below hbl)
          rw [← HWL.out] at HCH
          have hm10 : m2 ≤ 10 := by omega
          clear hown hrl hL hbl hlt2 HO HBL hm2 HRD HBR
          obtain ⟨x0, x1, x2, x3, x4, x5, x6, x7, x8, x9⟩ := HXL.out _ HQ1.out
          cases hen : enB l ws L
          · have HE2 := Lib.hid (fun (U : World) (hU : Below w.heap.size w U) (C : Option Addr) (m d : Nat) (hc : Rd enc1 1 U C m L) => by have := HEN.out U hU C m d L hc HCH.out; rw [hen] at this; exact this)
            have HKP := Lib.hid ((HKE.out f b HBT.out).2 (.inl hen))
            clear hen HKE
            cases f
            · skip
              go_wp2_with fail
              go_at_call 25
              refine (HE2.out _ HB1.out _ _ _ HRL.out).mono ?_
              rintro e w1 ⟨rfl, hb9⟩
              have t0 := below_tr HB1.out hb9; have t1 := below_tr HQ1.out hb9; have t2 := HRL.out.below hb9; have t3 := HRB.out.below hb9
              clear HB1 HQ1 HRL HRB
              have HB1 := Lib.hid t0; have HQ1 := Lib.hid t1; have HRL := Lib.hid t2; have HRB := Lib.hid t3
              clear t0 t1 t2 t3
              clear hb9 
              clear x0 x1 x2 x3 x4 x5 x6 x7 x8 x9
              go_wp2_with fail
              go_roundw
              case rel => exact ⟨s + 1, false, A, n, c, b, by omega, by go_num, rfl, rfl, HRB.out, HKP.out, HQ1.out⟩
              case measure => simp [intOf] <;> omega
            · have HL2 := Lib.hid (fun (U : World) (hU : Below w.heap.size w U) (hc : Rd enc1 1 U A2 m2 L) (he : Rd enc1 1 U A n b) => HLS.out U hU A2 A m2 C2 n c L b hc he HCH.out HBT.out.cho hm10 HNL.out)
              cases hlt3 : ltC ws L b
              · rw [hlt3] at HL2
                clear hlt3
                go_wp2_with fail
                go_at_call 30
                refine (HL2.out _ HB1.out HRL.out HRB.out).mono ?_
                rintro e w1 ⟨rfl, hb9⟩
                have t0 := below_tr HB1.out hb9; have t1 := below_tr HQ1.out hb9; have t2 := HRL.out.below hb9; have t3 := HRB.out.below hb9
                clear HB1 HQ1 HRL HRB
                have HB1 := Lib.hid t0; have HQ1 := Lib.hid t1; have HRL := Lib.hid t2; have HRB := Lib.hid t3
                clear t0 t1 t2 t3
                clear hb9 
                clear x0 x1 x2 x3 x4 x5 x6 x7 x8 x9
                go_wp2_with fail
                go_roundw
                case rel => exact ⟨s + 1, true, A, n, c, b, by omega, by go_num, rfl, rfl, HRB.out, HKP.out, HQ1.out⟩
                case measure => simp [intOf] <;> omega
              · rw [hlt3] at HL2
                clear hlt3
                go_wp2_with fail
                go_at_call 30
                refine (HL2.out _ HB1.out HRL.out HRB.out).mono ?_
                rintro e w1 ⟨rfl, hb9⟩
                have t0 := below_tr HB1.out hb9; have t1 := below_tr HQ1.out hb9; have t2 := HRL.out.below hb9; have t3 := HRB.out.below hb9
                clear HB1 HQ1 HRL HRB
                have HB1 := Lib.hid t0; have HQ1 := Lib.hid t1; have HRL := Lib.hid t2; have HRB := Lib.hid t3
                clear t0 t1 t2 t3
                clear hb9 
                clear x0 x1 x2 x3 x4 x5 x6 x7 x8 x9
                obtain ⟨x0, x1, x2, x3, x4, x5, x6, x7, x8, x9⟩ := HXL.out _ HQ1.out
                go_wp2_with fail
                go_at_call 25
                refine (HE2.out _ HB1.out _ _ _ HRL.out).mono ?_
                rintro e w1 ⟨rfl, hb9⟩
                have t0 := below_tr HB1.out hb9; have t1 := below_tr HQ1.out hb9; have t2 := HRL.out.below hb9; have t3 := HRB.out.below hb9
                clear HB1 HQ1 HRL HRB
                have HB1 := Lib.hid t0; have HQ1 := Lib.hid t1; have HRL := Lib.hid t2; have HRB := Lib.hid t3
                clear t0 t1 t2 t3
                clear hb9 
                clear x0 x1 x2 x3 x4 x5 x6 x7 x8 x9
                go_wp2_with fail
                go_roundw
                case rel => exact ⟨s + 1, true, A, n, c, b, by omega, by go_num, rfl, rfl, HRB.out, HKP.out, HQ1.out⟩
                case measure => simp [intOf] <;> omega
          · have HE2 := Lib.hid (fun (U : World) (hU : Below w.heap.size w U) (C : Option Addr) (m d : Nat) (hc : Rd enc1 1 U C m L) => by have := HEN.out U hU C m d L hc HCH.out; rw [hen] at this; exact this)
            have HEN1 := Lib.hid hen
            clear hen
            cases f
            · have HTK := Lib.hid ((HKE.out false b HBT.out).1 (fun h => by cases h) HEN1.out)
              go_wp2_with fail
              go_at_call 25
              refine (HE2.out _ HB1.out _ _ _ HRL.out).mono ?_
              rintro e w1 ⟨rfl, hb9⟩
              have t0 := below_tr HB1.out hb9; have t1 := below_tr HQ1.out hb9; have t2 := HRL.out.below hb9; have t3 := HRB.out.below hb9
              clear HB1 HQ1 HRL HRB
              have HB1 := Lib.hid t0; have HQ1 := Lib.hid t1; have HRL := Lib.hid t2; have HRB := Lib.hid t3
              clear t0 t1 t2 t3
              clear hb9 
              clear x0 x1 x2 x3 x4 x5 x6 x7 x8 x9
              go_wp2_with fail
              go_roundw
              case rel => exact ⟨s + 1, true, A2, m2, C2, L, by omega, by go_num, rfl, rfl, HRL.out, HTK.out, HQ1.out⟩
              case measure => simp [intOf] <;> omega
            · have HL2 := Lib.hid (fun (U : World) (hU : Below w.heap.size w U) (hc : Rd enc1 1 U A2 m2 L) (he : Rd enc1 1 U A n b) => HLS.out U hU A2 A m2 C2 n c L b hc he HCH.out HBT.out.cho hm10 HNL.out)
              cases hlt3 : ltC ws L b
              · rw [hlt3] at HL2
                have HKP := Lib.hid ((HKE.out true b HBT.out).2 (.inr ⟨rfl, hlt3⟩))
                clear hlt3
                go_wp2_with fail
                go_at_call 30
                refine (HL2.out _ HB1.out HRL.out HRB.out).mono ?_
                rintro e w1 ⟨rfl, hb9⟩
                have t0 := below_tr HB1.out hb9; have t1 := below_tr HQ1.out hb9; have t2 := HRL.out.below hb9; have t3 := HRB.out.below hb9
                clear HB1 HQ1 HRL HRB
                have HB1 := Lib.hid t0; have HQ1 := Lib.hid t1; have HRL := Lib.hid t2; have HRB := Lib.hid t3
                clear t0 t1 t2 t3
                clear hb9 
                clear x0 x1 x2 x3 x4 x5 x6 x7 x8 x9
                go_wp2_with fail
                go_roundw
                case rel => exact ⟨s + 1, true, A, n, c, b, by omega, by go_num, rfl, rfl, HRB.out, HKP.out, HQ1.out⟩
                case measure => simp [intOf] <;> omega
              · rw [hlt3] at HL2
                have HTK := Lib.hid ((HKE.out true b HBT.out).1 (fun _ => hlt3) HEN1.out)
                clear hlt3
                go_wp2_with fail
                go_at_call 30
                refine (HL2.out _ HB1.out HRL.out HRB.out).mono ?_
                rintro e w1 ⟨rfl, hb9⟩
                have t0 := below_tr HB1.out hb9; have t1 := below_tr HQ1.out hb9; have t2 := HRL.out.below hb9; have t3 := HRB.out.below hb9
                clear HB1 HQ1 HRL HRB
                have HB1 := Lib.hid t0; have HQ1 := Lib.hid t1; have HRL := Lib.hid t2; have HRB := Lib.hid t3
                clear t0 t1 t2 t3
                clear hb9 
                clear x0 x1 x2 x3 x4 x5 x6 x7 x8 x9
                obtain ⟨x0, x1, x2, x3, x4, x5, x6, x7, x8, x9⟩ := HXL.out _ HQ1.out
                go_wp2_with fail
                go_at_call 25
                refine (HE2.out _ HB1.out _ _ _ HRL.out).mono ?_
                rintro e w1 ⟨rfl, hb9⟩
                have t0 := below_tr HB1.out hb9; have t1 := below_tr HQ1.out hb9; have t2 := HRL.out.below hb9; have t3 := HRB.out.below hb9
                clear HB1 HQ1 HRL HRB
                have HB1 := Lib.hid t0; have HQ1 := Lib.hid t1; have HRL := Lib.hid t2; have HRB := Lib.hid t3
                clear t0 t1 t2 t3
                clear hb9 
                clear x0 x1 x2 x3 x4 x5 x6 x7 x8 x9
                go_wp2_with fail
                go_roundw
                case rel => exact ⟨s + 1, true, A2, m2, C2, L, by omega, by go_num, rfl, rfl, HRL.out, HTK.out, HQ1.out⟩
                case measure => simp [intOf] <;> omega
    · obtain rfl : s = N := by omega
      have hwN := HWN.out
      have HAL := Lib.hid (show (f = true ∧ Best l ws b) ∨ (f = false ∧ ∀ c, choB ws.length c = true → enB l ws c = false) from by
        have := HBT.out; rw [HN.out, ← HWL.out] at this; exact this.all)
      go_wp2_with fail
      go_ret2
      refine ⟨?_, HB.out.trans (HBR.out.mono HB.out.size)⟩
      rcases HAL.out with ⟨rfl, hbest⟩ | ⟨rfl, hno⟩
      · exact .inl ⟨A, n, c, b, rfl, HNL.out, HRD.out, hbest⟩
      · exact .inr ⟨hno, A, n, c, rfl⟩
end
end Go.Proofs.Ytpijmfbpdglchaa
