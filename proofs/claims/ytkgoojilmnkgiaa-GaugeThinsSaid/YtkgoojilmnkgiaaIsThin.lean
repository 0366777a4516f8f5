/- CONTRACT of the reference's IsThin. -/
import Derived.Test.YtkgoojilmnkgiaaThinsLaw
import Derived.Test.YtkgoojilmnkgiaaRefNear
namespace Go.Proofs.Ytkgoojilmnkgiaa
open Go.RowKit Go.Proofs

theorem proved_range {l : List (Int × Int)} {s : Int} {x : List Int} (h : Proved l s x) (hl : l ≠ []) {i : Nat} {u : Int} (hu : x[i]? = some u) : 0 ≤ u ∧ u ≤ (l.length : Int) - 1 := by
  rcases h.2 with ⟨h0, _⟩ | ⟨_, h0, hlast, hc⟩
  · exact absurd h0 hl
  · have hp : 0 < l.length := List.length_pos_iff.2 hl
    refine ⟨proved_pos h0 hc i u hu, ?_⟩
    cases i with
    | zero => rw [h0] at hu; cases hu; omega
    | succ i =>
      obtain ⟨v, hv⟩ := get_of_lt (l := x) (i := i) (by have := lt_of_get hu; omega)
      have := (hc i v u hv hu).2.1
      omega

set_option maxRecDepth 100000 in
set_option maxHeartbeats 2000000 in
theorem IsThin_c {l : List (Int × Int)} {kept : List Int} {A A' : Option Addr} {n c m c' : Nat} {s : Int} {w : World} (h : Rd enc2 2 w A n l) (h' : Rd enc1 1 w A' m kept) (hm : m ≤ 1000000) (he : askedE l s = 0) :
    Calls Try.prog 40 #[.slice A n c, .int .i64 s, .slice A' m c'] w fun e w' => PP l s kept e ∧ Below w.heap.size w w' := by
  have HL := Lib.hid h.len; have HM := Lib.hid h'.len
  have HE := Lib.hid he
  obtain ⟨hser, hins⟩ := askedE_zero.1 he
  rw [inB_iff] at hins
  have HS := Lib.hid hser
  have hn60 : n ≤ 60 := by rw [← h.len]; exact hser.len
  clear he hser
  by_cases hn0 : n = 0
  · subst hn0
    have hl0 : l = [] := List.eq_nil_of_length_eq_zero HL.out
    have hP : (decide (m = 0) = true ↔ Proved l s kept) := by
      rw [decide_eq_true_iff]
      constructor
      · intro h0; exact ⟨HE.out, .inl ⟨hl0, List.eq_nil_of_length_eq_zero (by rw [HM.out, h0])⟩⟩
      · rintro ⟨_, ⟨_, hk⟩ | ⟨hne, _⟩⟩
        · rw [← HM.out, hk]; rfl
        · exact absurd hl0 hne
    have HP := Lib.hid hP
    clear hP hl0
    by_cases hm0 : m = 0
    · subst hm0
      go_enter Try.func40, Try.ntmps40
      go_wp2
      go_ret
      exact ⟨pp true rfl (by simpa using HP.out), Below.refl _ _⟩
    · have hm1 : ((0 : Int) == (m : Int)) = false := by rw [beq_eq_false_iff_ne]; omega
      have hm2 : ¬ (0 : Int) = (m : Int) := by omega
      go_enter Try.func40, Try.ntmps40
      go_wp2
      go_ret
      exact ⟨pp false rfl (by have := HP.out; rwa [decide_eq_false hm0] at this), Below.refl _ _⟩
  · have hn1 : ((n : Int) == 0) = false := by rw [beq_eq_false_iff_ne]; omega
    have hlne : l ≠ [] := fun e => hn0 (by rw [← HL.out, e]; rfl)
    have HNE := Lib.hid hlne
    clear hlne
    by_cases hm0 : m = 0
    · subst hm0
      have hk : kept = [] := List.eq_nil_of_length_eq_zero HM.out
      have hP : (false = true ↔ Proved l s kept) := by
        constructor
        · intro h0; cases h0
        · rintro ⟨_, ⟨hl, _⟩ | ⟨_, h0, _⟩⟩
          · exact absurd hl HNE.out
          · rw [hk] at h0; cases h0
      have HP := Lib.hid hP
      clear hk hP
      go_enter Try.func40, Try.ntmps40
      go_wp2
      go_ret
      exact ⟨pp false rfl HP.out, Below.refl _ _⟩
    · have hm1 : ((m : Int) == 0) = false := by rw [beq_eq_false_iff_ne]; omega
      have w1 : IntKind.i64.wrap ((m : Int) - 1) = (m : Int) - 1 := wi (by omega)
      have w2 : IntKind.i64.wrap ((n : Int) - 1) = (n : Int) - 1 := wi (by omega)
      go_enter Try.func40, Try.ntmps40
      go_wp2_with fail
      go_loopw [8] (fun i wr => ∃ k : Nat, k ≤ m ∧ i = .int .i64 k ∧ Below w.heap.size w wr ∧ (∀ (i : Nat) (x y : Int), i + 1 < k → kept[i]? = some x → kept[i + 1]? = some y → Hop l s x y) ∧ (∀ (i : Nat) (x : Int), i < k → kept[i]? = some x → 0 ≤ x ∧ x ≤ (n : Int) - 1)) (fun i _ => m - (intOf i).toNat)
      case atStart => exact ⟨0, Nat.zero_le _, rfl, Below.refl _ _, fun i x y hi => absurd hi (by omega), fun i x hi => absurd hi (by omega)⟩
      case round =>
        obtain ⟨k, hk, rfl, hb, hall, hrng⟩ := hrel
        have HB := Lib.hid hb; have HALL := Lib.hid hall; have HRNG := Lib.hid hrng
        clear hb hall hrng
        by_cases hlt : k < m
        · obtain ⟨b, o, y, hA, hbl, hy, hcy⟩ := (h'.below HB.out).at1 (i := k) hlt
          have HY := Lib.hid hy
          clear hy
          have k1 : (k : Int) < (m : Int) := by omega
          have k0 : (0 : Int) ≤ (k : Int) := by omega
          by_cases hr : 0 ≤ y ∧ y ≤ (n : Int) - 1
          · have hin : inB y 0 ((n : Int) - 1) = true := inB_iff.2 hr
            rcases Nat.eq_zero_or_pos k with hk0 | hk0
            · subst hk0
              subst hA
              rw [Nat.add_zero] at hcy
              go_wp2_with fail
              refine wp_region_ext (by kernel_rfl) (by kernel_rfl) ?_
              repeat (go_big_quiet_step (((go_at_call 29; exact ext_same (In_c _ _ _ _)))))
              refine wpQuiet_nil ?_
              rintro _ ⟨q, rfl⟩
              go_wp2
              go_roundw
              case rel => exact ⟨1, by omega, by go_num, below_tr HB.out q.below, fun i x y hi => absurd hi (by omega), fun i x hi hx => by
                obtain rfl : i = 0 := by omega
                rw [HY.out] at hx; cases hx; exact hr⟩
              case measure => simp [intOf] <;> omega
            · obtain ⟨b', o', x, hA2, _, hx, hcx⟩ := (h'.below HB.out).at1 (i := k - 1) (by omega)
              subst hA
              cases hA2
              have hrx := HRNG.out (k - 1) x (by omega) hx
              have HX := Lib.hid hx
              obtain ⟨X, rfl⟩ : ∃ X : Nat, x = (X : Int) := ⟨x.toNat, by omega⟩
              obtain ⟨Y, rfl⟩ : ∃ Y : Nat, y = (Y : Int) := ⟨y.toNat, by omega⟩
              clear hx
              have wk1 : IntKind.i64.wrap ((k : Int) - 1) = (k : Int) - 1 := wi (by omega)
              have t1 : ((k : Int) - 1).toNat = k - 1 := by omega
              have q0 : (0 : Int) ≤ (k : Int) - 1 := by omega
              have q1 : (k : Int) - 1 < (m : Int) := by omega
              have q2 : (0 : Int) < (k : Int) := by omega
              have q3 : decide ((0 : Int) < (k : Int)) = true := decide_eq_true q2
              have hnp : ¬ Hop l s (X : Int) (Y : Int) → (false = true ↔ Proved l s kept) := fun hh => by
                constructor
                · intro h0; cases h0
                · rintro ⟨_, ⟨hl, _⟩ | ⟨_, _, _, h0⟩⟩
                  · exact absurd hl HNE.out
                  · exact absurd (h0 (k - 1) _ _ HX.out (by rw [show k - 1 + 1 = k by omega]; exact HY.out)) hh
              have HNP := Lib.hid hnp
              clear hnp
              by_cases hle : Y ≤ X
              · have d1 : decide ((Y : Int) ≤ (X : Int)) = true := decide_eq_true (by omega)
                have d2 : decide (Y ≤ X) = true := decide_eq_true hle
                have hle2 : (Y : Int) ≤ (X : Int) := by omega
                have HH : Hid (¬ Hop l s (X : Int) (Y : Int)) := fun hh => by have := hh.1; omega
                go_wp2_with fail
                refine wp_region_ext (by kernel_rfl) (by kernel_rfl) ?_
                repeat (go_big_quiet_step (((go_at_call 29; exact ext_same (In_c _ _ _ _)))))
                refine wpQuiet_nil ?_
                rintro _ ⟨q, rfl⟩
                go_wp2
                go_ret
                exact ⟨pp false rfl (HNP.out HH.out), below_tr HB.out q.below⟩
              · have d1 : decide ((Y : Int) ≤ (X : Int)) = false := decide_eq_false (by omega)
                have d2 : decide (Y ≤ X) = false := decide_eq_false hle
                have hle2 : ¬ (Y : Int) ≤ (X : Int) := by omega
                have hR := h.below HB.out
                have hnc := fun (W : World) (hW : Below wr.heap.size wr W) => Near_c (c := c) (hR.below hW) HS.out (show X < Y by omega) (show Y < n by omega) hins
                cases hnb : nearB l X Y s
                · rw [hnb] at hnc
                  have HNC := Lib.hid hnc
                  have HH : Hid (¬ Hop l s (X : Int) (Y : Int)) := fun hh => by have := hh.2.2; rw [Int.toNat_natCast, Int.toNat_natCast, hnb] at this; cases this
                  clear hnc hnb hR
                  go_wp2_with fail
                  refine wp_region_ext (by kernel_rfl) (by kernel_rfl) ?_
                  repeat (go_big_quiet_step ((first | (go_at_call 29; exact ext_same (In_c _ _ _ _)) | (go_at_call 70; exact ext_call (HNC.out _ (Ext.below _))))))
                  refine wpQuiet_nil ?_
                  rintro _ ⟨q, rfl⟩
                  go_wp2
                  go_ret
                  exact ⟨pp false rfl (HNP.out HH.out), below_tr HB.out q.below⟩
                · rw [hnb] at hnc
                  have HNC := Lib.hid hnc
                  have HH : Hid (Hop l s (X : Int) (Y : Int)) := ⟨by omega, by have := HL.out; omega, by rw [Int.toNat_natCast, Int.toNat_natCast]; exact hnb⟩
                  clear hnc hnb hR
                  go_wp2_with fail
                  refine wp_region_ext (by kernel_rfl) (by kernel_rfl) ?_
                  repeat (go_big_quiet_step ((first | (go_at_call 29; exact ext_same (In_c _ _ _ _)) | (go_at_call 70; exact ext_call (HNC.out _ (Ext.below _))))))
                  refine wpQuiet_nil ?_
                  rintro _ ⟨q, rfl⟩
                  go_wp2
                  go_roundw
                  case rel =>
                    refine ⟨k + 1, by omega, by go_num, below_tr HB.out q.below, fun i x y hi hx hy => ?_, fun i x hi hx => ?_⟩
                    · rcases Nat.lt_or_ge (i + 1) k with h'' | h''
                      · exact HALL.out i x y h'' hx hy
                      · obtain rfl : k = i + 1 := by omega
                        rw [Nat.add_sub_cancel] at HX
                        rw [HX.out] at hx; rw [HY.out] at hy; cases hx; cases hy; exact HH.out
                    · rcases Nat.lt_or_ge i k with h'' | h''
                      · exact HRNG.out i x h'' hx
                      · obtain rfl : i = k := by omega
                        rw [HY.out] at hx; cases hx; exact hr
                  case measure => simp [intOf] <;> omega
          · have hP : (false = true ↔ Proved l s kept) := by
              constructor
              · intro h0; cases h0
              · intro hp
                have := proved_range hp HNE.out HY.out
                rw [HL.out] at this
                exact absurd this hr
            have HP := Lib.hid hP
            have hin : inB y 0 ((n : Int) - 1) = false := by rw [inB_not]; omega
            clear hP
            subst hA
            go_wp2_with fail
            refine wp_region_ext (by kernel_rfl) (by kernel_rfl) ?_
            repeat (go_big_quiet_step (((go_at_call 29; exact ext_same (In_c _ _ _ _)))))
            refine wpQuiet_nil ?_
            rintro _ ⟨q, rfl⟩
            go_wp2
            go_ret
            exact ⟨pp false rfl HP.out, below_tr HB.out q.below⟩
        · obtain rfl : m = k := by omega
          obtain ⟨b, o, x0, hA, _, hx0, h0⟩ := (h'.below HB.out).at1 (i := 0) (by omega)
          subst hA
          obtain ⟨b', o', x1, hA, _, hx1, h1⟩ := (h'.below HB.out).at1 (i := m - 1) (by omega)
          cases hA
          rw [Nat.add_zero] at h0
          have t1 : ((m : Int) - 1).toNat = m - 1 := by omega
          have b1 : (0 : Int) ≤ (m : Int) - 1 := by omega
          have b2 : (m : Int) - 1 < (m : Int) := by omega
          have b3 : (0 : Int) < (m : Int) := by omega
          have hP : (x0 = 0 ∧ x1 = (n : Int) - 1) ↔ Proved l s kept := by
            constructor
            · rintro ⟨rfl, rfl⟩
              exact ⟨HE.out, .inr ⟨HNE.out, hx0, by rw [HM.out, hx1, HL.out], fun i x y hx hy => HALL.out i x y (by have := (List.getElem?_eq_some_iff.1 hy).1; have := HM.out; omega) hx hy⟩⟩
            · rintro ⟨_, ⟨hl, _⟩ | ⟨_, e0, e1, _⟩⟩
              · exact absurd hl HNE.out
              · rw [hx0] at e0; rw [HM.out, hx1, HL.out] at e1
                exact ⟨Option.some.inj e0, Option.some.inj e1⟩
          have HP := Lib.hid hP
          clear hP hx0 hx1
          by_cases hz : x0 = 0
          · subst hz
            by_cases hz1 : x1 = (n : Int) - 1
            · subst hz1
              go_wp2
              go_ret
              exact ⟨pp true rfl ⟨fun _ => HP.out.1 (by simp), fun _ => rfl⟩, HB.out⟩
            · have hne : (x1 == (n : Int) - 1) = false := by rw [beq_eq_false_iff_ne]; exact hz1
              have HZ := Lib.hid hz1
              go_wp2
              go_ret
              exact ⟨pp false rfl ⟨fun h => (by cases h), fun hp => absurd (HP.out.2 hp).2 HZ.out⟩, HB.out⟩
          · have hne : (x0 == 0) = false := by rw [beq_eq_false_iff_ne]; exact hz
            have HZ := Lib.hid hz
            go_wp2
            go_ret
            exact ⟨pp false rfl ⟨fun h => (by cases h), fun hp => absurd (HP.out.2 hp).1 HZ.out⟩, HB.out⟩
end Go.Proofs.Ytkgoojilmnkgiaa
