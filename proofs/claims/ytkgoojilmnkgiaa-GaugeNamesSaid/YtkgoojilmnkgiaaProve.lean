/- CONTRACT of ProveThin. -/
import Derived.Test.YtkgoojilmnkgiaaSorted
import Derived.Test.YtkgoojilmnkgiaaNear
import Derived.Test.YtkgoojilmnkgiaaThinLaw
namespace Go.Proofs.Ytkgoojilmnkgiaa
open Go.RowKit Go.Proofs

/-- a hop between two kept points -/
def Hop (l : List (Int × Int)) (s : Int) (x y : Int) : Prop := x < y ∧ y < (l.length : Int) ∧ nearB l x.toNat y.toNat s = true
/-- what ProveThin proves -/
def Proved (l : List (Int × Int)) (s : Int) (kept : List Int) : Prop :=
  askedE l s = 0 ∧ ((l = [] ∧ kept = []) ∨ (l ≠ [] ∧ kept[0]? = some 0 ∧ kept[kept.length - 1]? = some ((l.length : Int) - 1) ∧ ∀ (i : Nat) (x y : Int), kept[i]? = some x → kept[i + 1]? = some y → Hop l s x y))

def PP (l : List (Int × Int)) (s : Int) (kept : List Int) (e : Ending) : Prop := ∃ v : Bool, e = .returned (.bool v) ∧ (v = true ↔ Proved l s kept)
theorem pp {l : List (Int × Int)} {s : Int} {kept : List Int} {e : Ending} (v : Bool) (he : e = .returned (.bool v)) (h : v = true ↔ Proved l s kept) : PP l s kept e := ⟨v, he, h⟩

set_option maxRecDepth 100000 in
set_option maxHeartbeats 1000000 in
theorem ProveThin_c {l : List (Int × Int)} {kept : List Int} {A A' : Option Addr} {n c m c' : Nat} {s : Int} {w : World} (h : Rd enc2 2 w A n l) (hc : n ≤ c) (h' : Rd enc1 1 w A' m kept) (hc' : m ≤ c') (hm : m ≤ 1000000) :
    Calls Try.prog 38 #[.slice A n c, .int .i64 s, .slice A' m c'] w fun e w' => PP l s kept e ∧ Below w.heap.size w w' := by
  have ha := asked_c (c := c) (s := s) h
  have HL := Lib.hid h.len; have HM := Lib.hid h'.len
  by_cases he : askedE l s = 0
  · rw [he] at ha
    have HA := Lib.hid ha; have HE := Lib.hid he
    obtain ⟨hser, hins⟩ := askedE_zero.1 he
    rw [inB_iff] at hins
    have HS := Lib.hid hser
    have hn60 : n ≤ 60 := by rw [← h.len]; exact hser.len
    clear ha he hser
    by_cases hn0 : n = 0
    · subst hn0
      have hl0 : l = [] := List.eq_nil_of_length_eq_zero HL.out
      have hP : (decide (m = 0) = true ↔ Proved l s kept) := by
        rw [decide_eq_true_iff]
        constructor
        · intro h0; exact ⟨HE.out, .inl ⟨hl0, List.eq_nil_of_length_eq_zero (by rw [HM.out, h0])⟩⟩
        · rintro ⟨_, ⟨_, hk⟩ | ⟨hne, _⟩⟩
          · rw [← HM.out, hk]; rfl
          · exact absurd hl0 hne
      have HP := Lib.hid hP
      clear hP
      by_cases hm0 : m = 0
      · subst hm0
        go_enter Try.func38, Try.ntmps38
        go_wp2_with fail
        refine HA.out.mono ?_
        rintro e w1 ⟨rfl, hb1⟩
        go_wp2_with fail
        go_ret
        exact ⟨pp true rfl (HP.out), hb1⟩
      · have hm1 : ((0 : Int) == (m : Int)) = false := by rw [beq_eq_false_iff_ne]; omega
        have hm2 : ¬ (0 : Int) = (m : Int) := by omega
        go_enter Try.func38, Try.ntmps38
        go_wp2_with fail
        refine HA.out.mono ?_
        rintro e w1 ⟨rfl, hb1⟩
        go_wp2_with fail
        go_ret
        exact ⟨pp false rfl (by have := HP.out; rwa [decide_eq_false hm0] at this), hb1⟩
    · have hn1 : ((n : Int) == 0) = false := by rw [beq_eq_false_iff_ne]; omega
      have hlne : l ≠ [] := fun e => hn0 (by rw [← HL.out, e]; rfl)
      have HNE := Lib.hid hlne
      clear hlne
      by_cases hm0 : m = 0
      · subst hm0
        have hk : kept = [] := List.eq_nil_of_length_eq_zero HM.out
        have hP : (false = true ↔ Proved l s kept) := by
          constructor
          · intro h0; cases h0
          · rintro ⟨_, ⟨hl, _⟩ | ⟨_, h0, _⟩⟩
            · exact absurd hl HNE.out
            · rw [hk] at h0; cases h0
        have HP := Lib.hid hP
        clear hk hP
        go_enter Try.func38, Try.ntmps38
        go_wp2_with fail
        refine HA.out.mono ?_
        rintro e w1 ⟨rfl, hb1⟩
        go_wp2_with fail
        go_ret
        exact ⟨pp false rfl (HP.out), hb1⟩
      · have hm1 : ((m : Int) == 0) = false := by rw [beq_eq_false_iff_ne]; omega
        obtain ⟨b, o, x0, hA, hbl, hx0, h0⟩ := h'.at1 (i := 0) (by omega)
        subst hA
        obtain ⟨b', o', x1, hA, _, hx1, h1⟩ := h'.at1 (i := m - 1) (by omega)
        cases hA
        rw [Nat.add_zero] at h0
        have w1 : IntKind.i64.wrap ((m : Int) - 1) = (m : Int) - 1 := wi (by omega)
        have w2 : IntKind.i64.wrap ((n : Int) - 1) = (n : Int) - 1 := wi (by omega)
        have t1 : ((m : Int) - 1).toNat = m - 1 := by omega
        have b1 : (0 : Int) ≤ (m : Int) - 1 := by omega
        have b2 : (m : Int) - 1 < (m : Int) := by omega
        have b3 : (0 : Int) < (m : Int) := by omega
        have HX0 := Lib.hid hx0; have HX1 := Lib.hid hx1
        have H0 := Lib.hid h0; have H1 := Lib.hid h1
        clear hx0 hx1 h0 h1
        by_cases hz : x0 = 0
        · subst hz
          by_cases hz1 : x1 = (n : Int) - 1
          · subst hz1
            obtain ⟨A1, hs, hrd⟩ := cut_from (t := 33) (e := 3) (size := 1) Try.underlying33 (fun _ => by kernel_rfl) (some ⟨b, o, none⟩) w (lo := 1) (show 1 ≤ m by omega) hc'
            have hr1 := hrd enc1 kept h'
            clear hrd
            have hs' : ∀ W, (Instr.slice 33 (.slice (some ⟨b, o, none⟩) m c') (some (.int .i64 1)) none none).run Try.prog W = .ok (.slice A1 (m - 1) (c' - 1)) W := hs
            clear hs
            go_enter Try.func38, Try.ntmps38
            go_wp2_with fail
            refine HA.out.mono ?_
            rintro e w3 ⟨rfl, hb3⟩
            have c0 := (hb3.cell (p := ⟨b, o, none⟩) hbl).trans H0.out
            have c1 := (hb3.cell (p := ⟨b, o + (m - 1), none⟩) hbl).trans H1.out
            go_wp2_with fail
            clear hs' c0 c1
            have HB3 := Lib.hid hb3
            clear hb3
            go_loopw [46] (fun i wr => ∃ k : Nat, k + 1 ≤ m ∧ i = .int .i64 k ∧ Below w.heap.size w wr ∧ (∀ (i : Nat) (x y : Int), i < k → kept[i]? = some x → kept[i + 1]? = some y → Hop l s x y) ∧ (∀ x, kept[k]? = some x → 0 ≤ x)) (fun i _ => m - (intOf i).toNat)
            case atStart => exact ⟨0, by omega, rfl, HB3.out, fun i x y hi => absurd hi (by omega), fun x hx => by rw [HX0.out] at hx; cases hx; exact Int.le_refl _⟩
            case round =>
              obtain ⟨k, hk, rfl, hb, hall, hpos⟩ := hrel
              by_cases hlt : k + 1 < m
              · obtain ⟨b', o', x, hA, _, hx, hcx⟩ := (h'.below hb).at1 (i := k) (by omega)
                cases hA
                obtain ⟨b2', o2', y, hA, _, hy, hcy⟩ := (hr1.below hb).at1 (i := k) (by omega)
                subst hA
                rw [List.getElem?_drop, Nat.add_comm] at hy
                obtain ⟨X, rfl⟩ : ∃ X : Nat, x = (X : Int) := ⟨x.toNat, by have := hpos x hx; omega⟩
                have hnx := h.below hb
                have HX := Lib.hid hx; have HY := Lib.hid hy; have HB := Lib.hid hb; have HAL := Lib.hid hall; have HNX := Lib.hid hnx
                clear hx hy hb hall hpos hnx
                have k1 : (k : Int) < (m : Int) := by omega
                have k0 : (0 : Int) ≤ (k : Int) := by omega
                have k2 : (k : Int) < ((m - 1 : Nat) : Int) := by omega
                have hno : ¬ Hop l s (X : Int) y → (false = true ↔ Proved l s kept) := fun hh => by
                  constructor
                  · intro h0; cases h0
                  · rintro ⟨_, ⟨hl, _⟩ | ⟨_, _, _, h0⟩⟩
                    · exact absurd hl HNE.out
                    · exact absurd (h0 k _ _ HX.out HY.out) hh
                have HNO := Lib.hid hno
                clear hno
                by_cases hle : y ≤ (X : Int)
                · have HH : Hid (¬ Hop l s (X : Int) y) := fun hh => by have := hh.1; omega
                  go_wp2
                  go_ret
                  exact ⟨pp false rfl (HNO.out HH.out), HB.out⟩
                · by_cases hge : (n : Int) ≤ y
                  · have HH : Hid (¬ Hop l s (X : Int) y) := fun hh => by have := hh.2.1; have := HL.out; omega
                    go_wp2
                    go_ret
                    exact ⟨pp false rfl (HNO.out HH.out), HB.out⟩
                  · obtain ⟨Y, rfl⟩ : ∃ Y : Nat, y = (Y : Int) := ⟨y.toNat, by omega⟩
                    have hnc := near_c (c := c) HNX.out hc HS.out (show X < Y by omega) (show Y < n by omega) hins
                    cases hnb : nearB l X Y s
                    · rw [hnb] at hnc
                      have HNC := Lib.hid hnc
                      have HH : Hid (¬ Hop l s (X : Int) (Y : Int)) := fun hh => by have := hh.2.2; rw [Int.toNat_natCast, Int.toNat_natCast, hnb] at this; cases this
                      clear hnc hnb
                      go_wp2_with fail
                      refine HNC.out.mono ?_
                      rintro e w4 ⟨rfl, hb4⟩
                      go_wp2
                      go_ret
                      exact ⟨pp false rfl (HNO.out HH.out), below_tr HB.out hb4⟩
                    · rw [hnb] at hnc
                      have HNC := Lib.hid hnc
                      have HH : Hid (Hop l s (X : Int) (Y : Int)) := ⟨by omega, by have := HL.out; omega, by rw [Int.toNat_natCast, Int.toNat_natCast]; exact hnb⟩
                      clear hnc hnb
                      go_wp2_with fail
                      refine HNC.out.mono ?_
                      rintro e w4 ⟨rfl, hb4⟩
                      go_wp2
                      go_roundw
                      case rel =>
                        refine ⟨k + 1, by omega, by go_num, below_tr HB.out hb4, fun i x y hi hx hy => ?_, fun x hx => ?_⟩
                        · rcases Nat.lt_or_ge i k with h' | h'
                          · exact HAL.out i x y h' hx hy
                          · obtain rfl : i = k := by omega
                            rw [HX.out] at hx; rw [HY.out] at hy; cases hx; cases hy; exact HH.out
                        · rw [HY.out] at hx; cases hx; omega
                      case measure => simp [intOf] <;> omega
              · obtain rfl : m = k + 1 := by omega
                have hP : Proved l s kept := ⟨HE.out, .inr ⟨HNE.out, HX0.out, by rw [HM.out, HX1.out, HL.out], fun i x y hx hy => hall i x y (by have := (List.getElem?_eq_some_iff.1 hy).1; have := HM.out; omega) hx hy⟩⟩
                have hso := sorted_c (c := c') (h'.below hb) (by omega) (fun i x y hx hy => by
                  rcases hP.2 with ⟨_, hk⟩ | ⟨_, _, _, h4⟩
                  · rw [hk] at hx; cases hx
                  · exact (h4 i x y hx hy).1)
                have HP := Lib.hid hP; have HSO := Lib.hid hso; have HB := Lib.hid hb
                clear hP hso hall hpos hb
                go_wp2_with fail
                refine HSO.out.mono ?_
                rintro e w4 ⟨rfl, hb4⟩
                go_wp2
                go_ret
                exact ⟨pp true rfl (⟨fun _ => HP.out, fun _ => rfl⟩), below_tr HB.out hb4⟩
          · have hne : (x1 == (n : Int) - 1) = false := by rw [beq_eq_false_iff_ne]; exact hz1
            have hP : (false = true ↔ Proved l s kept) := by
              constructor
              · intro h0; cases h0
              · rintro ⟨_, ⟨hl, _⟩ | ⟨_, _, h0, _⟩⟩
                · exact absurd hl HNE.out
                · rw [HM.out, HX1.out, HL.out] at h0
                  exact absurd (Option.some.inj h0) hz1
            have HP := Lib.hid hP
            have HZ := Lib.hid hz1
            clear hP
            go_enter Try.func38, Try.ntmps38
            go_wp2_with fail
            refine HA.out.mono ?_
            rintro e w3 ⟨rfl, hb3⟩
            have c0 := (hb3.cell (p := ⟨b, o, none⟩) hbl).trans H0.out
            have c1 := (hb3.cell (p := ⟨b, o + (m - 1), none⟩) hbl).trans H1.out
            go_wp2_with fail
            go_ret
            exact ⟨pp false rfl (HP.out), hb3⟩
        · have hne : (x0 == 0) = false := by rw [beq_eq_false_iff_ne]; exact hz
          have hP : (false = true ↔ Proved l s kept) := by
            constructor
            · intro h0; cases h0
            · rintro ⟨_, ⟨hl, _⟩ | ⟨_, h0, _⟩⟩
              · exact absurd hl HNE.out
              · rw [HX0.out] at h0
                exact absurd (Option.some.inj h0) hz
          have HP := Lib.hid hP
          clear hP
          go_enter Try.func38, Try.ntmps38
          go_wp2_with fail
          refine HA.out.mono ?_
          rintro e w3 ⟨rfl, hb3⟩
          have c0 := (hb3.cell (p := ⟨b, o, none⟩) hbl).trans H0.out
          go_wp2_with fail
          go_ret
          exact ⟨pp false rfl (HP.out), hb3⟩
  · have hb0 : (askedE l s == 0) = false := by simpa using he
    have HP : Hid (¬ Proved l s kept) := fun hp => he hp.1
    generalize askedE l s = q at *
    have HA := Lib.hid ha; clear ha
    have HE := Lib.hid he; clear he
    go_enter Try.func38, Try.ntmps38
    go_wp2_with fail
    refine HA.out.mono ?_
    rintro e w1 ⟨rfl, hb1⟩
    go_wp2_with fail
    go_ret
    exact ⟨pp false rfl (by simpa using HP.out), hb1⟩
end Go.Proofs.Ytkgoojilmnkgiaa
