/- THE WALK of the law GaugeThins. -/
import Derived.Test.YtkgoojilmnkgiaaIsThin
import Derived.Test.YtkgoojilmnkgiaaRefThin
import Derived.Test.YtkgoojilmnkgiaaRefSeries
import Derived.Test.YtkgoojilmnkgiaaWakes
namespace Go.Proofs.Ytkgoojilmnkgiaa
open Go.RowKit Go.Proofs

theorem pp_out {l : List (Int × Int)} {s : Int} {kept : List Int} {e : Ending} (h : PP l s kept e) : ∃ v : Bool, e = .returned (.bool v) ∧ (v = true ↔ Proved l s kept) := h

set_option maxRecDepth 100000 in
set_option maxHeartbeats 1000000 in
theorem GaugeThins_w {l : List (Int × Int)} {kept : List Int} {A A' : Option Addr} {n c m c' : Nat} {s : Int} {w : World} (h : Rd enc2 2 w A n l) (h' : Rd enc1 1 w A' m kept) :
    Calls Try.prog 10 #[.slice A n c, .int .i64 s, .slice A' m c'] w fun e w' => e = .returned (.bool true) ∧ Below w.heap.size w w' := by
  by_cases hbig : 65 < n ∨ (n ≤ 65 ∧ 70 < m)
  · have hor : (65 < (n : Int)) ∨ (¬ 65 < (n : Int) ∧ 70 < (m : Int)) := by omega
    clear hbig
    rcases hor with e1 | ⟨e1, e2⟩
    all_goals
      go_enter Try.func10, Try.ntmps10
      go_wp2_with fail
      refine (wakes_ok _).mono ?_
      rintro e w2 ⟨rfl, hb2⟩
      go_wp2_with fail
      go_ret
      exact ⟨rfl, hb2⟩
  · have g1 : ¬ 65 < (n : Int) := by omega
    have g2 : ¬ 70 < (m : Int) := by omega
    have hn : n ≤ 65 := by omega
    have hm : m ≤ 70 := by omega
    have HLEN := Lib.hid h.len
    clear hbig
    go_enter Try.func10, Try.ntmps10
    go_wp2_with fail
    refine (Points_c h (by omega)).mono ?_
    rintro e w2 ⟨A2, c2, rfl, hc2, hown, hb⟩
    have HB2 := Lib.hid hb
    have HRT := Lib.hid (Thin_c (s := s) (Rd.of_own enc2_len hown HLEN.out) hc2)
    clear hown hb
    go_wp2_with fail
    refine HRT.out.mono ?_
    rintro e w3 ⟨B3, m3, d3, x, rfl, hd3, hrx, hb, hx1, hx2, hx3⟩
    have HX := Lib.hid hrx; have HX1 := Lib.hid hx1; have HTX : Hid (askedE l s = 0 → Thinned l s x) := fun he => ⟨hx2 he, hx3 he⟩
    have HB3 := Lib.hid (below_tr HB2.out hb)
    clear HB2 hb hrx hx1 hx2 hx3 HRT
    go_wp2_with fail
    refine (Points_c (h.below HB3.out) (by omega)).mono ?_
    rintro e w4 ⟨A4, c4, rfl, hc4, hown, hb⟩
    have HR4 := Lib.hid (Rd.of_own enc2_len hown HLEN.out)
    have HX4 := Lib.hid (HX.out.below hb)
    have HB4 := Lib.hid (below_tr HB3.out hb)
    clear hown hb HX HB3
    go_wp2_with fail
    refine (list_c (h'.below HB4.out) (by omega)).mono ?_
    rintro e w5 ⟨A5, c5, rfl, hc5, hr5, hb⟩
    have HPT := Lib.hid (ProveThin_c (s := s) (HR4.out.below hb) hc4 hr5 hc5 (by omega))
    have HX5 := Lib.hid (HX4.out.below hb)
    have HB5 := Lib.hid (below_tr HB4.out hb)
    clear hr5 hb HX4 HB4 HR4
    go_wp2_with fail
    refine HPT.out.mono ?_
    rintro e w6 ⟨hpp, hb⟩
    obtain ⟨v, rfl, hv⟩ := pp_out hpp
    have HV := Lib.hid hv
    have HX6 := Lib.hid (HX5.out.below hb)
    have HB6 := Lib.hid (below_tr HB5.out hb)
    have HAS := Lib.hid (asked2_c (c := c) (s := s) (h.below HB6.out))
    clear hpp hv hb HX5 HB5 HPT
    go_wp2_with fail
    refine HAS.out.mono ?_
    rintro e w7 ⟨rfl, hb⟩
    have HX7 := Lib.hid (HX6.out.below hb)
    have HB7 := Lib.hid (below_tr HB6.out hb)
    clear hb HAS HX6 HB6
    by_cases he : askedE l s = 0
    · have hln : l.length ≤ 60 := (askedE_zero.1 he).1.len
      have HE := Lib.hid he
      have HPV := Lib.hid (thin_proved he (HTX.out he))
      have hm3 : m3 ≤ 1000 := by
        have h3 := thin_least he (HTX.out he) (all_proved he)
        rw [List.length_map, List.length_range] at h3
        rw [← HX7.out.len]; omega
      have HK := Lib.hid (IsThin_c (c := c) (c' := c') (s := s) (h.below HB7.out) (h'.below HB7.out) (by omega) he)
      rw [he]
      clear he hln
      go_wp2_with fail
      refine HK.out.mono ?_
      rintro e w8 ⟨hpp, hb⟩
      obtain ⟨v2, rfl, hv2⟩ := pp_out hpp
      obtain rfl : v2 = v := by rw [Bool.eq_iff_iff, hv2, HV.out]
      have HX8 := Lib.hid (HX7.out.below hb)
      have HB8 := Lib.hid (below_tr HB7.out hb)
      have HI2 := Lib.hid (IsThin_c (c := c) (c' := d3) (s := s) (h.below HB8.out) HX8.out (by omega) HE.out)
      clear hpp hv2 hb HX7 HB7 HK
      go_wp2_with fail
      refine HI2.out.mono ?_
      rintro e w9 ⟨hpp, hb⟩
      obtain ⟨v3, rfl, hv3⟩ := pp_out hpp
      obtain rfl : v3 = true := hv3.2 HPV.out
      have HX9 := Lib.hid (HX8.out.below hb)
      have HB9 := Lib.hid (below_tr HB8.out hb)
      clear hpp hv3 hb HX8 HB8 HI2
      by_cases hw : n = 0 ∨ (n ≠ 0 ∧ 10 < n)
      · have hor : (n : Int) = 0 ∨ (((n : Int) == 0) = false ∧ 10 < (n : Int)) := by
          rcases hw with hw | hw
          · exact .inl (by omega)
          · exact .inr ⟨by rw [beq_eq_false_iff_ne]; omega, by omega⟩
        clear hw
        rcases hor with e1 | ⟨e1, e2⟩
        all_goals
          go_wp2_with fail
          refine (wakes_ok _).mono ?_
          rintro e w10 ⟨rfl, hb10⟩
          go_wp2_with fail
          go_ret
          exact ⟨rfl, below_tr HB9.out hb10⟩
      · have e1 : ((n : Int) == 0) = false := by rw [beq_eq_false_iff_ne]; omega
        have e2 : ¬ 10 < (n : Int) := by omega
        have hn0 : 0 < n := by omega
        have hlne : l ≠ [] := fun e => by have := HLEN.out; rw [e] at this; simp at this; omega
        obtain ⟨r, hr, hxr⟩ := (HTX.out HE.out).2 hlne
        have hbg : Rd enc1 1 (w9.alloc (.cells #[.int .i64 0] 3)) (some ⟨w9.heap.size, 0, none⟩) 1 ([0].map Int.ofNat) := Rd.of_blk enc1_len (heap_alloc_new w9 _) (fun (j : Nat) (v : Value) hv => by simpa [enc1] using hv) rfl
        have hcall := RefThin_c (c := c) HE.out HLEN.out hn0 (n - 1) 0 (by omega) (by omega) [] (h.below (HB9.out.alloc HB9.out.size (.cells #[.int .i64 0] 3))) hbg (Nat.le_refl _) (by omega)
        have HCALL := Lib.hid hcall
        have HR := Lib.hid hr; have HXR := Lib.hid hxr
        have HA9 := Lib.hid ((Below.refl w9.heap.size w9).alloc (Nat.le_refl _) (.cells #[.int .i64 0] 3))
        clear hw hlne hr hxr hbg hcall
        go_wp2_with fail
        refine HCALL.out.mono ?_
        rintro e w10 ⟨r2, C, m', c3, rfl, hm', hg, hrd, hb⟩
        rw [← HLEN.out] at hg
        have hrr := Greedy.det HR.out hg
        subst hrr
        have hin := ints_c (c := d3) (c' := c3) (HX9.out.below (below_tr HA9.out hb)) hrd (by omega)
        rw [HXR.out, List.nil_append, decide_eq_true rfl] at hin
        have HIN := Lib.hid hin
        have HB10 := Lib.hid (below_tr HB9.out (below_tr HA9.out hb))
        clear hg hrd hb hin HCALL HA9
        go_wp2_with fail
        refine HIN.out.mono ?_
        rintro e w11 ⟨rfl, hb11⟩
        have HB11 := Lib.hid (below_tr HB10.out hb11)
        clear hb11
        go_wp2_with fail
        refine (wakes_ok _).mono ?_
        rintro e w12 ⟨rfl, hb12⟩
        go_wp2_with fail
        go_ret
        exact ⟨rfl, below_tr HB11.out hb12⟩
    · have hvf : v = false := by
        cases v
        · rfl
        · exact absurd (HV.out.1 rfl).1 he
      subst hvf
      have hx0 : x = [] := HX1.out he
      have hm30 : m3 = 0 := by rw [← HX7.out.len, hx0]; rfl
      subst hm30
      have hb0 : (askedE l s == 0) = false := by rw [beq_eq_false_iff_ne]; exact he
      clear HV HTX HX1 HX7 hx0
      generalize askedE l s = q at *
      have HE := Lib.hid he; clear he
      go_wp2_with fail
      refine (wakes_ok _).mono ?_
      rintro e w8 ⟨rfl, hb8⟩
      go_wp2_with fail
      go_ret
      exact ⟨rfl, below_tr HB7.out hb8⟩
end Go.Proofs.Ytkgoojilmnkgiaa
