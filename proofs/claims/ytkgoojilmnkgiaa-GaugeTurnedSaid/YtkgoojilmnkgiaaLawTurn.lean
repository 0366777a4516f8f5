/- THE WALK of the law GaugeTurned. -/
import Derived.Test.YtkgoojilmnkgiaaOutl
import Derived.Test.YtkgoojilmnkgiaaRefSeries
import Derived.Test.YtkgoojilmnkgiaaWakes
import Derived.Test.YtkgoojilmnkgiaaTurnLaw
import Derived.Deep.DeepCutAuto
namespace Go.Proofs.Ytkgoojilmnkgiaa
open Go.RowKit Go.Proofs

theorem OutOk_c {l : List (Int × Int)} {A : Option Addr} {n c : Nat} {far : Int} {w : World} (h : Rd enc2 2 w A n l) (ha : askedE l far = 0) :
    Calls Try.prog 32 #[.slice A n c, .int .i64 far] w fun e w' => ∃ (B : Option Addr) (m d : Nat), e = .returned (.tuple #[.slice B m d, .int .i64 0]) ∧ m ≤ 60 ∧ Below w.heap.size w w' ∧
      Rd enc1 1 w' B m ((outl l far).map Int.ofNat) := by
  refine (Outliers_c h).mono fun e w' ⟨B, m, d, he, hmd, hb, _, hyes⟩ => ⟨B, m, d, by rw [he, ha], ?_, hb, hyes ha⟩
  have h1 := (hyes ha).len
  have h2 := outTo_len l far l.length
  have h3 := (askedE_zero.1 ha).1.len
  rw [List.length_map] at h1
  rw [← h1, outl]; omega
theorem OutOdd_c {l : List (Int × Int)} {A : Option Addr} {n c : Nat} {far : Int} {w : World} (h : Rd enc2 2 w A n l) (ha : askedE l far = 1) :
    Calls Try.prog 32 #[.slice A n c, .int .i64 far] w fun e w' => ∃ (B : Option Addr) (m d : Nat), e = .returned (.tuple #[.slice B m d, .int .i64 1]) ∧ Below w.heap.size w w' :=
  (Outliers_c h).mono fun e w' ⟨B, m, d, he, hmd, hb, _, _⟩ => ⟨B, m, d, by rw [he, ha], hb⟩

theorem OutMay_c {l0 l : List (Int × Int)} {A : Option Addr} {n c : Nat} {far : Int} {w : World} (h : Rd enc2 2 w A n l) (ha : askedE l far = 0 ∨ askedE l far = 1) (hl : outl l far = outl l0 far) :
    Calls Try.prog 32 #[.slice A n c, .int .i64 far] w fun e w' => ∃ (B : Option Addr) (m d : Nat) (g : Int), e = .returned (.tuple #[.slice B m d, .int .i64 g]) ∧ Below w.heap.size w w' ∧
      (g = 1 ∨ g = 0 ∧ m ≤ 60 ∧ Rd enc1 1 w' B m ((outl l0 far).map Int.ofNat)) := by
  rcases ha with ha | ha
  · exact (OutOk_c h ha).mono fun e w' ⟨B, m, d, he, hm, hb, hr⟩ => ⟨B, m, d, 0, he, hb, .inr ⟨rfl, hm, hl ▸ hr⟩⟩
  · exact (OutOdd_c h ha).mono fun e w' ⟨B, m, d, he, hb⟩ => ⟨B, m, d, 1, he, hb, .inl rfl⟩

set_option maxRecDepth 100000 in
set_option maxHeartbeats 1000000 in
theorem GaugeTurned_w {l : List (Int × Int)} {A : Option Addr} {n c : Nat} {far0 add which : Int} {ahead : Bool} {w : World} (h : Rd enc2 2 w A n l) (h1 : 0 ≤ far0 ∧ far0 ≤ 4294967295) (h2 : -2147483648 ≤ add ∧ add ≤ 2147483647) (h3 : 0 ≤ which ∧ which ≤ 255) :
    Calls Try.prog 9 #[.slice A n c, .int .u32 far0, .int .i32 add, .int .u8 which, .bool ahead] w fun e w' => e = .returned (.bool true) ∧ Below w.heap.size w w' := by
  have hsf := SeriesFault_c (c := c) h
  obtain ⟨far, hf0, hf1, hf2⟩ : ∃ a, far0.tmod 1000000001 = a ∧ 0 ≤ a ∧ a ≤ 1000000000 := ⟨_, rfl, Int.tmod_nonneg _ h1.1, by have := Int.tmod_lt_of_pos far0 (show (0 : Int) < 1000000001 by omega); omega⟩
  have wo : IntKind.i64.wrap far0 = far0 := wi (by omega)
  have wA : IntKind.i64.wrap far = far := wi (by omega)
  by_cases hser : SerOk l
  · rw [serE_ok hser] at hsf
    have HSF := Lib.hid hsf; clear hsf
    have hask : askedE l far = 0 := askedE_zero.2 ⟨hser, inB_iff.2 ⟨hf1, hf2⟩⟩
    have hn : n ≤ 60 := by rw [← h.len]; exact hser.len
    have HSER := Lib.hid hser; have HASK := Lib.hid hask; have HLEN := Lib.hid h.len
    clear hser hask
    go_enter Try.func9, Try.ntmps9
    go_wp2_with fail
    refine HSF.out.mono ?_
    rintro e w1 ⟨rfl, hb1⟩
    have HB1 := Lib.hid hb1; clear hb1 HSF
    go_wp2_with fail
    refine (Points_c (h.below HB1.out) (by omega)).mono ?_
    rintro e w2 ⟨A2, c2, rfl, hc2, hown, hb⟩
    have HB2 := Lib.hid (below_tr HB1.out hb)
    have HRT := Lib.hid (OutOk_c (c := c2) (Rd.of_own enc2_len hown HLEN.out) HASK.out)
    clear hown hb HB1
    go_wp2_with fail
    refine HRT.out.mono ?_
    rintro e w3 ⟨B3, m3, d3, rfl, hm3, hb, hrx⟩
    have HX := Lib.hid hrx
    have HB3 := Lib.hid (below_tr HB2.out hb)
    clear HB2 hb hrx HRT
    go_wp2_with fail
    refine (Points_c (h.below HB3.out) (by omega)).mono ?_
    rintro e w4 ⟨A4, c4, rfl, hc4, hown, hb⟩
    have HO4 := Lib.hid hown
    have ha4 : ∀ g, A4 = some ⟨g, 0, none⟩ → g < w4.heap.size := fun g e => (hown.lt g (by rw [e]; rfl)).2
    have HA4 := Lib.hid ha4; clear ha4
    have HW4 := Lib.hid hb
    have HB4 := Lib.hid (below_tr HB3.out hb)
    have hsz4 := hb.size
    clear hown hb
    go_wp2_with fail
    refine (Points_c (h.below HB4.out) (by omega)).mono ?_
    rintro e w5 ⟨A5, c5, rfl, hc5, hown, hb⟩
    have HO5 := Lib.hid hown
    have HD5 := Lib.hid (own_mono HO4.out hb)
    have HB5 := Lib.hid (below_tr HB4.out hb)
    have HW5 := Lib.hid (HW4.out.trans (hb.mono hsz4))
    have hsz5 := hb.size
    clear hown hb HO4 HW4
    have wad : IntKind.i64.wrap add = add := wi (by omega)
    go_wp2_with fail
    go_loopw [16] (fun i wr => ∃ j : Nat, j ≤ n ∧ i = .int .i64 j ∧ wr.ownsRow w3.heap.size 72 2 (.slice A4 n c4) n ((mix negP l j).flatMap enc2) ∧ wr.ownsRow w4.heap.size 72 2 (.slice A5 n c5) n ((mix (movP add) l j).flatMap enc2) ∧ Below w3.heap.size w5 wr) (fun i _ => n - (intOf i).toNat)
    case atStart => exact ⟨0, Nat.zero_le _, rfl, by rw [mix_zero]; exact HD5.out, by rw [mix_zero]; exact HO5.out, Below.refl _ _⟩
    case round =>
      obtain ⟨j, hj, rfl, hd, hu, hb⟩ := hrel
      by_cases hlt : j < n
      · obtain ⟨x, hx⟩ := get_of_lt (l := l) (i := j) (by have := HLEN.out; omega)
        have hpt := ptB_iff.1 (HSER.out.pt hx)
        obtain ⟨g4, cp4, hv, hg4, hl4⟩ := hd.form (by omega)
        cases hv
        obtain ⟨g5, cp5, hv, hg5, hl5⟩ := hu.form (by omega)
        cases hv
        have hcd : wr.cell? ⟨g4, j * 2 + 1, none⟩ = some (.int .i64 x.2) := by have := hd.cells (g := g4) rfl (j * 2 + 1) _ (get_flat (mix_get hx)); simpa [Addr.add] using this
        have hcu : wr.cell? ⟨g5, j * 2 + 1, none⟩ = some (.int .i64 x.2) := by have := hu.cells (g := g5) rfl (j * 2 + 1) _ (get_flat (mix_get hx)); simpa [Addr.add] using this
        have hsz := hb.size
        have hg45 : g5 ≠ g4 := by have := HA4.out g4 rfl; have := (hu.lt g5 rfl).1; omega
        have hcu' : (wr.setCell ⟨g4, j * 2 + 1, none⟩ (.int .i64 (-x.2))).cell? ⟨g5, j * 2 + 1, none⟩ = some (.int .i64 x.2) := by rw [World.cell?_setCell_other _ _ _ _ (fun e => hg45 (by injection e with e; omega))]; exact hcu
        have hi1 : (j : Int) < (n : Int) := by omega
        have hi0 : (0 : Int) ≤ (j : Int) := by omega
        have hfd := hd.frozenAt (j * 2 + 1)
        have hfu := hu.frozenAt (j * 2 + 1)
        have hD2 : (wr.setCell ⟨g4, j * 2 + 1, none⟩ (.int .i64 (-x.2))).ownsRow w3.heap.size 72 2 (.slice (some ⟨g4, 0, none⟩) n c4) n ((mix negP l (j + 1)).flatMap enc2) := by
          have := (hd.stored (j * 2 + 1) (.int .i64 (-x.2))).1
          rw [set_flat _ (mix_get hx)] at this
          rw [← mix_set hx]; exact this
        have hD3 := ownsRow_setCell_other hD2 (a := ⟨g5, j * 2 + 1, none⟩) (fun e => hg45 (Option.some.inj (show some g4 = some g5 from e)).symm) (.int .i64 (x.2 + add))
        have hU2 := ownsRow_setCell_other hu (a := ⟨g4, j * 2 + 1, none⟩) (fun e => hg45 (Option.some.inj (show some g5 = some g4 from e))) (.int .i64 (-x.2))
        have hU3 : ((wr.setCell ⟨g4, j * 2 + 1, none⟩ (.int .i64 (-x.2))).setCell ⟨g5, j * 2 + 1, none⟩ (.int .i64 (x.2 + add))).ownsRow w4.heap.size 72 2 (.slice (some ⟨g5, 0, none⟩) n c5) n ((mix (movP add) l (j + 1)).flatMap enc2) := by
          have := (hU2.stored (j * 2 + 1) (.int .i64 (x.2 + add))).1
          rw [set_flat _ (mix_get hx)] at this
          rw [← mix_set hx]; exact this
        have hB3 : Below w3.heap.size w5 ((wr.setCell ⟨g4, j * 2 + 1, none⟩ (.int .i64 (-x.2))).setCell ⟨g5, j * 2 + 1, none⟩ (.int .i64 (x.2 + add))) := (hb.setCell (p := ⟨g4, j * 2 + 1, none⟩) hg4 _).setCell (p := ⟨g5, j * 2 + 1, none⟩) (Nat.le_trans hsz4 hg5) _
        have HD := Lib.hid hD3; have HU := Lib.hid hU3; have HB := Lib.hid hB3
        clear hx hb hd hu hD2 hD3 hU2 hU3 hB3
        have wn : IntKind.i64.wrap (-x.2) = -x.2 := wi (by omega)
        have wm : IntKind.i64.wrap (x.2 + add) = x.2 + add := wi (by omega)
        go_wp2
        go_roundw
        case rel => exact ⟨j + 1, by omega, by go_num, HD.out, HU.out, HB.out⟩
        case measure => simp [intOf] <;> omega
      · obtain rfl : n = j := by omega
        have e1 : mix negP l n = l.map negP := by rw [← HLEN.out, mix_all]
        have e2 : mix (movP add) l n = l.map (movP add) := by rw [← HLEN.out, mix_all]
        rw [e1] at hd
        rw [e2] at hu
        have hszr := hb.size
        have HXr := Lib.hid (HX.out.below (HW5.out.trans hb))
        have HBr := Lib.hid (HB5.out.trans (hb.mono HB3.out.size))
        have HDO := Lib.hid (OutOk_c (c := c4) (Rd.of_own enc2_len hd (by rw [List.length_map]; exact HLEN.out)) (neg_asked HASK.out))
        have HUR := Lib.hid (Rd.of_own enc2_len hu (by rw [List.length_map]; exact HLEN.out))
        clear hd hu e1 e2 hb HX HD5 HO5 HB5 HA4
        rw [outl_map (stB_neg · · · far)] at HDO
        go_wp2_with fail
        refine HDO.out.mono ?_
        rintro e w6 ⟨B6, m6, d6, rfl, hm6, hb, hry⟩
        have HX6 := Lib.hid (HXr.out.below hb)
        have HU6 := Lib.hid (HUR.out.below hb)
        have HY6 := Lib.hid hry
        have HB6 := Lib.hid (below_tr HBr.out hb)
        clear hb hry HXr HUR HBr HDO
        have HDU := Lib.hid (OutMay_c (c := c5) HU6.out (mov_asked add HASK.out) (outl_map (stB_mov add · · · far) l))
        clear HU6
        go_wp2_with fail
        refine HDU.out.mono ?_
        rintro e w7 ⟨B7, m7, d7, g, rfl, hb, hrz⟩
        have hints := ints_c (c := d3) (c' := d6) (HX6.out.below hb) (HY6.out.below hb) (by omega)
        rw [decide_eq_true rfl] at hints
        have HIN := Lib.hid hints
        have HX7 := Lib.hid (HX6.out.below hb)
        have HZ7 := Lib.hid hrz
        have HB7 := Lib.hid (below_tr HB6.out hb)
        clear hb hrz HDU hints HX6 HY6
        go_upto_region 13 with fail
        go_cut [111] (fun cc wx => cc = .bool false ∧ Below w7.heap.size w7 wx)
        case first =>
          rcases HZ7.out with hg | ⟨hg, hm7, hrz⟩ <;> subst hg
          · go_wp2_with fail
            refine HIN.out.mono ?_
            rintro e w8 ⟨rfl, hb⟩
            go_wp2_with fail
            go_meet
            exact ⟨rfl, hb⟩
          · have HRZ := Lib.hid hrz
            clear hrz
            go_wp2_with fail
            refine HIN.out.mono ?_
            rintro e w8 ⟨rfl, hb⟩
            have hints := ints_c (c := d3) (c' := d7) (HX7.out.below hb) (HRZ.out.below hb) (by omega)
            rw [decide_eq_true rfl] at hints
            have HI2 := Lib.hid hints
            clear hints
            go_wp2_with fail
            refine HI2.out.mono ?_
            rintro e w9 ⟨rfl, hb9⟩
            go_wp2_with fail
            go_meet
            exact ⟨rfl, below_tr hb hb9⟩
        case rest =>
        obtain ⟨rfl, hbc⟩ := hcut
        have HXc := Lib.hid (HX7.out.below hbc)
        have HBc := Lib.hid (below_tr HB7.out hbc)
        clear hbc HX7 HB7 HIN HZ7
        by_cases hm0 : m3 = 0
        · subst hm0
          clear HXc
          go_wp2_with fail
          refine (wakes_ok _).mono ?_
          rintro e w8 ⟨rfl, hb8⟩
          go_wp2_with fail
          go_ret
          exact ⟨rfl, below_tr HBc.out hb8⟩
        · have hmz : ((m3 : Int) == 0) = false := by simpa using hm0
          obtain ⟨q, hq0, hq1⟩ : ∃ q : Nat, which.tmod (m3 : Int) = (q : Int) ∧ q < m3 := ⟨(which.tmod (m3 : Int)).toNat, by have := Int.tmod_nonneg (m3 : Int) h3.1; omega, by have := Int.tmod_nonneg (m3 : Int) h3.1; have := Int.tmod_lt_of_pos which (show (0 : Int) < (m3 : Int) by omega); omega⟩
          have hq2 : which % (m3 : Int) = (q : Int) := by rw [← Int.tmod_eq_emod_of_nonneg h3.1]; exact hq0
          have wq : IntKind.i64.wrap (q : Int) = (q : Int) := wi (by omega)
          have ww : IntKind.i64.wrap which = which := wi (by omega)
          have hqm : (q : Int) < (m3 : Int) := by omega
          obtain ⟨bx, ox, v, hA, hblx, hv, hcx⟩ := HXc.out.at1 hq1
          cases hA
          simp only [List.getElem?_map, Option.map_eq_some_iff] at hv
          obtain ⟨K, hK, rfl⟩ := hv
          have hst := mem_outl.1 (List.mem_of_getElem? hK)
          have hin := stAt_in hst
          rw [HLEN.out] at hin
          have HST := Lib.hid hst
          clear hK hst
          have hcx' : wc.cell? ⟨bx, ox + q, none⟩ = some (.int .i64 (K : Int)) := hcx
          clear hcx
          have kn1 : ¬ (K : Int) < 1 := by omega
          have wn2 : IntKind.i64.wrap ((n : Int) - 2) = (n : Int) - 2 := wi (by omega)
          have kn2 : ¬ (n : Int) - 2 < (K : Int) := by omega
          have hh := h.below HBc.out
          have HH := Lib.hid hh
          clear hh
          go_wp2_with fail
          refine (Points_c HH.out (by omega)).mono ?_
          rintro e w8 ⟨A8, c8, rfl, hc8, hown, hb⟩
          have hR8 := HH.out.below hb
          obtain ⟨bb, oo, xa, hA, hbl, hxa, _, hca⟩ := hR8.at2 (i := K - 1) (by omega)
          subst hA
          obtain ⟨bb', oo', xk, hA, _, hxk, _, _⟩ := hR8.at2 (i := K) (by omega)
          cases hA
          obtain ⟨bb', oo', xb, hA, _, hxb, _, hcb⟩ := hR8.at2 (i := K + 1) (by omega)
          cases hA
          obtain ⟨b0, o0, _, hA, hbl0, _⟩ := HH.out.at2 (i := 0) (by omega)
          cases hA
          obtain ⟨g8, cp8, hv, hg8, hl8⟩ := hown.form (by omega)
          cases hv
          have hcb' : (w8.setCell ⟨g8, K * 2 + 1, none⟩ (.int .i64 xa.2)).cell? ⟨bb, oo + (K + 1) * 2 + 1, none⟩ = some (.int .i64 xb.2) := by rw [World.cell?_setCell_other _ _ _ _ (fun e => by injection e with e; omega)]; exact hcb
          clear hcb
          have hF1 : (w8.setCell ⟨g8, K * 2 + 1, none⟩ (.int .i64 xa.2)).ownsRow wc.heap.size 72 2 (.slice (some ⟨g8, 0, none⟩) n c8) n ((l.set K (xk.1, xa.2)).flatMap enc2) := by
            have := (hown.stored (K * 2 + 1) (.int .i64 xa.2)).1
            rwa [set_flat _ hxk] at this
          have hF2 : ((w8.setCell ⟨g8, K * 2 + 1, none⟩ (.int .i64 xa.2)).setCell ⟨g8, K * 2 + 1, none⟩ (.int .i64 xb.2)).ownsRow wc.heap.size 72 2 (.slice (some ⟨g8, 0, none⟩) n c8) n ((l.set K (xk.1, xb.2)).flatMap enc2) := by
            have := (hF1.stored (K * 2 + 1) (.int .i64 xb.2)).1
            rwa [set_flat (x := (xk.1, xa.2)) _ (List.getElem?_set_self (lt_of_get hxk)), List.set_set] at this
          have hfz := hown.frozenAt (K * 2 + 1)
          have hfz1 := hF1.frozenAt (K * 2 + 1)
          have hce : w8.cell? ⟨g8, K * 2 + 1, none⟩ = some (.int .i64 xk.2) := by have := hown.cells (g := g8) rfl (K * 2 + 1) _ (get_flat hxk); simpa [Addr.add] using this
          have hce1 : (w8.setCell ⟨g8, K * 2 + 1, none⟩ (.int .i64 xa.2)).cell? ⟨g8, K * 2 + 1, none⟩ = some (.int .i64 xa.2) := by have := hF1.cells (g := g8) rfl (K * 2 + 1) _ (get_flat (x := (xk.1, xa.2)) (List.getElem?_set_self (lt_of_get hxk))); simpa [Addr.add] using this
          have HF1 := Lib.hid hF1; have HF2 := Lib.hid hF2
          have hB1 : Below wc.heap.size wc (w8.setCell ⟨g8, K * 2 + 1, none⟩ (.int .i64 xa.2)) := hb.setCell (p := ⟨g8, K * 2 + 1, none⟩) hg8 _
          have HG1 := Lib.hid hB1
          have HG2 := Lib.hid (hB1.setCell (p := ⟨g8, K * 2 + 1, none⟩) hg8 (.int .i64 xb.2))
          have HXA := Lib.hid hxa; have HXK := Lib.hid hxk; have HXB := Lib.hid hxb
          clear hown hF1 hF2 hB1 hb hxa hxk hxb hR8
          have hb1 : IntKind.i64.wrap ((K : Int) - 1) = (K : Int) - 1 := wi (by omega)
          have hb2 : IntKind.i64.wrap ((K : Int) + 1) = (K : Int) + 1 := wi (by omega)
          have t1 : ((K : Int) - 1).toNat = K - 1 := by omega
          have t2 : ((K : Int) + 1).toNat = K + 1 := by omega
          have b1 : (0 : Int) ≤ (K : Int) - 1 := by omega
          have b2 : (K : Int) - 1 < (n : Int) := by omega
          have b3 : (0 : Int) ≤ (K : Int) + 1 := by omega
          have b4 : (K : Int) + 1 < (n : Int) := by omega
          have b5 : (0 : Int) ≤ (K : Int) := by omega
          have b6 : (K : Int) < (n : Int) := by omega
          go_upto_if 145 with fail
          go_cut [] (fun wx => ∃ v : Int, (v = xa.2 ∨ v = xb.2) ∧ wx.ownsRow wc.heap.size 72 2 (.slice (some ⟨g8, 0, none⟩) n c8) n ((l.set K (xk.1, v)).flatMap enc2) ∧ Below wc.heap.size wc wx)
          case first =>
            cases ahead
            · go_wp2_with fail
              go_meet
              exact ⟨xa.2, .inl rfl, HF1.out, HG1.out⟩
            · go_wp2_with fail
              go_meet
              exact ⟨xb.2, .inr rfl, HF2.out, HG2.out⟩
          case rest =>
          obtain ⟨v, hv, hown, hb⟩ := hcut
          have hpa := ptB_iff.1 (HSER.out.pt HXA.out)
          have hpb := ptB_iff.1 (HSER.out.pt HXB.out)
          have hno := flat_not' (by omega) hf1 HXA.out HXK.out HXB.out hv
          have hfa : askedE (l.set K (xk.1, v)) far = 0 := askedE_zero.2 ⟨flat_ok HSER.out HXK.out (by rcases hv with rfl | rfl <;> omega), inB_iff.2 ⟨hf1, hf2⟩⟩
          have HFO := Lib.hid (OutOk_c (c := c8) (Rd.of_own enc2_len hown (by rw [List.length_set]; exact HLEN.out)) hfa)
          have HNO := Lib.hid hno
          have HBd := Lib.hid (HBc.out.trans (hb.mono HBc.out.size))
          clear hv hown hb hpa hpb hno hfa HF1 HF2 HG1 HG2 hca hcb' hfz hfz1 hce hce1 HXA HXK HXB
          go_wp2_with fail
          refine HFO.out.mono ?_
          rintro e w9 ⟨B9, m9, d9, rfl, hm9, hb, hrw⟩
          have HW := Lib.hid hrw
          have HB9 := Lib.hid (below_tr HBd.out hb)
          clear hrw hb HBd HFO
          go_wp2_with fail
          go_loop [25] (fun i => ∃ j : Nat, j ≤ m9 ∧ i = .int .i64 j) (fun i => m9 - (intOf i).toNat)
          case atStart => exact ⟨0, Nat.zero_le _, rfl⟩
          case round =>
            obtain ⟨j, hj, rfl⟩ := hrel
            by_cases hlt : j < m9
            · obtain ⟨by', oy, u, hA, hbly, hu, hcy⟩ := HW.out.at1 hlt
              subst hA
              simp only [List.getElem?_map, Option.map_eq_some_iff] at hu
              obtain ⟨U, hU, rfl⟩ := hu
              have hUK : U ≠ K := fun e => by
                have := mem_outl.1 (List.mem_of_getElem? hU)
                rw [e, HNO.out] at this; cases this
              have hcy' : w9.cell? ⟨by', oy + j, none⟩ = some (.int .i64 (U : Int)) := hcy
              clear hcy hU
              have hne : ((U : Int) == (K : Int)) = false := by rw [beq_eq_false_iff_ne]; omega
              have hne2 : ¬ (U : Int) = (K : Int) := by omega
              have hi1 : (j : Int) < (m9 : Int) := by omega
              have hi0 : (0 : Int) ≤ (j : Int) := by omega
              go_wp2
              go_round
              case rel => exact ⟨j + 1, by omega, by go_num⟩
              case measure => simp [intOf] <;> omega
            · have hi1 : ¬ (j : Int) < (m9 : Int) := by omega
              go_wp2_with fail
              refine (wakes_ok _).mono ?_
              rintro e w10 ⟨rfl, hb10⟩
              go_wp2_with fail
              go_ret
              exact ⟨rfl, below_tr HB9.out hb10⟩
  · have h0 : serE l ≠ 0 := fun h => hser (serE_zero.1 h)
    have hb0 : (serE l == 0) = false := by simpa using h0
    generalize serE l = q at *
    have HSF := Lib.hid hsf; clear hsf hser
    have HE := Lib.hid h0; clear h0
    go_enter Try.func9, Try.ntmps9
    go_wp2_with fail
    refine HSF.out.mono ?_
    rintro e w1 ⟨rfl, hb1⟩
    go_wp2_with fail
    refine (wakes_ok _).mono ?_
    rintro e w2 ⟨rfl, hb2⟩
    go_wp2_with fail
    go_ret
    exact ⟨rfl, below_tr hb1 hb2⟩
end Go.Proofs.Ytkgoojilmnkgiaa
