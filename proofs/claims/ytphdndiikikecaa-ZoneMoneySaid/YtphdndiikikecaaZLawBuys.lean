/- THE WALK of ZoneBuys. -/
import Derived.Test.YtphdndiikikecaaZRBuy
namespace Go.Proofs.Ytphdndiikikecaa
open Go.RowKit Go.Proofs
attribute [local go_sem ↓] Go.wp_at_zero Go.wp_at_succ

theorem Buy_okA {v v' : Vly} {PA SA : Option Addr} {pn pc sn sc : Nat} {B : Int} {w : World} (hok : VOk v) (hal : VAlike v v') (h : RdV w PA pn SA sn v') (hf : inB B 0 100000000 = true) :
    Calls Try.prog 33 #[.agg #[.slice PA pn pc, .slice SA sn sc, .int .i64 v'.s0, .int .i64 v'.s1, .int .i64 v'.s2], .int .i64 B] w
      fun e w' => ∃ A n c, e = .returned (.tuple #[.slice A n c, .int .i64 (bestB (gainsL v) (pricesL v) B).gain, .int .i64 0]) ∧ n ≤ 12 ∧ Rd enc1 1 w' A n (bestB (gainsL v) (pricesL v) B).set ∧ Below w.heap.size w w' := by
  have := Buy_ok (pc := pc) (sc := sc) h (hal.ok hok) hf
  rw [hal.gains, hal.prices] at this
  exact this
theorem Prove_A {v v' : Vly} {B r t : Int} {PA SA : Option Addr} {pn pc sn sc : Nat} {w : World} (hok : VOk v) (hal : VAlike v v') (h : RdV w PA pn SA sn v') (hB : inB B 0 100000000 = true) (hr : inB r 0 100000000 = true) :
    Calls Try.prog 35 #[.agg #[.slice PA pn pc, .slice SA sn sc, .int .i64 v'.s0, .int .i64 v'.s1, .int .i64 v'.s2], .int .i64 B, .int .i64 r, .int .i64 t] w fun e w' => e = .returned (.bool (decide (t = boundL (gainsL v) (pricesL v) pn B r))) ∧ Below w.heap.size w w' := by
  have := Prove_c (pc := pc) (sc := sc) (t := t) (hal.ok hok) h hB hr
  rw [hal.gains, hal.prices] at this
  exact this
theorem best_at {v : Vly} (hok : VOk v) {B : Int} (hB : 0 ≤ B) : bestB (gainsL v) (pricesL v) B = bst (gainsL v) (pricesL v) (refTo (gainsL v) (pricesL v) v.pars.length B (2 ^ v.pars.length - 1)) := by
  have h := best_ref (gs := gainsL v) (ps := pricesL v) (fun i => (gAt_bd (by omega) (pricesL_bd hok) i).1) hB
  rw [gainsL_len] at h
  exact h

set_option maxRecDepth 100000 in
set_option maxHeartbeats 4000000 in
theorem ZoneBuys_w {v : Vly} {B r t : Int} {PA SA : Option Addr} {pn pc sn sc : Nat} {w : World} (h : RdV w PA pn SA sn v) (hpn : pn ≤ maxLen) (hsn : sn ≤ maxLen) :
    Calls Try.prog 8 #[.agg #[.slice PA pn pc, .slice SA sn sc, .int .i64 v.s0, .int .i64 v.s1, .int .i64 v.s2], .int .i64 B, .int .i64 r, .int .i64 t] w fun e w' => e = .returned (.bool true) ∧ Below w.heap.size w w' := by
  have hlp := h.pars.len; have hls := h.sls.len
  have HS0 := Lib.hid (SW.new w (vA PA pn pc SA sn sc v))
  have HTH := Lib.hid (Thin_c (pc := pc) (sc := sc) (h.below HS0.out.bel) hsn)
  have HV := Lib.hid h
  have HFTW := Lib.hid (fun W (hW : Below w.heap.size w W) => fault_c (pc := pc) (sc := sc) (HV.out.below hW) hpn hsn)
  obtain ⟨E, hE⟩ : ∃ E, E = errV v := ⟨_, rfl⟩
  rw [← hE] at HFTW
  have HE := Lib.hid hE
  clear hE
  cases hth : thinB v
  · rw [hth] at HTH
    clear h hth
    go_enter Try.func8, Try.ntmps8
    go_wp2_with fail
    refine HTH.out.mono ?_
    rintro e w1 ⟨rfl, hb⟩
    have HB1 := Lib.hid (below_tr HS0.out.bel hb)
    clear hb
    go_wp2_with (go_at_call 18; refine (wakes_ok _).mono ?_; rintro e w2 ⟨rfl, hb2⟩)
    go_ret
    exact ⟨rfl, below_tr HB1.out hb2⟩
  · rw [hth] at HTH
    have ht := thinB_iff.1 hth
    have hpn15 : pn ≤ 15 := by omega
    have hsn12 : sn ≤ 12 := by omega
    have HWY := Lib.hid (fun (s : Sli) (hs : s ∈ v.sls) => show s.way.length ≤ 1000 from by have := ht.1 s hs; omega)
    have HVW := Lib.hid (fun W (hW : Below w.heap.size w W) => Valley_c (pc := pc) (sc := sc) (HV.out.below hW) (by omega) (by omega) HWY.out)
    clear h hth ht
    by_cases herr : E = 0
    · subst herr
      have hok : VOk v := errV_zero.1 HE.out.symm
      have HOK := Lib.hid hok
      have hsn10 : sn ≤ 10 := by have := hok.sn; omega
      have hpn12 : pn ≤ 12 := by have := hok.pn; omega
      have HINB := Lib.hid (fun W => In_c B 0 100000000 W)
      have HINR := Lib.hid (fun W => In_c r 0 100000000 W)
      by_cases h7 : 7 < pn
      · have h7' : (7 : Int) < (pn : Int) := by omega
        clear hok
        go_enter Try.func8, Try.ntmps8
        go_wp2_with fail
        refine HTH.out.mono ?_
        rintro e w1 ⟨rfl, hb⟩
        have HS1 := Lib.hid (HS0.out.below hb)
        obtain ⟨c0, c1, c2, c3, c4⟩ := HS1.out.cells
        have HFT := Lib.hid (HFTW.out _ HS1.out.bel)
        clear hb HTH HS0
        go_wp2_with fail
        refine HFT.out.mono ?_
        rintro e w2 ⟨rfl, hb⟩
        have HS2 := Lib.hid (HS1.out.below hb)
        clear c0 c1 c2 c3 c4 hb
        obtain ⟨c0, c1, c2, c3, c4⟩ := HS2.out.cells
        go_wp2_with (go_at_call 18; refine (wakes_ok _).mono ?_; rintro e w3 ⟨rfl, hb3⟩)
        go_ret
        exact ⟨rfl, below_tr HS2.out.bel hb3⟩
      · have h7' : ¬ (7 : Int) < (pn : Int) := by omega
        have h7d : decide ((7 : Int) < (pn : Int)) = false := decide_eq_false h7'
        go_enter Try.func8, Try.ntmps8
        go_wp2_with fail
        refine HTH.out.mono ?_
        rintro e w1 ⟨rfl, hb⟩
        have HS1 := Lib.hid (HS0.out.below hb)
        obtain ⟨c0, c1, c2, c3, c4⟩ := HS1.out.cells
        have HFT := Lib.hid (HFTW.out _ HS1.out.bel)
        clear hb HTH HS0
        go_wp2_with fail
        refine HFT.out.mono ?_
        rintro e w2 ⟨rfl, hb⟩
        have HS2 := Lib.hid (HS1.out.below hb)
        have HVL := Lib.hid (HVW.out _ HS2.out.bel)
        clear c0 c1 c2 c3 c4 hb HFT HS1
        obtain ⟨c0, c1, c2, c3, c4⟩ := HS2.out.cells
        go_wp2_with fail
        refine HVL.out.mono ?_
        rintro e w3 ⟨A1, d1, A2, d2, v', rfl, hv', hal, hb⟩
        have HS3 := Lib.hid (HS2.out.below hb)
        have HV3 := Lib.hid hv'; have HAL := Lib.hid hal
        clear c0 c1 c2 c3 c4 hb hal hv' HVL HS2
        cases hfB : inB B 0 100000000
        · have HBD := Lib.hid (Buy_fund (pc := d1) (sc := d2) HV3.out (HAL.out.ok hok) hfB)
          have HPD := Lib.hid (fun (v'' : Vly) (A3 A4 : Option Addr) (p1 p2 : Nat) (W : World) (hal2 : VAlike v v'') (hv : RdV W A3 pn A4 sn v'') => Prove_no (pc := p1) (sc := p2) (B := B) (r := r) (t := t) hv hpn hsn (.inr (.inl hfB)))
          simp only [hfB] at HINB
          clear hfB hok
          go_wp2_with fail
          refine HBD.out.mono ?_
          rintro e w4 ⟨rfl, hb⟩
          have HS4 := Lib.hid (HS3.out.below hb)
          obtain ⟨c0, c1, c2, c3, c4⟩ := HS4.out.cells
          have HVL := Lib.hid (HVW.out _ HS4.out.bel)
          clear hb HBD HS3
          go_wp2_with fail
          refine HVL.out.mono ?_
          rintro e w5 ⟨A3, d3, A4, d4, v'', rfl, hv', hal, hb⟩
          have HS5 := Lib.hid (HS4.out.below hb)
          have HPP := Lib.hid (HPD.out v'' A3 A4 d3 d4 w5 hal hv')
          clear c0 c1 c2 c3 c4 hb hal hv' HVL HS4
          go_wp2_with fail
          refine HPP.out.mono ?_
          rintro e w6 ⟨rfl, hb⟩
          have HS6 := Lib.hid (HS5.out.below hb)
          obtain ⟨c0, c1, c2, c3, c4⟩ := HS6.out.cells
          have HFT := Lib.hid (HFTW.out _ HS6.out.bel)
          clear hb HPP HS5
          go_wp2_with fail
          refine HFT.out.mono ?_
          rintro e w7 ⟨rfl, hb⟩
          have HB7 := Lib.hid (below_tr HS6.out.bel hb)
          clear hb
          go_wp2_with (first
            | (go_at_call 26; refine (HINB.out _).mono ?_; rintro e w8 ⟨rfl, rfl⟩)
            | (go_at_call 18; refine (wakes_ok _).mono ?_; rintro e w8 ⟨rfl, hb8⟩))
          go_ret
          exact ⟨rfl, below_tr HB7.out hb8⟩
        · have hBb := inB_iff.1 hfB
          have HBY := Lib.hid (Buy_okA (pc := d1) (sc := d2) hok HAL.out HV3.out hfB)
          have hbest := best_at hok hBb.1
          rw [hlp] at hbest
          have HRB := Lib.hid (fun W (hW : Below w.heap.size w W) => rBuy_c (pc := pc) (sc := sc) hok (HV.out.below hW) hBb (by omega))
          have hspec := refTo_spec (gs := gainsL v) (ps := pricesL v) (n := pn) hBb.1 (2 ^ pn - 1)
          have HQA := Lib.hid hspec.1
          rw [hbest] at HBY
          have HRBD := Lib.hid (fun W (hW : Below w.heap.size w W) (hr : 0 ≤ r ∧ r ≤ 100000000) => Bound_c (pc := pc) (sc := sc) hok (HV.out.below hW) hBb hr)
          have HGS := Lib.hid (fun W (hW : Below w.heap.size w W) (A : Option Addr) (n c : Nat) (hr : Rd enc1 1 W A n (refTo (gainsL v) (pricesL v) pn B (2 ^ pn - 1))) (hn : n ≤ 1000) => Gains_c (pc := pc) (sc := sc) (c := c) hok (HV.out.below hW) hr hn (asc_bd HQA.out.1))
          obtain ⟨Q, hQ⟩ : ∃ Q, Q = refTo (gainsL v) (pricesL v) pn B (2 ^ pn - 1) := ⟨_, rfl⟩
          have HPA := Lib.hid (fun (v'' : Vly) (A3 A4 : Option Addr) (p1 p2 : Nat) (W : World) (hal2 : VAlike v v'') (hv : RdV W A3 pn A4 sn v'') (hr : inB r 0 100000000 = true) => Prove_A (pc := p1) (sc := p2) (B := B) (r := r) (t := t) hok hal2 hv hfB hr)
          have HPN := Lib.hid (fun (v'' : Vly) (A3 A4 : Option Addr) (p1 p2 : Nat) (W : World) (hv : RdV W A3 pn A4 sn v'') (hr : inB r 0 100000000 = false) => Prove_no (pc := p1) (sc := p2) (B := B) (r := r) (t := t) hv hpn hsn (.inr (.inr hr)))
          have hRP : ∀ (e : Ending) (W W' : World), RBuyP (gainsL v) (pricesL v) pn (2 ^ pn) B W e W' → ∃ A n c, e = .returned (.slice A n c) ∧ n ≤ pn ∧ Rd enc1 1 W' A n Q ∧ Below W.heap.size W W' := fun e W W' h => by rw [hQ]; exact h
          have HRP := Lib.hid hRP
          rw [← hQ] at HBY HQA
          simp only [← hQ] at HGS
          have hbg : (bst (gainsL v) (pricesL v) Q).gain = gL (gainsL v) Q := rfl
          have hbs : (bst (gainsL v) (pricesL v) Q).set = Q := rfl
          rw [hbg, hbs] at HBY
          obtain ⟨g, hg⟩ : ∃ g, g = gL (gainsL v) Q := ⟨_, rfl⟩
          rw [← hg] at HBY
          simp only [← hg] at HGS
          obtain ⟨bd, hbd⟩ : ∃ bd, bd = boundL (gainsL v) (pricesL v) pn B r := ⟨_, rfl⟩
          simp only [← hbd] at HPA HRBD
          simp only [hfB] at HINB
          clear hfB hok hbest hspec hQ hbg hbs hg hbd hRP
          go_wp2_with fail
          refine HBY.out.mono ?_
          rintro e w4 ⟨A5, n5, c5, rfl, hn5, hr5, hb⟩
          have HS4 := Lib.hid (HS3.out.below hb)
          have HR4 := Lib.hid hr5
          obtain ⟨c0, c1, c2, c3, c4⟩ := HS4.out.cells
          have HVL := Lib.hid (HVW.out _ HS4.out.bel)
          clear hb HBY HS3 hr5
          go_wp2_with fail
          refine HVL.out.mono ?_
          rintro e w5 ⟨A3, d3, A4, d4, v'', rfl, hv', hal, hb⟩
          have HS5 := Lib.hid (HS4.out.below hb)
          have HR5 := Lib.hid (HR4.out.below hb)
          obtain ⟨is, hPP⟩ : ∃ is : Bool, Hid (Calls Try.prog 35 #[.agg #[.slice A3 pn d3, .slice A4 sn d4, .int .i64 v''.s0, .int .i64 v''.s1, .int .i64 v''.s2], .int .i64 B, .int .i64 r, .int .i64 t] w5 fun e w' => e = .returned (.bool is) ∧ Below w5.heap.size w5 w') ∧ Hid (is = (inB r 0 100000000 && decide (t = bd))) := by
            cases hr : inB r 0 100000000
            · exact ⟨false, Lib.hid (HPN.out v'' A3 A4 d3 d4 w5 hv' hr), Lib.hid (by simp)⟩
            · exact ⟨_, Lib.hid (HPA.out v'' A3 A4 d3 d4 w5 hal hv' hr), Lib.hid (by simp)⟩
          obtain ⟨HPP, HIS⟩ := hPP
          clear c0 c1 c2 c3 c4 hb hal hv' HVL HS4 HR4
          go_wp2_with fail
          refine HPP.out.mono ?_
          rintro e w6 ⟨rfl, hb⟩
          have HS6 := Lib.hid (HS5.out.below hb)
          have HR6 := Lib.hid (HR5.out.below hb)
          obtain ⟨c0, c1, c2, c3, c4⟩ := HS6.out.cells
          have HFT := Lib.hid (HFTW.out _ HS6.out.bel)
          clear hb HPP HS5 HR5
          go_wp2_with fail
          refine HFT.out.mono ?_
          rintro e w7 ⟨rfl, hb⟩
          have HS7 := Lib.hid (HS6.out.below hb)
          have HR7 := Lib.hid (HR6.out.below hb)
          have HRB7 := Lib.hid (HRB.out _ HS7.out.bel)
          clear hb HS6 HR6 HFT c0 c1 c2 c3 c4
          obtain ⟨c0, c1, c2, c3, c4⟩ := HS7.out.cells
          go_wp2_with (go_at_call 26; refine (HINB.out _).mono ?_; rintro e w8 ⟨rfl, rfl⟩)
          refine HRB7.out.mono ?_
          intro e w8 hrp
          obtain ⟨A6, n6, c6, rfl, hn6, hr6, hb⟩ := HRP.out _ _ _ hrp
          have HS8 := Lib.hid (HS7.out.below hb)
          have HR8 := Lib.hid (And.intro (HR7.out.below hb) hr6)
          clear hrp hr6 hb HS7 HR7 HRB7 c0 c1 c2 c3 c4
          obtain ⟨c0, c1, c2, c3, c4⟩ := HS8.out.cells
          go_upto_region 11 with fail
          go_cut [88] (fun q wx => q = .bool false ∧ Below w8.heap.size w8 wx)
          case first =>
            cases hr : inB r 0 100000000
            · have HIS2 := Lib.hid (show is = false by rw [HIS.out, hr]; rfl)
              obtain rfl := HIS2.out
              simp only [hr] at HINR
              clear hr
              go_wp2_with (go_at_call 26; refine (HINR.out _).mono ?_; rintro e w9 ⟨rfl, rfl⟩)
              go_meet
              exact ⟨rfl, Below.refl _ _⟩
            · have HIS2 := Lib.hid (show is = decide (t = bd) by rw [HIS.out, hr]; rfl)
              have HBN := Lib.hid (HRBD.out w8 HS8.out.bel (inB_iff.1 hr))
              simp only [hr] at HINR
              clear hr
              cases hdd : decide (t = bd)
              · have hbq : (t == bd) = false := by rw [beq_eq_false_iff_ne]; exact of_decide_eq_false hdd
                obtain rfl : is = false := HIS2.out.trans hdd
                clear hdd
                go_wp2_with (first
                  | (go_at_call 26; refine (HINR.out _).mono ?_; rintro e w9 ⟨rfl, rfl⟩)
                  | (go_at_call 37; refine HBN.out.mono ?_; rintro e wa ⟨rfl, hba⟩))
                go_meet
                exact ⟨rfl, hba⟩
              · have hbq : (t == bd) = true := by rw [beq_iff_eq]; exact of_decide_eq_true hdd
                obtain rfl : is = true := HIS2.out.trans hdd
                clear hdd
                go_wp2_with (first
                  | (go_at_call 26; refine (HINR.out _).mono ?_; rintro e w9 ⟨rfl, rfl⟩)
                  | (go_at_call 37; refine HBN.out.mono ?_; rintro e wa ⟨rfl, hba⟩))
                go_meet
                exact ⟨rfl, hba⟩
          case rest =>
            obtain ⟨rfl, hb⟩ := hcut
            obtain ⟨W9, hW9⟩ : ∃ W9, W9 = wc := ⟨_, rfl⟩
            rw [← hW9] at hb ⊢
            have HS9 := Lib.hid (HS8.out.below hb)
            have HR9 := Lib.hid (And.intro (HR8.out.1.below hb) (HR8.out.2.below hb))
            have HIA := Lib.hid (ints_c (c := c5) (c' := c6) HR9.out.1 HR9.out.2 (by omega))
            rw [decide_eq_true rfl] at HIA
            clear hb hW9 HS8 HR8 c0 c1 c2 c3 c4
            obtain ⟨c0, c1, c2, c3, c4⟩ := HS9.out.cells
            go_wp2_with fail
            refine HIA.out.mono ?_
            rintro e wa ⟨rfl, hba⟩
            have HSA := Lib.hid (HS9.out.below hba)
            have HGA := Lib.hid (HGS.out _ HSA.out.bel A6 n6 c6 (HR9.out.2.below hba) (by omega))
            clear hba HIA HS9 c0 c1 c2 c3 c4
            obtain ⟨c0, c1, c2, c3, c4⟩ := HSA.out.cells
            go_wp2_with fail
            refine HGA.out.mono ?_
            rintro e wb ⟨rfl, hbb⟩
            have HBB := Lib.hid (below_tr HSA.out.bel hbb)
            clear hbb HGA
            go_wp2_with (go_at_call 18; refine (wakes_ok _).mono ?_; rintro e w9 ⟨rfl, hb9⟩)
            go_ret
            exact ⟨rfl, below_tr HBB.out hb9⟩
    · have hE0 : (E == 0) = false := by rw [beq_eq_false_iff_ne]; exact herr
      have hE1 : (E == E) = true := by simp
      have HER := Lib.hid herr
      clear herr
      go_enter Try.func8, Try.ntmps8
      go_wp2_with fail
      refine HTH.out.mono ?_
      rintro e w1 ⟨rfl, hb⟩
      have HS1 := Lib.hid (HS0.out.below hb)
      obtain ⟨c0, c1, c2, c3, c4⟩ := HS1.out.cells
      have HFT := Lib.hid (HFTW.out _ HS1.out.bel)
      clear hb HTH HS0
      go_wp2_with fail
      refine HFT.out.mono ?_
      rintro e w2 ⟨rfl, hb⟩
      have HS2 := Lib.hid (HS1.out.below hb)
      have HVL := Lib.hid (HVW.out _ HS2.out.bel)
      clear c0 c1 c2 c3 c4 hb HFT HS1
      obtain ⟨c0, c1, c2, c3, c4⟩ := HS2.out.cells
      go_wp2_with fail
      refine HVL.out.mono ?_
      rintro e w3 ⟨A1, d1, A2, d2, v', rfl, hv', hal, hb⟩
      have HS3 := Lib.hid (HS2.out.below hb)
      have HBD := Lib.hid (Buy_bad (pc := d1) (sc := d2) (B := B) hv' hpn hsn (by rw [hal.err, ← HE.out]; exact HER.out))
      rw [hal.err, ← HE.out] at HBD
      clear c0 c1 c2 c3 c4 hb hal hv' HVL HS2
      go_wp2_with fail
      refine HBD.out.mono ?_
      rintro e w4 ⟨rfl, hb⟩
      have HS4 := Lib.hid (HS3.out.below hb)
      obtain ⟨c0, c1, c2, c3, c4⟩ := HS4.out.cells
      have HVL := Lib.hid (HVW.out _ HS4.out.bel)
      clear hb HBD HS3
      go_wp2_with fail
      refine HVL.out.mono ?_
      rintro e w5 ⟨A3, d3, A4, d4, v'', rfl, hv', hal, hb⟩
      have HS5 := Lib.hid (HS4.out.below hb)
      have HPP := Lib.hid (Prove_no (pc := d3) (sc := d4) (B := B) (r := r) (t := t) hv' hpn hsn (.inl (by rw [hal.err, ← HE.out]; exact HER.out)))
      clear c0 c1 c2 c3 c4 hb hal hv' HVL HS4
      go_wp2_with fail
      refine HPP.out.mono ?_
      rintro e w6 ⟨rfl, hb⟩
      have HS6 := Lib.hid (HS5.out.below hb)
      obtain ⟨c0, c1, c2, c3, c4⟩ := HS6.out.cells
      have HFT := Lib.hid (HFTW.out _ HS6.out.bel)
      clear hb HPP HS5
      go_wp2_with fail
      refine HFT.out.mono ?_
      rintro e w7 ⟨rfl, hb⟩
      have HB7 := Lib.hid (below_tr HS6.out.bel hb)
      clear hb
      go_wp2_with (go_at_call 18; refine (wakes_ok _).mono ?_; rintro e w8 ⟨rfl, hb8⟩)
      go_ret
      exact ⟨rfl, below_tr HB7.out hb8⟩
end Go.Proofs.Ytphdndiikikecaa
