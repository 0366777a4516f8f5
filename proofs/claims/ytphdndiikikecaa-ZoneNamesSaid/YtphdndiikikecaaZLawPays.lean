/- THE WALK of ZonePays. -/
import Derived.Test.YtphdndiikikecaaZRPay
set_option linter.unusedVariables false
set_option linter.unusedSimpArgs false
namespace Go.Proofs.Ytphdndiikikecaa
open Go.RowKit Go.Proofs
attribute [local go_sem ↓] Go.wp_at_zero Go.wp_at_succ

theorem Pay_okA {v v' : Vly} {PA SA : Option Addr} {pn pc sn sc : Nat} {k M : Nat} {c : Int} {s : Sli} {w : World} (hok : VOk v) (hal : VAlike v v') (h : RdV w PA pn SA sn v') (hs : v.sls[k]? = some s) (hM : M ≤ s.way.length) (hf : inB c 0 100000000 = true) :
    Calls Try.prog 44 #[.agg #[.slice PA pn pc, .slice SA sn sc, .int .i64 v'.s0, .int .i64 v'.s1, .int .i64 v'.s2], .int .i64 (k : Int), .int .i64 (M : Int), .int .i64 c] w
      fun e w' => ∃ A d, e = .returned (.tuple #[.slice A pn d, .int .i64 0]) ∧ Rd enc1 1 w' A pn (paidL c (dueL v.pars (s.way.take M))) ∧ Below w.heap.size w w' := by
  obtain ⟨s', hs', hc⟩ := core_get hal.sls hs
  simp only [core, Prod.mk.injEq] at hc
  have hw := (h.way k s' hs').1.len
  have := Pay_ok (pc := pc) (sc := sc) (k := k) (M := M) (c := c) h (hal.ok hok) hs' (by rw [← hw, hc.1]; exact hM) hf
  rw [hal.pars, hc.1] at this
  exact this
theorem Pay_argA {v v' : Vly} {PA SA : Option Addr} {pn pc sn sc : Nat} {k m c : Int} {w : World} (hok : VOk v) (hal : VAlike v v') (h : RdV w PA pn SA sn v')
    (hno : inB k 0 ((sn : Int) - 1) = false ∨ ∃ (K : Nat) (s : Sli), k = (K : Int) ∧ v.sls[K]? = some s ∧ (inB m 0 (s.way.length : Int) = false ∨ inB c 0 100000000 = false)) :
    Calls Try.prog 44 #[.agg #[.slice PA pn pc, .slice SA sn sc, .int .i64 v'.s0, .int .i64 v'.s1, .int .i64 v'.s2], .int .i64 k, .int .i64 m, .int .i64 c] w
      fun e w' => e = .returned (.tuple #[.slice none 0 0, .int .i64 2]) ∧ Below w.heap.size w w' := by
  refine Pay_arg (pc := pc) (sc := sc) h (hal.ok hok) ?_
  rcases hno with hno | ⟨K, s, rfl, hs, hno⟩
  · exact .inl hno
  · obtain ⟨s', hs', hc⟩ := core_get hal.sls hs
    simp only [core, Prod.mk.injEq] at hc
    have hw := (h.way K s' hs').1.len
    exact .inr ⟨K, s', rfl, hs', by rw [← hw, hc.1]; exact hno⟩

set_option maxRecDepth 100000 in
set_option maxHeartbeats 4000000 in
theorem ZonePays_w {v : Vly} {k m c : Int} {PA SA : Option Addr} {pn pc sn sc : Nat} {w : World} (h : RdV w PA pn SA sn v) (hpn : pn ≤ maxLen) (hsn : sn ≤ maxLen) :
    Calls Try.prog 12 #[.agg #[.slice PA pn pc, .slice SA sn sc, .int .i64 v.s0, .int .i64 v.s1, .int .i64 v.s2], .int .i64 k, .int .i64 m, .int .i64 c] w fun e w' => e = .returned (.bool true) ∧ Below w.heap.size w w' := by
  have hlp := h.pars.len; have hls := h.sls.len
  have HS0 := Lib.hid (SW.new w (vA PA pn pc SA sn sc v))
  have HTH := Lib.hid (Thin_c (pc := pc) (sc := sc) (h.below HS0.out.bel) hsn)
  have HV := Lib.hid h
  cases hth : thinB v
  · rw [hth] at HTH
    clear h hth
    go_enter Try.func12, Try.ntmps12
    go_wp2_with fail
    refine HTH.out.mono ?_
    rintro e w1 ⟨rfl, hb⟩
    have HB1 := Lib.hid (below_tr HS0.out.bel hb)
    clear hb
    go_wp2_with (go_at_call 18; refine (wakes_ok _).mono ?_; rintro e w2 ⟨rfl, hb2⟩)
    go_ret
    exact ⟨rfl, below_tr HB1.out hb2⟩
  · rw [hth] at HTH
    have ht := thinB_iff.1 hth
    have hpn15 : pn ≤ 15 := by omega
    have hsn12 : sn ≤ 12 := by omega
    have HWY := Lib.hid (fun (s : Sli) (hs : s ∈ v.sls) => show s.way.length ≤ 1000 from by have := ht.1 s hs; omega)
    have HLS := Lib.hid hls
    clear h hth ht
    go_enter Try.func12, Try.ntmps12
    go_wp2_with fail
    refine HTH.out.mono ?_
    rintro e w1 ⟨rfl, hb⟩
    have HS1 := Lib.hid (HS0.out.below hb)
    obtain ⟨c0, c1, c2, c3, c4⟩ := HS1.out.cells
    have HVL := Lib.hid (Valley_c (pc := pc) (sc := sc) (HV.out.below HS1.out.bel) (by omega) (by omega) HWY.out)
    clear hb HTH HS0
    go_wp2_with fail
    refine HVL.out.mono ?_
    rintro e w2 ⟨A1, d1, A2, d2, v', rfl, hv', hal, hb⟩
    have HS2 := Lib.hid (HS1.out.below hb)
    have HV2 := Lib.hid hv'; have HAL := Lib.hid hal
    clear c0 c1 c2 c3 c4 hb hal hv' HVL HS1
    have HFTW := Lib.hid (fun W (hW : Below w.heap.size w W) => fault_c (pc := pc) (sc := sc) (HV.out.below hW) (by unfold maxLen; omega) (by unfold maxLen; omega))
    obtain ⟨E, hE⟩ : ∃ E, E = errV v := ⟨_, rfl⟩
    rw [← hE] at HFTW
    have HE := Lib.hid hE
    clear hE
    by_cases herr : E = 0
    · subst herr
      have hok : VOk v := errV_zero.1 HE.out.symm
      have HOK := Lib.hid hok
      have hsn10 : sn ≤ 10 := by have := hok.sn; omega
      have hwsn : IntKind.i64.wrap ((sn : Int) - 1) = (sn : Int) - 1 := wi (by omega)
      clear hok
      have HIN1 := Lib.hid (fun W => In_c k 0 ((sn : Int) - 1) W)
      have HIN3 := Lib.hid (fun W => In_c c 0 100000000 W)
      cases hin1 : inB k 0 ((sn : Int) - 1)
      · simp only [hin1] at HIN1
        have HBD := Lib.hid (Pay_argA (pc := d1) (sc := d2) (k := k) (m := m) (c := c) HOK.out HAL.out HV2.out (.inl hin1))
        clear hin1
        go_wp2_with fail
        refine HBD.out.mono ?_
        rintro e w6 ⟨rfl, hb⟩
        have HS6 := Lib.hid (HS2.out.below hb)
        obtain ⟨c0, c1, c2, c3, c4⟩ := HS6.out.cells
        have HFT := Lib.hid (HFTW.out _ HS6.out.bel)
        clear hb HBD HS2
        go_wp2_with fail
        refine HFT.out.mono ?_
        rintro e w7 ⟨rfl, hb⟩
        have HS7 := Lib.hid (HS6.out.below hb)
        have HB7 := Lib.hid HS7.out.bel
        clear hb HFT HS6 c0 c1 c2 c3 c4
        obtain ⟨c0, c1, c2, c3, c4⟩ := HS7.out.cells
        go_wp2_with (first
          | (go_at_call 26; refine (HIN1.out _).mono ?_; rintro e w8 ⟨rfl, rfl⟩)
          | (go_at_call 18; refine (wakes_ok _).mono ?_; rintro e w8 ⟨rfl, hb8⟩))
        go_ret
        exact ⟨rfl, below_tr HB7.out hb8⟩
      · simp only [hin1] at HIN1
        have h1 := inB_iff.1 hin1
        obtain ⟨K, rfl⟩ : ∃ K : Nat, k = (K : Int) := ⟨k.toNat, by omega⟩
        obtain ⟨s, hs⟩ : ∃ s, v.sls[K]? = some s := ⟨_, List.getElem?_eq_getElem (by have := HLS.out; omega)⟩
        have HS := Lib.hid hs
        have hks : (K : Int) < (sn : Int) := by omega
        have hk0 : (0 : Int) ≤ (K : Int) := by omega
        have HIN2 := Lib.hid (fun W => In_c m 0 (s.n : Int) W)
        have hwn : s.way.length = s.n := (HV.out.way K s hs).1.len
        clear hin1 h1
        by_cases hbad : inB m 0 (s.n : Int) = false ∨ inB c 0 100000000 = false
        · have HBD := Lib.hid (Pay_argA (pc := d1) (sc := d2) (k := (K : Int)) (m := m) (c := c) HOK.out HAL.out HV2.out (.inr ⟨K, s, rfl, hs, by rw [hwn]; exact hbad⟩))
          clear hs hwn
          have hb3 : inB m 0 (s.n : Int) = false ∨ (inB m 0 (s.n : Int) = true ∧ inB c 0 100000000 = false) := by
            cases hm : inB m 0 (s.n : Int)
            · exact .inl rfl
            · exact .inr ⟨rfl, hbad.resolve_left (by rw [hm]; simp)⟩
          clear hbad
          go_wp2_with fail
          refine HBD.out.mono ?_
          rintro e w6 ⟨rfl, hb⟩
          have HS6 := Lib.hid (HS2.out.below hb)
          obtain ⟨c0, c1, c2, c3, c4⟩ := HS6.out.cells
          have HFT := Lib.hid (HFTW.out _ HS6.out.bel)
          clear hb HBD HS2
          go_wp2_with fail
          refine HFT.out.mono ?_
          rintro e w7 ⟨rfl, hb⟩
          have HS7 := Lib.hid (HS6.out.below hb)
          have HB7 := Lib.hid HS7.out.bel
          clear hb HFT HS6 c0 c1 c2 c3 c4
          obtain ⟨c0, c1, c2, c3, c4⟩ := HS7.out.cells
          obtain ⟨b, o, x, hA, hblt, hx, h0, h1, h2, h3⟩ := (HV.out.sls.below HB7.out).atS (show K < sn by omega)
          rw [HS.out] at hx; cases hx
          subst hA
          rcases hb3 with hm | ⟨hm, hc⟩
          · simp only [hm] at HIN2
            clear hm
            go_wp2_with (first
              | (go_at_call 26; (first | with_reducible refine (HIN1.out _).mono ?_ | with_reducible refine (HIN2.out _).mono ?_); rintro e w8 ⟨rfl, rfl⟩)
              | (go_at_call 18; refine (wakes_ok _).mono ?_; rintro e w8 ⟨rfl, hb8⟩))
            go_ret
            exact ⟨rfl, below_tr HB7.out hb8⟩
          · simp only [hm] at HIN2
            simp only [hc] at HIN3
            clear hm hc
            go_wp2_with (first
              | (go_at_call 26; (first | with_reducible refine (HIN1.out _).mono ?_ | with_reducible refine (HIN2.out _).mono ?_ | with_reducible refine (HIN3.out _).mono ?_); rintro e w8 ⟨rfl, rfl⟩)
              | (go_at_call 18; refine (wakes_ok _).mono ?_; rintro e w8 ⟨rfl, hb8⟩))
            go_ret
            exact ⟨rfl, below_tr HB7.out hb8⟩
        · have hm : inB m 0 (s.n : Int) = true := by
            cases hm : inB m 0 (s.n : Int)
            · exact absurd (.inl hm) hbad
            · rfl
          have hc : inB c 0 100000000 = true := by
            cases hc : inB c 0 100000000
            · exact absurd (.inr hc) hbad
            · rfl
          have hmb := inB_iff.1 hm
          have hcb := inB_iff.1 hc
          obtain ⟨M, rfl⟩ : ∃ M : Nat, m = (M : Int) := ⟨m.toNat, by omega⟩
          have HPK := Lib.hid (Pay_okA (pc := d1) (sc := d2) (k := K) (M := M) (c := c) HOK.out HAL.out HV2.out hs (by omega) hc)
          have HRP := Lib.hid (fun W (hW : Below w.heap.size w W) => rPay_c (pc := pc) (sc := sc) (q := K) (M := M) (c := c) HOK.out (HV.out.below hW) hs (by omega) hcb)
          have HPN := Lib.hid (show (paidL c (dueL v.pars (s.way.take M))).length = pn by rw [paidL_len, dueL_len]; exact hlp)
          obtain ⟨L, hL⟩ : ∃ L, L = paidL c (dueL v.pars (s.way.take M)) := ⟨_, rfl⟩
          rw [← hL] at HPK HPN
          simp only [← hL] at HRP
          simp only [hm] at HIN2
          simp only [hc] at HIN3
          clear hs hwn hbad hm hc hmb hL
          go_wp2_with fail
          refine HPK.out.mono ?_
          rintro e w6 ⟨A5, d5, rfl, hr5, hb⟩
          have HS6 := Lib.hid (HS2.out.below hb)
          have HR6 := Lib.hid hr5
          obtain ⟨c0, c1, c2, c3, c4⟩ := HS6.out.cells
          have HFT := Lib.hid (HFTW.out _ HS6.out.bel)
          clear hb hr5 HPK HS2
          go_wp2_with fail
          refine HFT.out.mono ?_
          rintro e w7 ⟨rfl, hb⟩
          have HS7 := Lib.hid (HS6.out.below hb)
          have HB7 := Lib.hid HS7.out.bel
          have HR7 := Lib.hid (HR6.out.below hb)
          clear hb HFT HS6 HR6 c0 c1 c2 c3 c4
          obtain ⟨c0, c1, c2, c3, c4⟩ := HS7.out.cells
          obtain ⟨b, o, x, hA, hblt, hx, h0, h1, h2, h3⟩ := (HV.out.sls.below HB7.out).atS (show K < sn by omega)
          rw [HS.out] at hx; cases hx
          subst hA
          go_wp2_with (go_at_call 26; (first | with_reducible refine (HIN1.out _).mono ?_ | with_reducible refine (HIN2.out _).mono ?_ | with_reducible refine (HIN3.out _).mono ?_); rintro e w8 ⟨rfl, rfl⟩)
          refine (HRP.out _ HB7.out).mono ?_
          rintro e w8 ⟨A6, d6, rfl, hr6, hb⟩
          have HB8 := Lib.hid (below_tr HB7.out hb)
          have HIA := Lib.hid (ints_c (c := d5) (c' := d6) (HR7.out.below hb) hr6 (by omega))
          rw [decide_eq_true rfl] at HIA
          clear hb hr6 h0 h1 h2 h3 c0 c1 c2 c3 c4
          go_wp2_with fail
          refine HIA.out.mono ?_
          rintro e wa ⟨rfl, hba⟩
          have HBA := Lib.hid (below_tr HB8.out hba)
          clear hba HIA
          go_wp2_with (go_at_call 18; refine (wakes_ok _).mono ?_; rintro e w9 ⟨rfl, hb9⟩)
          go_ret
          exact ⟨rfl, below_tr HBA.out hb9⟩
    · have HBD := Lib.hid (Pay_bad (pc := d1) (sc := d2) (k := k) (m := m) (c := c) HV2.out (by unfold maxLen; omega) (by unfold maxLen; omega) (by rw [HAL.out.err, ← HE.out]; exact herr))
      rw [HAL.out.err, ← HE.out] at HBD
      have hE0 : (E == 0) = false := by rw [beq_eq_false_iff_ne]; exact herr
      have hE1 : (E == E) = true := by simp
      clear herr
      go_wp2_with fail
      refine HBD.out.mono ?_
      rintro e w6 ⟨rfl, hb⟩
      have HS6 := Lib.hid (HS2.out.below hb)
      obtain ⟨c0, c1, c2, c3, c4⟩ := HS6.out.cells
      have HFT := Lib.hid (HFTW.out _ HS6.out.bel)
      clear hb HBD HS2
      go_wp2_with fail
      refine HFT.out.mono ?_
      rintro e w7 ⟨rfl, hb⟩
      have HB7 := Lib.hid (below_tr HS6.out.bel hb)
      clear hb HFT
      go_wp2_with (go_at_call 18; refine (wakes_ok _).mono ?_; rintro e w8 ⟨rfl, hb8⟩)
      go_ret
      exact ⟨rfl, below_tr HB7.out hb8⟩
end Go.Proofs.Ytphdndiikikecaa
