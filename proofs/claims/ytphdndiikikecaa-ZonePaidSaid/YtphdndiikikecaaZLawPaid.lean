/- THE WALK of ZonePaid. -/
import Derived.Test.YtphdndiikikecaaZLawPays
namespace Go.Proofs.Ytphdndiikikecaa
open Go.RowKit Go.Proofs
attribute [local go_sem ↓] Go.wp_at_zero Go.wp_at_succ

theorem mod_coins {c : Int} (hc : 0 ≤ c ∧ c ≤ 4294967295) : 0 ≤ c.tmod 100000001 ∧ c.tmod 100000001 ≤ 100000000 := by
  rw [Int.tmod_eq_emod_of_nonneg hc.1]
  have h2 := Int.emod_nonneg c (show (100000001 : Int) ≠ 0 by omega)
  have h3 := Int.emod_lt_of_pos c (show (0 : Int) < 100000001 by omega)
  omega

theorem tmod_nat (Y n : Nat) (m : Int) (h : (n : Int) = m) : (Y : Int).tmod m = ((Y % n : Nat) : Int) := by
  rw [← h, Int.tmod_eq_emod_of_nonneg (by omega)]; omega

set_option maxRecDepth 100000 in
set_option maxHeartbeats 4000000 in
theorem ZonePaid_w {v : Vly} {x8 y8 c : Int} {PA SA : Option Addr} {pn pc sn sc : Nat} {w : World} (h : RdV w PA pn SA sn v) (hpn : pn ≤ maxLen) (hsn : sn ≤ maxLen) (hx8 : 0 ≤ x8 ∧ x8 ≤ 255) (hy8 : 0 ≤ y8 ∧ y8 ≤ 255) (hc : 0 ≤ c ∧ c ≤ 4294967295) :
    Calls Try.prog 13 #[.agg #[.slice PA pn pc, .slice SA sn sc, .int .i64 v.s0, .int .i64 v.s1, .int .i64 v.s2], .int .u8 x8, .int .u8 y8, .int .u32 c] w fun e w' => e = .returned (.bool true) ∧ Below w.heap.size w w' := by
  have hlp := h.pars.len; have hls := h.sls.len
  have HS0 := Lib.hid (SW.new w (vA PA pn pc SA sn sc v))
  have HRY := Lib.hid (ready_c (pc := pc) (sc := sc) (h.below HS0.out.bel) hpn hsn)
  have HV := Lib.hid h
  cases hr : readyB v
  · rw [hr] at HRY
    clear h hr
    go_enter Try.func13, Try.ntmps13
    go_wp2_with fail
    refine HRY.out.mono ?_
    rintro e w1 ⟨rfl, hb⟩
    have HB1 := Lib.hid (below_tr HS0.out.bel hb)
    clear hb
    go_wp2_with (go_at_call 18; refine (wakes_ok _).mono ?_; rintro e w2 ⟨rfl, hb2⟩)
    go_ret
    exact ⟨rfl, below_tr HB1.out hb2⟩
  · rw [hr] at HRY
    obtain ⟨hth, hok⟩ := readyB_iff.1 hr
    have ht := thinB_iff.1 hth
    have hpn12 : pn ≤ 12 := by have := hok.pn; omega
    have hsn10 : sn ≤ 10 := by have := hok.sn; omega
    have HWY := Lib.hid (fun (s : Sli) (hs : s ∈ v.sls) => show s.way.length ≤ 1000 from by have := ht.1 s hs; omega)
    have HOK := Lib.hid hok
    by_cases hs0 : sn = 0
    · subst hs0
      clear h hr hok hth ht hlp hls
      go_enter Try.func13, Try.ntmps13
      go_wp2_with fail
      refine HRY.out.mono ?_
      rintro e w1 ⟨rfl, hb⟩
      have HS1 := Lib.hid (HS0.out.below hb)
      obtain ⟨c0, c1, c2, c3, c4⟩ := HS1.out.cells
      clear hb
      go_wp2_with (go_at_call 18; refine (wakes_ok _).mono ?_; rintro e w2 ⟨rfl, hb2⟩)
      go_ret
      exact ⟨rfl, below_tr HS1.out.bel hb2⟩
    · have hsp : 0 < sn := by omega
      obtain ⟨X, rfl⟩ : ∃ X : Nat, x8 = (X : Int) := ⟨x8.toNat, by omega⟩
      obtain ⟨Y, rfl⟩ : ∃ Y : Nat, y8 = (Y : Int) := ⟨y8.toNat, by omega⟩
      have hKm : (X : Int).tmod (sn : Int) = ((X % sn : Nat) : Int) := by rw [Int.tmod_eq_emod_of_nonneg (by omega)]; omega
      have hKl := Nat.mod_lt X hsp
      obtain ⟨K, hK⟩ : ∃ K, K = X % sn := ⟨_, rfl⟩
      rw [← hK] at hKm hKl
      obtain ⟨s, hs⟩ : ∃ s, v.sls[K]? = some s := ⟨_, List.getElem?_eq_getElem (by omega)⟩
      have hwy := h.way K s hs
      have hwl := hwy.1.len
      have hsl := hok.slide hs
      have hwn := wayTo_len hsl.1
      have hs12 : s.n ≤ 12 := by omega
      have hMm : (Y : Int).tmod ((s.n : Int) + 1) = ((Y % (s.n + 1) : Nat) : Int) := tmod_nat Y (s.n + 1) _ (by omega)
      have hMl := Nat.mod_lt Y (show 0 < s.n + 1 by omega)
      obtain ⟨M, hM⟩ : ∃ M, M = Y % (s.n + 1) := ⟨_, rfl⟩
      rw [← hM] at hMm hMl
      have hF0 := mod_coins hc
      obtain ⟨F, hF⟩ : ∃ F, F = c.tmod 100000001 := ⟨_, rfl⟩
      rw [← hF] at hF0
      have hfu : inB F 0 100000000 = true := inB_iff.2 hF0
      have hwc : IntKind.i64.wrap c = c := wi (by omega)
      have hwF : IntKind.i64.wrap F = F := wi (by omega)
      have hFm : c.tmod 100000001 = F := hF.symm
      have hwX : IntKind.i64.wrap (X : Int) = (X : Int) := wi (by omega)
      have hwY : IntKind.i64.wrap (Y : Int) = (Y : Int) := wi (by omega)
      have hwK : IntKind.i64.wrap (K : Int) = (K : Int) := wi (by omega)
      have hwM : IntKind.i64.wrap (M : Int) = (M : Int) := wi (by omega)
      have hks : (K : Int) < (sn : Int) := by omega
      have hk0 : (0 : Int) ≤ (K : Int) := by omega
      have hne1 : ¬ (sn : Int) = 0 := by omega
      have hne2 : ((sn : Int) == 0) = false := by rw [beq_eq_false_iff_ne]; exact hne1
      have hne3 : ¬ (s.n : Int) + 1 = 0 := by omega
      have hne4 : ((s.n : Int) + 1 == 0) = false := by rw [beq_eq_false_iff_ne]; exact hne3
      have HS := Lib.hid hs
      obtain ⟨D, hD⟩ : ∃ D, D = dueL v.pars (s.way.take M) := ⟨_, rfl⟩
      have HPY := Lib.hid (fun (v' : Vly) (PA SA : Option Addr) (p1 p2 : Nat) (W : World) (hal : VAlike v v') (hv : RdV W PA pn SA sn v') => Pay_okA (pc := p1) (sc := p2) (k := K) (M := M) (c := F) hok hal hv hs (by omega) hfu)
      simp only [← hD] at HPY
      have HDL := Lib.hid (show D.length = pn by rw [hD, dueL_len]; exact hlp)
      have HDB := Lib.hid (show ∀ x ∈ D, 0 ≤ x ∧ x ≤ 100000 from fun x hx => by rw [hD] at hx; exact dueL_bd hok x hx)
      have HDG := Lib.hid (fun (i : Nat) (p : Par) (hp : v.pars[i]? = some p) => show D[i]? = some (if p.ins = true ∧ (i : Int) ∈ s.way.take M then p.worth else 0) from by rw [hD]; exact dueL_get hp)
      obtain ⟨L, hL⟩ : ∃ L, L = paidL F D := ⟨_, rfl⟩
      have HLL := Lib.hid (show L.length = pn by rw [hL, paidL_len]; exact HDL.out)
      have HLB := Lib.hid (fun (i : Nat) (d l : Int) (hd : D[i]? = some d) (hl : L[i]? = some l) => paid_bd hF0.1 (fun x hx => (HDB.out x hx).1) hd (by rw [← hL]; exact hl))
      have HLS := Lib.hid (show sumL L = min (sumL D) F by rw [hL]; exact paid_sum hF0.1)
      rw [← hL] at HPY
      have HLP := Lib.hid hlp
      have hpos1 : (0 : Int) < (sn : Int) := by omega
      clear h hr hok hth ht hls hs hwy hwl hsl hwn hD hL hK hM hF hfu hlp hs0
      go_enter Try.func13, Try.ntmps13
      go_wp2_with fail
      refine HRY.out.mono ?_
      rintro e w1 ⟨rfl, hb⟩
      have HS1 := Lib.hid (HS0.out.below hb)
      obtain ⟨c0, c1, c2, c3, c4⟩ := HS1.out.cells
      have HVL := Lib.hid (Valley_c (pc := pc) (sc := sc) (HV.out.below HS1.out.bel) (by omega) (by omega) HWY.out)
      obtain ⟨b, o, x, hA, hblt, hx, h0, h1, h2, h3⟩ := (HV.out.sls.below HS1.out.bel).atS (show K < sn by omega)
      rw [HS.out] at hx; cases hx
      subst hA
      clear hb HRY HS0
      go_wp2_with fail
      refine HVL.out.mono ?_
      rintro e w2 ⟨A1, d1, A2, d2, v', rfl, hv', hal, hb⟩
      have HS2 := Lib.hid (HS1.out.below hb)
      have HPK := Lib.hid (HPY.out v' A1 A2 d1 d2 w2 hal hv')
      clear hb hal hv' HVL HS1 c0 c1 c2 c3 c4 h0 h1 h2 h3 HPY
      go_wp2_with fail
      refine HPK.out.mono ?_
      rintro e w3 ⟨A5, d5, rfl, hr5, hb⟩
      have HS3 := Lib.hid (HS2.out.below hb)
      have HR3 := Lib.hid hr5
      obtain ⟨c0, c1, c2, c3, c4⟩ := HS3.out.cells
      clear hb hr5 HPK HS2
      go_wp2_with fail
      have HDU := Lib.hid (fun i : Nat => show 0 ≤ sumL (D.take i) ∧ sumL (D.take i) ≤ 1200000 from by
        have h1 := sumL_bd (M := 100000) (l := D.take i) (by omega) (fun x hx => HDB.out x (List.mem_of_mem_take hx))
        have h2 : (D.take i).length ≤ 12 := by rw [List.length_take]; have := HDL.out; omega
        omega)
      go_loopw [14, 15, 16, 17] (fun u i _ _ wr => ∃ k : Nat, k ≤ pn ∧ i = .int .i64 k ∧ u = .int .i64 (sumL (D.take k)) ∧ Below w3.heap.size w3 wr) (fun _ i _ _ _ => pn - (intOf i).toNat)
      case atStart => exact ⟨0, Nat.zero_le _, rfl, rfl, Below.refl _ _⟩
      case round =>
        obtain ⟨k, hk, rfl, rfl, hb⟩ := hrel
        have HBr := Lib.hid hb
        have HS4 := Lib.hid (HS3.out.below hb)
        clear c0 c1 c2 c3 c4
        obtain ⟨c0, c1, c2, c3, c4⟩ := HS4.out.cells
        have hdu := HDU.out k
        by_cases hlt : k < pn
        · obtain ⟨bl, ol, l, hAl, hltl, hl, l0⟩ := (HR3.out.below hb).at1 hlt
          obtain ⟨bp, op, p, hAp, hltp, hp, p0, p1, p2, p3⟩ := (HV.out.pars.below HS4.out.bel).atP hlt
          obtain ⟨b, o, x, hA, hblt, hx, h0, h1, h2, h3⟩ := (HV.out.sls.below HS4.out.bel).atS (show K < sn by omega)
          rw [HS.out] at hx; cases hx
          cases hA
          subst hAl hAp
          have hwd := ((HV.out.below HS4.out.bel).way K s HS.out).1
          have hdg := HDG.out k p hp
          have hsum := sumL_succ hdg
          have hlb := HLB.out k _ l hdg hl
          have hdb := HDB.out _ (List.mem_of_getElem? hdg)
          have hdu1 := HDU.out (k + 1)
          obtain ⟨E, hE⟩ : ∃ E : Nat → Int, E = fun q => if p.ins = true ∧ (k : Int) ∈ s.way.take q then p.worth else 0 := ⟨_, rfl⟩
          have hEM : E M = if p.ins = true ∧ (k : Int) ∈ s.way.take M then p.worth else 0 := by rw [hE]
          rw [← hEM] at hsum hlb hdb
          have hE0 : E 0 = 0 := by rw [hE]; simp
          have HE0 := Lib.hid hE0
          have HES := Lib.hid (fun (q : Nat) (y : Int) (hy : s.way[q]? = some y) => show (y = (k : Int) → p.ins = true → E (q + 1) = p.worth) ∧ (¬ (y = (k : Int) ∧ p.ins = true) → E (q + 1) = E q) from by
            rw [hE]
            simp only [List.take_add_one, hy, Option.toList_some, List.mem_append, List.mem_singleton]
            refine ⟨fun h1 h2 => by rw [if_pos ⟨h2, .inr h1.symm⟩], fun h1 => ?_⟩
            by_cases hi : p.ins = true
            · have : ¬ (k : Int) = y := fun e => h1 ⟨e.symm, hi⟩
              simp [hi, this]
            · simp [hi])
          obtain ⟨Z, hZ⟩ : ∃ Z, Z = sumL (D.take k) := ⟨_, rfl⟩
          rw [← hZ] at hsum hdu ⊢
          rw [hsum] at hdu1
          have HSU := Lib.hid hsum
          have HWD := Lib.hid hwd
          have hkn : (k : Int) < (pn : Int) := by omega
          have hk00 : (0 : Int) ≤ (k : Int) := by omega
          have HP := Lib.hid hp
          clear hb hsum hwd hdg hp hl hZ hE hEM hE0
          obtain ⟨wo, rfl⟩ : ∃ wo : World, wo = wr := ⟨_, rfl⟩
          go_wp2_with fail
          go_loopw [16, 17] (fun m j wt => ∃ q : Nat, q ≤ M ∧ j = .int .i64 q ∧ m = .int .i64 (E q) ∧ wt = wo) (fun _ j _ => M - (intOf j).toNat)
          case atStart => exact ⟨0, Nat.zero_le _, rfl, by rw [HE0.out], rfl⟩
          case round =>
            obtain ⟨q, hq, rfl, rfl, rfl⟩ := hrel
            by_cases hlt2 : q < M
            · obtain ⟨bw, ow, y, hAw, hltw, hy, y0⟩ := HWD.out.at1 (show q < s.n by omega)
              have hes := HES.out q y hy
              have hqM : (q : Int) < (M : Int) := by omega
              have hqn : (q : Int) < (s.n : Int) := by omega
              have hq0 : (0 : Int) ≤ (q : Int) := by omega
              have h0' := h0
              rw [hAw] at h0'
              clear h0 hy
              by_cases hyk : y = (k : Int)
              · subst hyk
                cases hins : p.ins
                · have hEQ := Lib.hid (hes.2 (by rw [hins]; simp))
                  rw [hins] at p3
                  clear hes hins
                  go_wp2_with fail
                  go_roundw
                  case rel => exact ⟨q + 1, by omega, by go_num, by rw [hEQ.out], by first | rfl | trivial⟩
                  case measure => simp [intOf] <;> omega
                · have hEQ := Lib.hid (hes.1 rfl hins)
                  rw [hins] at p3
                  clear hes hins
                  go_wp2_with fail
                  go_roundw
                  case rel => exact ⟨q + 1, by omega, by go_num, by rw [hEQ.out], by first | rfl | trivial⟩
                  case measure => simp [intOf] <;> omega
              · have hEQ := Lib.hid (hes.2 (fun hh => hyk hh.1))
                have hyd : (y == (k : Int)) = false := by rw [beq_eq_false_iff_ne]; exact hyk
                clear hes hyk
                go_wp2_with fail
                go_roundw
                case rel => exact ⟨q + 1, by omega, by go_num, by rw [hEQ.out], by first | rfl | trivial⟩
                case measure => simp [intOf] <;> omega
            · obtain rfl : q = M := by omega
              obtain ⟨d, hd⟩ : ∃ d, d = E q := ⟨_, rfl⟩
              rw [← hd] at HSU hlb hdb hdu1 ⊢
              have n1 : decide (l < 0) = false := decide_eq_false (by omega)
              have n2 : decide (d < l) = false := decide_eq_false (by omega)
              have hwz : IntKind.i64.wrap (Z + d) = Z + d := wi (by omega)
              clear hd
              go_wp2_with fail
              go_roundw
              case rel => exact ⟨k + 1, by omega, by go_num, by rw [HSU.out], HBr.out⟩
              case measure => simp [intOf] <;> omega
        · obtain rfl : k = pn := by omega
          have hT : D.take k = D := List.take_of_length_le (by have := HDL.out; omega)
          rw [hT] at hdu ⊢
          have HR4 := Lib.hid (HR3.out.below hb)
          have HSM := Lib.hid (rsum_c (c := d5) HR4.out (by omega) (SumOk.of (M := 100000) (by omega) (fun x hx => by
            obtain ⟨i, hi⟩ := List.getElem?_of_mem hx
            have hil := lt_of_get hi
            have hg := List.getElem?_eq_getElem (show i < D.length by rw [HDL.out, ← HLL.out]; exact hil)
            have h1 := HLB.out i _ _ hg hi
            have h2 := HDB.out _ (List.mem_of_getElem? hg)
            omega) (by have := HLL.out; omega)))
          rw [HLS.out] at HSM
          have HB4 := Lib.hid HS4.out.bel
          obtain ⟨Z, hZ⟩ : ∃ Z, Z = sumL D := ⟨_, rfl⟩
          rw [← hZ] at HSM hdu ⊢
          clear hb hT hZ
          go_wp2_with (first
            | (go_at_call 27; refine HSM.out.mono ?_; rintro e w5 ⟨rfl, rfl⟩)
            | (go_at_call 18; refine (wakes_ok _).mono ?_; rintro e w8 ⟨rfl, hb8⟩))
          go_ret
          exact ⟨rfl, below_tr HB4.out hb8⟩
end Go.Proofs.Ytphdndiikikecaa
