/- THE CONTRACTS of zone.Danger. -/
import Derived.Test.YtphdndiikikecaaZFits
set_option linter.unusedVariables false
set_option linter.unusedSimpArgs false
namespace Go.Proofs.Ytphdndiikikecaa
open Go.RowKit Go.Proofs
attribute [local go_sem ↓] Go.wp_at_zero Go.wp_at_succ

set_option maxRecDepth 100000 in
theorem has_c (n lo hi : Int) (w : World) :
    Calls Try.prog 76 #[.agg #[.int .i64 lo, .int .i64 hi], .int .i64 n] w fun e w' => e = .returned (.bool (inB n lo hi)) ∧ Below w.heap.size w w' := by
  go_enter Try.func76, Try.ntmps76
  go_wp2_with (go_at_call 69; refine (within_c _ _ _ _).mono ?_; rintro e w' ⟨rfl, rfl⟩)
  go_ret
  exact ⟨rfl, (Below.refl _ _).alloc (Nat.le_refl _) _⟩

set_option maxRecDepth 100000 in
set_option maxHeartbeats 400000 in
theorem Danger_bad {v : Vly} {PA SA TA : Option Addr} {pn pc sn sc tn tc : Nat} {w : World} (h : RdV w PA pn SA sn v) (hpn : pn ≤ maxLen) (hsn : sn ≤ maxLen) (hbad : errV v ≠ 0) :
    Calls Try.prog 41 #[.agg #[.slice PA pn pc, .slice SA sn sc, .int .i64 v.s0, .int .i64 v.s1, .int .i64 v.s2], .slice TA tn tc] w
      fun e w' => e = .returned (.tuple #[.slice none 0 0, .slice none 0 0, .int .i64 (errV v)]) ∧ Below w.heap.size w w' := by
  have hne : (errV v == 0) = false := by simpa using hbad
  have hb0 : Below w.heap.size w (w.alloc (.cells (vA PA pn pc SA sn sc v) 36)) := (Below.refl _ w).alloc (Nat.le_refl _) _
  have HC := Lib.hid (checkV_c (pc := pc) (sc := sc) (h.below hb0) hpn hsn)
  obtain ⟨E, hE⟩ : ∃ E, E = errV v := ⟨_, rfl⟩
  rw [← hE] at HC hne hbad ⊢
  have HB := Lib.hid hb0
  clear h hE hb0
  go_enter Try.func41, Try.ntmps41
  go_wp2_with fail
  refine HC.out.mono ?_
  rintro e w2 ⟨rfl, hb⟩
  have HB2 := Lib.hid (below_tr HB.out hb)
  clear hb
  go_wp2_with fail
  go_ret3
  exact ⟨rfl, HB2.out⟩

set_option maxRecDepth 100000 in
set_option maxHeartbeats 4000000 in
theorem Danger_not {v : Vly} {tr : List Int} {PA SA TA : Option Addr} {pn pc sn sc tn tc : Nat} {w : World} (h : RdV w PA pn SA sn v) (hok : VOk v) (hT : Rd enc1 1 w TA tn tr) (htn : tn ≤ maxLen) (hnf : ¬ Fits v tr) :
    Calls Try.prog 41 #[.agg #[.slice PA pn pc, .slice SA sn sc, .int .i64 v.s0, .int .i64 v.s1, .int .i64 v.s2], .slice TA tn tc] w
      fun e w' => e = .returned (.tuple #[.slice none 0 0, .slice none 0 0, .int .i64 2]) ∧ Below w.heap.size w w' := by
  have hlp := h.pars.len; have hls := h.sls.len; have htl := hT.len
  have hpn := hok.pn; have hsn := hok.sn
  have hb0 : Below w.heap.size w (w.alloc (.cells (vA PA pn pc SA sn sc v) 36)) := (Below.refl _ w).alloc (Nat.le_refl _) _
  have HC := Lib.hid (checkV_c (pc := pc) (sc := sc) (h.below hb0) (by unfold maxLen; omega) (by unfold maxLen; omega))
  rw [errV_zero.2 hok] at HC
  have HB := Lib.hid hb0
  have HX := Lib.hid (Blk.new w 36 (vA PA pn pc SA sn sc v))
  have HV := Lib.hid h; have HT := Lib.hid hT; have HNF := Lib.hid hnf
  unfold maxLen at htn
  by_cases hlen : tn = sn
  · subst hlen
    have HL := Lib.hid (show tr.length = v.sls.length by omega)
    have HLS := Lib.hid hls
    clear h hb0 hok hT hnf hlp hls htl
    go_enter Try.func41, Try.ntmps41
    go_wp2_with fail
    refine HC.out.mono ?_
    rintro e w2 ⟨rfl, hb⟩
    have hx2 := HX.out.below hb (by simp)
    have HX2 := Lib.hid hx2
    have HB2 := Lib.hid (below_tr HB.out hb)
    have c1 := hx2.cell 1
    simp at c1
    clear hb hx2
    go_wp2_with fail
    go_loopw [23] (fun i wr => ∃ k : Nat, k ≤ tn ∧ i = .int .i64 k ∧ fitTo v tr k ∧ Below w2.heap.size w2 wr) (fun i _ => tn - (intOf i).toNat)
    case atStart => exact ⟨0, Nat.zero_le _, rfl, (fun j s m hj => by omega), Below.refl _ _⟩
    case round =>
      obtain ⟨k, hk, rfl, hft, hb⟩ := hrel
      have HBR := Lib.hid hb; have HF := Lib.hid hft
      have hbx := HX2.out.below hb HX2.out.lt
      have c1 := hbx.cell 1
      simp at c1
      by_cases hlt : k < tn
      · obtain ⟨b, o, x, hA, hblt, hx, h0, h1, h2, h3⟩ := (HV.out.sls.below (below_tr HB2.out hb)).atS hlt
        obtain ⟨b', o', m, hA', hblt', hm, h4⟩ := (HT.out.below (below_tr HB2.out hb)).at1 hlt
        subst hA hA'
        have hkn : (k : Int) < (tn : Int) := by omega
        have hk0 : (0 : Int) ≤ (k : Int) := by omega
        have HIN := Lib.hid (fun W => has_c m x.lo x.hi W)
        have HSX := Lib.hid hx; have HSM := Lib.hid hm
        clear hx hm hbx hb hft
        cases hin : inB m x.lo x.hi
        · simp only [hin] at HIN
          clear hin
          go_wp2_with (go_at_call 76; refine (HIN.out _).mono ?_; rintro e w5 ⟨rfl, hb5⟩)
          go_ret3
          exact ⟨rfl, below_tr (below_tr HB2.out HBR.out) hb5⟩
        · simp only [hin] at HIN
          have HNX := Lib.hid (fitTo_succ HF.out HSX.out HSM.out (inB_iff.1 hin))
          clear hin
          go_wp2_with (go_at_call 76; refine (HIN.out _).mono ?_; rintro e w5 ⟨rfl, hb5⟩)
          go_roundw
          case rel => exact ⟨k + 1, by omega, by go_num, HNX.out, below_tr HBR.out hb5⟩
          case measure => simp [intOf] <;> omega
      · obtain rfl : k = tn := by omega
        exact absurd (fitTo_all HL.out (by rw [HLS.out]; exact hft)) HNF.out
  · have hne : ¬ (tn : Int) = (sn : Int) := by omega
    have hne2 : ((tn : Int) == (sn : Int)) = false := by rw [beq_eq_false_iff_ne]; omega
    clear h hb0 hok hT hnf hlp hls htl
    go_enter Try.func41, Try.ntmps41
    go_wp2_with fail
    refine HC.out.mono ?_
    rintro e w2 ⟨rfl, hb⟩
    have hx2 := HX.out.below hb (by simp)
    have HB2 := Lib.hid (below_tr HB.out hb)
    have c1 := hx2.cell 1
    simp at c1
    clear hb hx2
    go_wp2_with fail
    go_ret3
    exact ⟨rfl, HB2.out⟩

set_option maxRecDepth 100000 in
set_option maxHeartbeats 4000000 in
theorem DangerZ_c {v : Vly} {tr : List Int} {PA SA TA : Option Addr} {pn pc sn sc tn tc : Nat} {w : World} (h : RdV w PA pn SA sn v) (hok : VOk v) (hT : Rd enc1 1 w TA tn tr) (hf : Fits v tr) :
    Calls Try.prog 41 #[.agg #[.slice PA pn pc, .slice SA sn sc, .int .i64 v.s0, .int .i64 v.s1, .int .i64 v.s2], .slice TA tn tc] w
      fun e w' => ∃ A1 c1 A2 c2, e = .returned (.tuple #[.slice A1 pn c1, .slice A2 pn c2, .int .i64 0]) ∧ Rd enc1 1 w' A1 pn (dangs v tr) ∧ Rd enc1 1 w' A2 pn ((dangs v tr).map (zoneOf v)) ∧ Below w.heap.size w w' := by
  have hlp := h.pars.len; have hls := h.sls.len; have htl := hT.len
  have hpn := hok.pn; have hsn := hok.sn
  obtain rfl : tn = sn := by have := hf.1; omega
  have hb0 : Below w.heap.size w (w.alloc (.cells (vA PA pn pc SA tn sc v) 36)) := (Below.refl _ w).alloc (Nat.le_refl _) _
  have HC := Lib.hid (checkV_c (pc := pc) (sc := sc) (h.below hb0) (by unfold maxLen; omega) (by unfold maxLen; omega))
  rw [errV_zero.2 hok] at HC
  have HB := Lib.hid hb0
  have HX := Lib.hid (Blk.new w 36 (vA PA pn pc SA tn sc v))
  have HV := Lib.hid h; have HT := Lib.hid hT; have HF := Lib.hid hf; have HOK := Lib.hid hok
  have hlD : (dangs v tr).length = pn := by rw [dangs_len, hlp]
  have HLD := Lib.hid hlD
  have htn10 : tn ≤ 10 := by omega
  have hpn12 : pn ≤ 12 := by omega
  clear h hb0 hok hT hf hlp hls htl hlD
  go_enter Try.func41, Try.ntmps41
  go_wp2_with fail
  refine HC.out.mono ?_
  rintro e w2 ⟨rfl, hb⟩
  have HX2 := Lib.hid (HX.out.below hb (by simp))
  have HB2 := Lib.hid (below_tr HB.out hb)
  have HS2 := Lib.hid (show SV w2 w.heap.size (vA PA pn pc SA tn sc v) w2 from ⟨Below.refl _ _, HX2.out⟩)
  obtain ⟨c0, c1, c2, c3, c4⟩ := HS2.out.cells
  clear hb HC HX
  go_wp2_with fail
  go_loopw [23] (fun i wr => ∃ k : Nat, k ≤ tn ∧ i = .int .i64 k ∧ Below w2.heap.size w2 wr) (fun i _ => tn - (intOf i).toNat)
  case atStart => exact ⟨0, Nat.zero_le _, rfl, Below.refl _ _⟩
  case round =>
    obtain ⟨k, hk, rfl, hb⟩ := hrel
    have HBR := Lib.hid hb
    have HS3 := Lib.hid (HS2.out.below hb)
    obtain ⟨c0, c1, c2, c3, c4⟩ := HS3.out.cells
    by_cases hlt : k < tn
    · obtain ⟨b, o, x, hA, hblt, hx, h0, h1, h2, h3⟩ := (HV.out.sls.below (below_tr HB2.out hb)).atS hlt
      obtain ⟨b', o', m, hA', hblt', hm, h4⟩ := (HT.out.below (below_tr HB2.out hb)).at1 hlt
      subst hA hA'
      have hkn : (k : Int) < (tn : Int) := by omega
      have hk0 : (0 : Int) ≤ (k : Int) := by omega
      have hin : inB m x.lo x.hi = true := inB_iff.2 (HF.out.2 k x m hx hm)
      have HIN := Lib.hid (fun W => has_c m x.lo x.hi W)
      simp only [hin] at HIN
      clear hx hm hb hin
      go_wp2_with (go_at_call 76; refine (HIN.out _).mono ?_; rintro e w5 ⟨rfl, hb5⟩)
      go_roundw
      case rel => exact ⟨k + 1, by omega, by go_num, below_tr HBR.out hb5⟩
      case measure => simp [intOf] <;> omega
    · obtain rfl : k = tn := by omega
      have HDG := Lib.hid (dangers_c (pc := pc) (sc := sc) (tc := tc) HOK.out HF.out (HV.out.below (below_tr HB2.out hb)) (HT.out.below (below_tr HB2.out hb)))
      clear hb
      go_wp2_with fail
      refine HDG.out.mono ?_
      rintro e w5 ⟨g, rfl, hg, hd, hb5⟩
      have HS5 := Lib.hid (HS3.out.below hb5)
      have HR5 := Lib.hid (Rd.of_blk hd HLD.out)
      have HB5 := Lib.hid (below_tr (below_tr HB2.out HBR.out) hb5)
      obtain ⟨dl, hdl⟩ : ∃ dl, dl = dangs v tr := ⟨_, rfl⟩
      rw [← hdl] at HR5
      have HDL := Lib.hid hdl
      have HZ := Lib.hid (zones_c PA SA pn pc k sc v (c := pn) HR5.out (by omega))
      clear hd hb5 HDG c0 c1 c2 c3 c4 hdl
      obtain ⟨c0, c1, c2, c3, c4⟩ := HS5.out.cells
      go_wp2_with fail
      refine HZ.out.mono ?_
      rintro e w6 ⟨A7, c7, rfl, hc7, rz, hb6⟩
      have HR6 := Lib.hid (HR5.out.below hb6)
      have HB6 := Lib.hid (below_tr HB5.out hb6)
      have HRZ := Lib.hid rz
      clear hb6 rz
      go_wp2_with fail
      go_ret3
      exact ⟨_, _, _, _, rfl, by rw [← HDL.out]; exact HR6.out, by rw [← HDL.out]; exact HRZ.out, HB6.out⟩
end Go.Proofs.Ytphdndiikikecaa
