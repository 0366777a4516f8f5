/- ALL WALKS OF ZoneEvidence, as one text (written by mergetpl.py). -/
import Derived.Test.YtphdndiikikecaaZZonesAll
import Derived.BigQuiet
import Derived.Test.YtphdndiikikecaaZReady
import Derived.Test.YtphdndiikikecaaZAppRd
import Derived.Test.YtphdndiikikecaaZMono
import Derived.Test.YtphdndiikikecaaZCopy
import Derived.Test.YtphdndiikikecaaZEvLaw
import Derived.Test.YtphdndiikikecaaZValC
import Derived.Test.YtphdndiikikecaaZHitLaw
import Derived.Test.YtphdndiikikecaaZPrem
import Derived.Test.YtphdndiikikecaaZHearLaw
import Derived.Test.YtphdndiikikecaaZLeaf
import Derived.Maps.OwnSet
import Derived.Deep.RegionHeld3
import Derived.Deep.AppendLies
import Derived.Deep.DrawnRows
import Derived.Test.YtphdndiikikecaaZRef1
import Derived.StillTailTactics
namespace Go.Proofs.Ytphdndiikikecaa
open Go.RowKit Go.Proofs
attribute [local go_sem ↓] Go.wp_at_zero Go.wp_at_succ

def fitTo (v : Vly) (tr : List Int) (k : Nat) : Prop := ∀ (j : Nat) (s : Sli) (m : Int), j < k → v.sls[j]? = some s → tr[j]? = some m → s.lo ≤ m ∧ m ≤ s.hi
theorem fitTo_succ {v : Vly} {tr : List Int} {k : Nat} {s : Sli} {m : Int} (h : fitTo v tr k) (hs : v.sls[k]? = some s) (hm : tr[k]? = some m) (hb : s.lo ≤ m ∧ m ≤ s.hi) : fitTo v tr (k + 1) := fun j s' m' hj hs' hm' => by
  by_cases hjk : j = k
  · subst hjk; rw [hs] at hs'; rw [hm] at hm'; cases hs'; cases hm'; exact hb
  · exact h j s' m' (by omega) hs' hm'
theorem fitTo_all {v : Vly} {tr : List Int} (hl : tr.length = v.sls.length) (h : fitTo v tr v.sls.length) : Fits v tr := ⟨hl, fun k s m hs hm => h k s m (lt_of_get hs) hs hm⟩

set_option maxRecDepth 100000 in
set_option maxHeartbeats 1000000 in
theorem Fits_c {v : Vly} {tr : List Int} {PA SA TA : Option Addr} {pn pc sn sc tn tc : Nat} {w : World} (h : RdV w PA pn SA sn v) (hT : Rd enc1 1 w TA tn tr) (hsn : sn ≤ maxLen) (htn : tn ≤ maxLen) :
    Calls Try.prog 42 #[.agg #[.slice PA pn pc, .slice SA sn sc, .int .i64 v.s0, .int .i64 v.s1, .int .i64 v.s2], .slice TA tn tc] w fun e w' => ∃ b, e = .returned (.bool b) ∧ (b = true ↔ Fits v tr) ∧ Below w.heap.size w w' := by
  have hls := h.sls.len
  have htl := hT.len
  have hb0 : Below w.heap.size w (w.alloc (.cells #[.slice PA pn pc, .slice SA sn sc, .int .i64 v.s0, .int .i64 v.s1, .int .i64 v.s2] 26)) := (Below.refl _ w).alloc (Nat.le_refl _) _
  have HB := Lib.hid hb0
  have HX := Lib.hid (Blk.new w 26 #[.slice PA pn pc, .slice SA sn sc, .int .i64 v.s0, .int .i64 v.s1, .int .i64 v.s2])
  have HV := Lib.hid h; have HT := Lib.hid hT
  unfold maxLen at hsn htn
  by_cases hlen : tn = sn
  · subst hlen
    have HL := Lib.hid (show tr.length = v.sls.length by omega)
    have HLS := Lib.hid hls
    clear h hT hb0 hls htl
    go_enter Try.func42, Try.ntmps42
    go_wp2_with fail
    go_loopw [5] (fun i wr => ∃ k : Nat, k ≤ tn ∧ i = .int .i64 k ∧ fitTo v tr k ∧ Blk wr w.heap.size 26 #[.slice PA pn pc, .slice SA tn sc, .int .i64 v.s0, .int .i64 v.s1, .int .i64 v.s2] ∧ Below w.heap.size w wr) (fun i _ => tn - (intOf i).toNat)
    case atStart => exact ⟨0, Nat.zero_le _, rfl, fun j s m hj => by omega, HX.out, HB.out⟩
    case round =>
      obtain ⟨k, hk, rfl, hft, hbx, hb⟩ := hrel
      have HBX := Lib.hid hbx; have HB2 := Lib.hid hb; have HF := Lib.hid hft
      by_cases hlt : k < tn
      · obtain ⟨b, o, x, hA, hblt, hx, h0, h1, h2, h3⟩ := (HV.out.sls.below hb).atS hlt
        obtain ⟨b', o', m, hA', hblt', hm, h4⟩ := (HT.out.below hb).at1 hlt
        subst hA hA'
        have c1 := hbx.cell 1
        simp at c1
        have hkn : (k : Int) < (tn : Int) := by omega
        have hk0 : (0 : Int) ≤ (k : Int) := by omega
        have HIN := Lib.hid (fun W => In_c m x.lo x.hi W)
        have HSX := Lib.hid hx; have HSM := Lib.hid hm
        clear hx hm hbx hb hft
        cases hin : inB m x.lo x.hi
        · simp only [hin] at HIN
          have hno := inB_not.1 hin
          have HNO := Lib.hid (show ¬ Fits v tr from fun hf => by have := hf.2 k x m HSX.out HSM.out; omega)
          clear hin hno
          go_wp2_with fail
          go_quiet ((go_at_call 26; (first | exact quiet_left (HIN.out _) | exact quiet_add_left (HIN.out _))))
          go_wp2_with fail
          go_ret
          exact ⟨false, rfl, ⟨(fun h => by cases h), fun h => absurd h HNO.out⟩, below_drewN HB2.out _⟩
        · simp only [hin] at HIN
          have HNX := Lib.hid (fitTo_succ HF.out HSX.out HSM.out (inB_iff.1 hin))
          clear hin
          go_wp2_with fail
          go_quiet ((go_at_call 26; (first | exact quiet_left (HIN.out _) | exact quiet_add_left (HIN.out _))))
          go_wp2_with fail
          go_roundw
          case rel => exact ⟨k + 1, by omega, by go_num, HNX.out, Blk.drewN HBX.out _, below_drewN HB2.out _⟩
          case measure => simp [intOf] <;> omega
      · obtain rfl : k = tn := by omega
        have c1 := hbx.cell 1
        simp at c1
        have HFA := Lib.hid (fitTo_all HL.out (by rw [HLS.out]; exact hft))
        clear hbx hb hft
        go_wp2_with fail
        go_ret
        exact ⟨true, rfl, ⟨fun _ => HFA.out, fun _ => rfl⟩, HB2.out⟩
  · have HNO := Lib.hid (show ¬ Fits v tr from fun hf => by have := hf.1; omega)
    have hne : ¬ (tn : Int) = (sn : Int) := by omega
    have hne2 : ((tn : Int) == (sn : Int)) = false := by rw [beq_eq_false_iff_ne]; omega
    clear h hT hb0 hls htl
    go_enter Try.func42, Try.ntmps42
    go_wp2_with fail
    go_ret
    exact ⟨false, rfl, ⟨(fun h => by cases h), fun h => absurd h HNO.out⟩, HB.out⟩
end Go.Proofs.Ytphdndiikikecaa

namespace Go.Proofs.Ytphdndiikikecaa
open Go.RowKit Go.Proofs
attribute [local go_sem ↓] Go.wp_at_zero Go.wp_at_succ

set_option maxRecDepth 100000 in
theorem has_c (n lo hi : Int) (w : World) :
    Calls Try.prog 76 #[.agg #[.int .i64 lo, .int .i64 hi], .int .i64 n] w fun e w' => e = .returned (.bool (inB n lo hi)) ∧ Below w.heap.size w w' := by
  go_enter Try.func76, Try.ntmps76
  go_wp2_with (go_at_call 69; refine (within_c _ _ _ _).mono ?_; rintro e w' ⟨rfl, rfl⟩)
  go_ret
  exact ⟨rfl, (Below.refl _ _).alloc (Nat.le_refl _) _⟩

set_option maxRecDepth 100000 in
set_option maxHeartbeats 400000 in
theorem Danger_bad {v : Vly} {PA SA TA : Option Addr} {pn pc sn sc tn tc : Nat} {w : World} (h : RdV w PA pn SA sn v) (hpn : pn ≤ maxLen) (hsn : sn ≤ maxLen) (hbad : errV v ≠ 0) :
    Calls Try.prog 41 #[.agg #[.slice PA pn pc, .slice SA sn sc, .int .i64 v.s0, .int .i64 v.s1, .int .i64 v.s2], .slice TA tn tc] w
      fun e w' => e = .returned (.tuple #[.slice none 0 0, .slice none 0 0, .int .i64 (errV v)]) ∧ Below w.heap.size w w' := by
  have hne : (errV v == 0) = false := by simpa using hbad
  have hb0 : Below w.heap.size w (w.alloc (.cells (vA PA pn pc SA sn sc v) 36)) := (Below.refl _ w).alloc (Nat.le_refl _) _
  have HC := Lib.hid (checkV_c (pc := pc) (sc := sc) (h.below hb0) hpn hsn)
  obtain ⟨E, hE⟩ : ∃ E, E = errV v := ⟨_, rfl⟩
  rw [← hE] at HC hne hbad ⊢
  have HB := Lib.hid hb0
  clear h hE hb0
  go_enter Try.func41, Try.ntmps41
  go_wp2_with fail
  refine HC.out.mono ?_
  rintro e w2 ⟨rfl, hb⟩
  have HB2 := Lib.hid (below_tr HB.out hb)
  clear hb
  go_wp2_with fail
  go_ret3
  exact ⟨rfl, HB2.out⟩

set_option maxRecDepth 100000 in
set_option maxHeartbeats 4000000 in
theorem Danger_not {v : Vly} {tr : List Int} {PA SA TA : Option Addr} {pn pc sn sc tn tc : Nat} {w : World} (h : RdV w PA pn SA sn v) (hok : VOk v) (hT : Rd enc1 1 w TA tn tr) (htn : tn ≤ maxLen) (hnf : ¬ Fits v tr) :
    Calls Try.prog 41 #[.agg #[.slice PA pn pc, .slice SA sn sc, .int .i64 v.s0, .int .i64 v.s1, .int .i64 v.s2], .slice TA tn tc] w
      fun e w' => e = .returned (.tuple #[.slice none 0 0, .slice none 0 0, .int .i64 2]) ∧ Below w.heap.size w w' := by
  have hlp := h.pars.len; have hls := h.sls.len; have htl := hT.len
  have hpn := hok.pn; have hsn := hok.sn
  have hb0 : Below w.heap.size w (w.alloc (.cells (vA PA pn pc SA sn sc v) 36)) := (Below.refl _ w).alloc (Nat.le_refl _) _
  have HC := Lib.hid (checkV_c (pc := pc) (sc := sc) (h.below hb0) (by unfold maxLen; omega) (by unfold maxLen; omega))
  rw [errV_zero.2 hok] at HC
  have HB := Lib.hid hb0
  have HX := Lib.hid (Blk.new w 36 (vA PA pn pc SA sn sc v))
  have HV := Lib.hid h; have HT := Lib.hid hT; have HNF := Lib.hid hnf
  unfold maxLen at htn
  by_cases hlen : tn = sn
  · subst hlen
    have HL := Lib.hid (show tr.length = v.sls.length by omega)
    have HLS := Lib.hid hls
    clear h hb0 hok hT hnf hlp hls htl
    go_enter Try.func41, Try.ntmps41
    go_wp2_with fail
    refine HC.out.mono ?_
    rintro e w2 ⟨rfl, hb⟩
    have hx2 := HX.out.below hb (by simp)
    have HX2 := Lib.hid hx2
    have HB2 := Lib.hid (below_tr HB.out hb)
    have c1 := hx2.cell 1
    simp at c1
    clear hb hx2
    go_wp2_with fail
    go_loopw [23] (fun i wr => ∃ k : Nat, k ≤ tn ∧ i = .int .i64 k ∧ fitTo v tr k ∧ Below w2.heap.size w2 wr) (fun i _ => tn - (intOf i).toNat)
    case atStart => exact ⟨0, Nat.zero_le _, rfl, (fun j s m hj => by omega), Below.refl _ _⟩
    case round =>
      obtain ⟨k, hk, rfl, hft, hb⟩ := hrel
      have HBR := Lib.hid hb; have HF := Lib.hid hft
      have hbx := HX2.out.below hb HX2.out.lt
      have c1 := hbx.cell 1
      simp at c1
      by_cases hlt : k < tn
      · obtain ⟨b, o, x, hA, hblt, hx, h0, h1, h2, h3⟩ := (HV.out.sls.below (below_tr HB2.out hb)).atS hlt
        obtain ⟨b', o', m, hA', hblt', hm, h4⟩ := (HT.out.below (below_tr HB2.out hb)).at1 hlt
        subst hA hA'
        have hkn : (k : Int) < (tn : Int) := by omega
        have hk0 : (0 : Int) ≤ (k : Int) := by omega
        have HIN := Lib.hid (fun W => has_c m x.lo x.hi W)
        have HSX := Lib.hid hx; have HSM := Lib.hid hm
        clear hx hm hbx hb hft
        cases hin : inB m x.lo x.hi
        · simp only [hin] at HIN
          clear hin
          go_wp2_with (go_at_call 76; refine (HIN.out _).mono ?_; rintro e w5 ⟨rfl, hb5⟩)
          go_ret3
          exact ⟨rfl, below_tr (below_tr HB2.out HBR.out) hb5⟩
        · simp only [hin] at HIN
          have HNX := Lib.hid (fitTo_succ HF.out HSX.out HSM.out (inB_iff.1 hin))
          clear hin
          go_wp2_with (go_at_call 76; refine (HIN.out _).mono ?_; rintro e w5 ⟨rfl, hb5⟩)
          go_roundw
          case rel => exact ⟨k + 1, by omega, by go_num, HNX.out, below_tr HBR.out hb5⟩
          case measure => simp [intOf] <;> omega
      · obtain rfl : k = tn := by omega
        exact absurd (fitTo_all HL.out (by rw [HLS.out]; exact hft)) HNF.out
  · have hne : ¬ (tn : Int) = (sn : Int) := by omega
    have hne2 : ((tn : Int) == (sn : Int)) = false := by rw [beq_eq_false_iff_ne]; omega
    clear h hb0 hok hT hnf hlp hls htl
    go_enter Try.func41, Try.ntmps41
    go_wp2_with fail
    refine HC.out.mono ?_
    rintro e w2 ⟨rfl, hb⟩
    have hx2 := HX.out.below hb (by simp)
    have HB2 := Lib.hid (below_tr HB.out hb)
    have c1 := hx2.cell 1
    simp at c1
    clear hb hx2
    go_wp2_with fail
    go_ret3
    exact ⟨rfl, HB2.out⟩

set_option maxRecDepth 100000 in
set_option maxHeartbeats 4000000 in
theorem DangerZ_c {v : Vly} {tr : List Int} {PA SA TA : Option Addr} {pn pc sn sc tn tc : Nat} {w : World} (h : RdV w PA pn SA sn v) (hok : VOk v) (hT : Rd enc1 1 w TA tn tr) (hf : Fits v tr) :
    Calls Try.prog 41 #[.agg #[.slice PA pn pc, .slice SA sn sc, .int .i64 v.s0, .int .i64 v.s1, .int .i64 v.s2], .slice TA tn tc] w
      fun e w' => ∃ A1 c1 A2 c2, e = .returned (.tuple #[.slice A1 pn c1, .slice A2 pn c2, .int .i64 0]) ∧ Rd enc1 1 w' A1 pn (dangs v tr) ∧ Rd enc1 1 w' A2 pn ((dangs v tr).map (zoneOf v)) ∧ Below w.heap.size w w' := by
  have hlp := h.pars.len; have hls := h.sls.len; have htl := hT.len
  have hpn := hok.pn; have hsn := hok.sn
  obtain rfl : tn = sn := by have := hf.1; omega
  have hb0 : Below w.heap.size w (w.alloc (.cells (vA PA pn pc SA tn sc v) 36)) := (Below.refl _ w).alloc (Nat.le_refl _) _
  have HC := Lib.hid (checkV_c (pc := pc) (sc := sc) (h.below hb0) (by unfold maxLen; omega) (by unfold maxLen; omega))
  rw [errV_zero.2 hok] at HC
  have HB := Lib.hid hb0
  have HX := Lib.hid (Blk.new w 36 (vA PA pn pc SA tn sc v))
  have HV := Lib.hid h; have HT := Lib.hid hT; have HF := Lib.hid hf; have HOK := Lib.hid hok
  have hlD : (dangs v tr).length = pn := by rw [dangs_len, hlp]
  have HLD := Lib.hid hlD
  have htn10 : tn ≤ 10 := by omega
  have hpn12 : pn ≤ 12 := by omega
  clear h hb0 hok hT hf hlp hls htl hlD
  go_enter Try.func41, Try.ntmps41
  go_wp2_with fail
  refine HC.out.mono ?_
  rintro e w2 ⟨rfl, hb⟩
  have HX2 := Lib.hid (HX.out.below hb (by simp))
  have HB2 := Lib.hid (below_tr HB.out hb)
  have HS2 := Lib.hid (show SV w2 w.heap.size (vA PA pn pc SA tn sc v) w2 from ⟨Below.refl _ _, HX2.out⟩)
  obtain ⟨c0, c1, c2, c3, c4⟩ := HS2.out.cells
  clear hb HC HX
  go_wp2_with fail
  go_loopw [23] (fun i wr => ∃ k : Nat, k ≤ tn ∧ i = .int .i64 k ∧ Below w2.heap.size w2 wr) (fun i _ => tn - (intOf i).toNat)
  case atStart => exact ⟨0, Nat.zero_le _, rfl, Below.refl _ _⟩
  case round =>
    obtain ⟨k, hk, rfl, hb⟩ := hrel
    have HBR := Lib.hid hb
    have HS3 := Lib.hid (HS2.out.below hb)
    obtain ⟨c0, c1, c2, c3, c4⟩ := HS3.out.cells
    by_cases hlt : k < tn
    · obtain ⟨b, o, x, hA, hblt, hx, h0, h1, h2, h3⟩ := (HV.out.sls.below (below_tr HB2.out hb)).atS hlt
      obtain ⟨b', o', m, hA', hblt', hm, h4⟩ := (HT.out.below (below_tr HB2.out hb)).at1 hlt
      subst hA hA'
      have hkn : (k : Int) < (tn : Int) := by omega
      have hk0 : (0 : Int) ≤ (k : Int) := by omega
      have hin : inB m x.lo x.hi = true := inB_iff.2 (HF.out.2 k x m hx hm)
      have HIN := Lib.hid (fun W => has_c m x.lo x.hi W)
      simp only [hin] at HIN
      clear hx hm hb hin
      go_wp2_with (go_at_call 76; refine (HIN.out _).mono ?_; rintro e w5 ⟨rfl, hb5⟩)
      go_roundw
      case rel => exact ⟨k + 1, by omega, by go_num, below_tr HBR.out hb5⟩
      case measure => simp [intOf] <;> omega
    · obtain rfl : k = tn := by omega
      have HDG := Lib.hid (dangers_c (pc := pc) (sc := sc) (tc := tc) HOK.out HF.out (HV.out.below (below_tr HB2.out hb)) (HT.out.below (below_tr HB2.out hb)))
      clear hb
      go_wp2_with fail
      refine HDG.out.mono ?_
      rintro e w5 ⟨g, rfl, hg, hd, hb5⟩
      have HS5 := Lib.hid (HS3.out.below hb5)
      have HR5 := Lib.hid (Rd.of_blk hd HLD.out)
      have HB5 := Lib.hid (below_tr (below_tr HB2.out HBR.out) hb5)
      obtain ⟨dl, hdl⟩ : ∃ dl, dl = dangs v tr := ⟨_, rfl⟩
      rw [← hdl] at HR5
      have HDL := Lib.hid hdl
      have HZ := Lib.hid (zones_c PA SA pn pc k sc v (c := pn) HR5.out (by omega))
      clear hd hb5 HDG c0 c1 c2 c3 c4 hdl
      obtain ⟨c0, c1, c2, c3, c4⟩ := HS5.out.cells
      go_wp2_with fail
      refine HZ.out.mono ?_
      rintro e w6 ⟨A7, c7, rfl, hc7, rz, hb6⟩
      have HR6 := Lib.hid (HR5.out.below hb6)
      have HB6 := Lib.hid (below_tr HB5.out hb6)
      have HRZ := Lib.hid rz
      clear hb6 rz
      go_wp2_with fail
      go_ret3
      exact ⟨_, _, _, _, rfl, by rw [← HDL.out]; exact HR6.out, by rw [← HDL.out]; exact HRZ.out, HB6.out⟩
end Go.Proofs.Ytphdndiikikecaa

namespace Go.Proofs.Ytphdndiikikecaa
open Go.RowKit Go.Proofs
attribute [local go_sem ↓] Go.wp_at_zero Go.wp_at_succ

set_option maxRecDepth 100000 in
set_option maxHeartbeats 4000000 in
theorem ZoneDangers_w {v : Vly} {tr : List Int} {PA SA TA : Option Addr} {pn pc sn sc tn tc : Nat} {w : World} (h : RdV w PA pn SA sn v) (hpn : pn ≤ maxLen) (hsn : sn ≤ maxLen) (hT : Rd enc1 1 w TA tn tr) (htn : tn ≤ maxLen) :
    Calls Try.prog 10 #[.agg #[.slice PA pn pc, .slice SA sn sc, .int .i64 v.s0, .int .i64 v.s1, .int .i64 v.s2], .slice TA tn tc] w fun e w' => e = .returned (.bool true) ∧ Below w.heap.size w w' := by
  have hlp := h.pars.len; have hls := h.sls.len
  have HS0 := Lib.hid (SW.new w (vA PA pn pc SA sn sc v))
  have HTH := Lib.hid (Thin_c (pc := pc) (sc := sc) (h.below HS0.out.bel) hsn)
  have HV := Lib.hid h; have HT := Lib.hid hT
  unfold maxLen at htn
  by_cases hearly : thinB v = false ∨ 20 < tn
  · have hcases : thinB v = false ∨ (thinB v = true ∧ 20 < tn) := by
      cases hth : thinB v
      · exact .inl rfl
      · exact .inr ⟨rfl, hearly.resolve_left (by rw [hth]; simp)⟩
    clear h hT hearly
    rcases hcases with hth | ⟨hth, hgt⟩
    · rw [hth] at HTH
      clear hth
      go_enter Try.func10, Try.ntmps10
      go_wp2_with fail
      refine HTH.out.mono ?_
      rintro e w1 ⟨rfl, hb⟩
      have HB1 := Lib.hid (below_tr HS0.out.bel hb)
      clear hb
      go_wp2_with (go_at_call 18; refine (wakes_ok _).mono ?_; rintro e w2 ⟨rfl, hb2⟩)
      go_ret
      exact ⟨rfl, below_tr HB1.out hb2⟩
    · rw [hth] at HTH
      have hg : (20 : Int) < (tn : Int) := by omega
      clear hth
      go_enter Try.func10, Try.ntmps10
      go_wp2_with fail
      refine HTH.out.mono ?_
      rintro e w1 ⟨rfl, hb⟩
      have HB1 := Lib.hid (below_tr HS0.out.bel hb)
      clear hb
      go_wp2_with (go_at_call 18; refine (wakes_ok _).mono ?_; rintro e w2 ⟨rfl, hb2⟩)
      go_ret
      exact ⟨rfl, below_tr HB1.out hb2⟩
  · have hth : thinB v = true := by
      cases hth : thinB v
      · exact absurd (.inl hth) hearly
      · rfl
    have hle : ¬ (20 : Int) < (tn : Int) := fun hg => hearly (.inr (by omega))
    have htn20 : tn ≤ 20 := by omega
    rw [hth] at HTH
    have ht := thinB_iff.1 hth
    have hpn15 : pn ≤ 15 := by omega
    have hsn12 : sn ≤ 12 := by omega
    have HWY := Lib.hid (fun (s : Sli) (hs : s ∈ v.sls) => show s.way.length ≤ 1000 from by have := ht.1 s hs; omega)
    clear h hT hearly hth ht
    go_enter Try.func10, Try.ntmps10
    go_wp2_with fail
    refine HTH.out.mono ?_
    rintro e w1 ⟨rfl, hb⟩
    have HS1 := Lib.hid (HS0.out.below hb)
    obtain ⟨c0, c1, c2, c3, c4⟩ := HS1.out.cells
    have HVL := Lib.hid (Valley_c (pc := pc) (sc := sc) (HV.out.below HS1.out.bel) (by omega) (by omega) HWY.out)
    clear hb HTH HS0
    go_wp2_with fail
    refine HVL.out.mono ?_
    rintro e w2 ⟨A1, d1, A2, d2, v', rfl, hv', hal, hb⟩
    have HS2 := Lib.hid (HS1.out.below hb)
    have HCH := Lib.hid (checkV_c (pc := d1) (sc := d2) hv' (by unfold maxLen; omega) (by unfold maxLen; omega))
    rw [hal.err] at HCH
    obtain ⟨E, hE⟩ : ∃ E, E = errV v := ⟨_, rfl⟩
    rw [← hE] at HCH
    have HE := Lib.hid hE
    clear c0 c1 c2 c3 c4 hb hal hv' HVL HS1 hE
    go_wp2_with fail
    refine HCH.out.mono ?_
    rintro e w3 ⟨rfl, hb⟩
    have HS3 := Lib.hid (HS2.out.below hb)
    obtain ⟨c0, c1, c2, c3, c4⟩ := HS3.out.cells
    have HVL := Lib.hid (Valley_c (pc := pc) (sc := sc) (HV.out.below HS3.out.bel) (by omega) (by omega) HWY.out)
    clear hb HCH HS2
    go_wp2_with fail
    refine HVL.out.mono ?_
    rintro e w4 ⟨A3, d3, A4, d4, v', rfl, hv', hal, hb⟩
    have HS4 := Lib.hid (HS3.out.below hb)
    have HLI := Lib.hid (list_c (c := tc) (HT.out.below HS4.out.bel) (by omega))
    have HAL := Lib.hid hal; have HV4 := Lib.hid hv'
    clear c0 c1 c2 c3 c4 hb hal hv' HVL HS3
    go_wp2_with fail
    refine HLI.out.mono ?_
    rintro e w5 ⟨vl, rfl, hown, hb⟩
    obtain ⟨A5, d5, rfl, _, hr5⟩ := Rd.of_own2 hown HT.out.len
    clear hown
    have HS5 := Lib.hid (HS4.out.below hb)
    have HV5 := Lib.hid (HV4.out.below hb)
    have HR5 := Lib.hid hr5
    clear hb hr5 HLI HS4 HV4
    by_cases herr : E = 0
    · subst herr
      have hok : VOk v := errV_zero.1 HE.out.symm
      have HOK := Lib.hid hok
      by_cases hf : Fits v tr
      · have HF := Lib.hid hf
        have HDG := Lib.hid (DangerZ_c (pc := d3) (sc := d4) (tc := d5) HV5.out (HAL.out.ok hok) HR5.out (HAL.out.fits hf))
        rw [HAL.out.dangs, HAL.out.zone] at HDG
        clear hok hf
        go_wp2_with fail
        refine HDG.out.mono ?_
        rintro e w6 ⟨B1, e1, B2, e2, rfl, hr1, hr2, hb⟩
        have HS6 := Lib.hid (HS5.out.below hb)
        obtain ⟨c0, c1, c2, c3, c4⟩ := HS6.out.cells
        have HR1 := Lib.hid hr1; have HR2 := Lib.hid hr2
        have HFT := Lib.hid (fault_c (pc := pc) (sc := sc) (HV.out.below HS6.out.bel) (by unfold maxLen; omega) (by unfold maxLen; omega))
        rw [← HE.out] at HFT
        clear hb hr1 hr2 HDG HS5
        go_wp2_with fail
        refine HFT.out.mono ?_
        rintro e w7 ⟨rfl, hb⟩
        have HS7 := Lib.hid (HS6.out.below hb)
        have HR3 := Lib.hid (HR1.out.below hb); have HR4 := Lib.hid (HR2.out.below hb)
        have HFI := Lib.hid (Fits_c (pc := pc) (sc := sc) (tc := tc) (HV.out.below HS7.out.bel) (HT.out.below HS7.out.bel) (by unfold maxLen; omega) (by unfold maxLen; omega))
        clear hb HFT HS6 HR1 HR2 c0 c1 c2 c3 c4
        obtain ⟨c0, c1, c2, c3, c4⟩ := HS7.out.cells
        go_wp2_with fail
        refine HFI.out.mono ?_
        rintro e w8 ⟨bb, rfl, hbb, hb⟩
        obtain rfl : bb = true := hbb.2 HF.out
        have HS8 := Lib.hid (HS7.out.below hb)
        have HR5 := Lib.hid (HR3.out.below hb); have HR6 := Lib.hid (HR4.out.below hb)
        have HDL := Lib.hid (dangersL_c (pc := pc) (sc := sc) (tc := tc) HOK.out HF.out (HV.out.below HS8.out.bel) (HT.out.below HS8.out.bel))
        clear hb hbb HFI HS7 HR3 HR4 c0 c1 c2 c3 c4
        obtain ⟨c0, c1, c2, c3, c4⟩ := HS8.out.cells
        obtain ⟨dl, hdl⟩ : ∃ dl, dl = dangs v tr := ⟨_, rfl⟩
        have HD := Lib.hid hdl
        go_wp2_with fail
        refine HDL.out.mono ?_
        rintro e w9 ⟨B3, e3, B4, e4, rfl, hr3, hr4, hb⟩
        have HB9 := Lib.hid (below_tr HS8.out.bel hb)
        have HIA := Lib.hid (ints_c (c := e1) (c' := e3) (HR5.out.below hb) hr3 (by omega))
        have HIB := Lib.hid (fun W (hW : Below w9.heap.size w9 W) => ints_c (c := e2) (c' := e4) ((HR6.out.below hb).below hW) (hr4.below hW) (by omega))
        rw [decide_eq_true rfl] at HIA
        simp only [decide_eq_true rfl] at HIB
        clear hb HDL HS8 hr3 hr4 c0 c1 c2 c3 c4 hdl
        go_wp2_with fail
        refine HIA.out.mono ?_
        rintro e wa ⟨rfl, hba⟩
        go_wp2_with fail
        refine (HIB.out _ hba).mono ?_
        rintro e wb ⟨rfl, hbb⟩
        have HBY := Lib.hid (below_tr HB9.out (below_tr hba hbb))
        clear hba hbb HIA HIB
        go_wp2_with (go_at_call 18; refine (wakes_ok _).mono ?_; rintro e wd ⟨rfl, hbd⟩)
        go_ret
        exact ⟨rfl, below_tr HBY.out hbd⟩
      · have HDG := Lib.hid (Danger_not (pc := d3) (sc := d4) (tc := d5) HV5.out (HAL.out.ok hok) HR5.out (by unfold maxLen; omega) (fun hf' => hf (HAL.out.symm.fits hf')))
        have HNF := Lib.hid hf
        clear hok hf
        go_wp2_with fail
        refine HDG.out.mono ?_
        rintro e w6 ⟨rfl, hb⟩
        have HS6 := Lib.hid (HS5.out.below hb)
        obtain ⟨c0, c1, c2, c3, c4⟩ := HS6.out.cells
        have HFT := Lib.hid (fault_c (pc := pc) (sc := sc) (HV.out.below HS6.out.bel) (by unfold maxLen; omega) (by unfold maxLen; omega))
        rw [← HE.out] at HFT
        clear hb HDG HS5
        go_wp2_with fail
        refine HFT.out.mono ?_
        rintro e w7 ⟨rfl, hb⟩
        have HS7 := Lib.hid (HS6.out.below hb)
        have HFI := Lib.hid (Fits_c (pc := pc) (sc := sc) (tc := tc) (HV.out.below HS7.out.bel) (HT.out.below HS7.out.bel) (by unfold maxLen; omega) (by unfold maxLen; omega))
        clear hb HFT HS6 c0 c1 c2 c3 c4
        obtain ⟨c0, c1, c2, c3, c4⟩ := HS7.out.cells
        go_wp2_with fail
        refine HFI.out.mono ?_
        rintro e w8 ⟨bb, rfl, hbb, hb⟩
        obtain rfl : bb = false := by
          cases bb
          · rfl
          · exact absurd (hbb.1 rfl) HNF.out
        have HB8 := Lib.hid (below_tr HS7.out.bel hb)
        clear hb hbb HFI
        go_wp2_with (go_at_call 18; refine (wakes_ok _).mono ?_; rintro e w9 ⟨rfl, hb9⟩)
        go_ret
        exact ⟨rfl, below_tr HB8.out hb9⟩
    · have HBD := Lib.hid (Danger_bad (pc := d3) (sc := d4) (TA := A5) (tn := tn) (tc := d5) HV5.out (by unfold maxLen; omega) (by unfold maxLen; omega) (by rw [HAL.out.err, ← HE.out]; exact herr))
      rw [HAL.out.err, ← HE.out] at HBD
      have hE0 : (E == 0) = false := by rw [beq_eq_false_iff_ne]; exact herr
      have hE1 : (E == E) = true := by simp
      clear herr
      go_wp2_with fail
      refine HBD.out.mono ?_
      rintro e w6 ⟨rfl, hb⟩
      have HS6 := Lib.hid (HS5.out.below hb)
      obtain ⟨c0, c1, c2, c3, c4⟩ := HS6.out.cells
      have HFT := Lib.hid (fault_c (pc := pc) (sc := sc) (HV.out.below HS6.out.bel) (by unfold maxLen; omega) (by unfold maxLen; omega))
      rw [← HE.out] at HFT
      clear hb HBD HS5
      go_wp2_with fail
      refine HFT.out.mono ?_
      rintro e w7 ⟨rfl, hb⟩
      have HB7 := Lib.hid (below_tr HS6.out.bel hb)
      clear hb HFT
      go_wp2_with (go_at_call 18; refine (wakes_ok _).mono ?_; rintro e w8 ⟨rfl, hb8⟩)
      go_ret
      exact ⟨rfl, below_tr HB7.out hb8⟩
end Go.Proofs.Ytphdndiikikecaa

namespace Go.Proofs.Ytphdndiikikecaa
open Go.RowKit Go.Proofs
attribute [local go_sem ↓] Go.wp_at_zero Go.wp_at_succ

theorem fit_mod {lo hi d : Int} (hlh : lo ≤ hi) (hd : 0 ≤ d) : lo ≤ lo + d % (hi - lo + 1) ∧ lo + d % (hi - lo + 1) ≤ hi := by
  have h1 := Int.emod_nonneg d (show hi - lo + 1 ≠ 0 by omega)
  have h2 := Int.emod_lt_of_pos d (show 0 < hi - lo + 1 by omega)
  omega

set_option maxRecDepth 100000 in
set_option maxHeartbeats 2000000 in
theorem Picked_c {v : Vly} {ws : List UInt8} {PA SA WA : Option Addr} {pn pc sn sc wn wc : Nat} {w : World} (hok : VOk v) (h : RdV w PA pn SA sn v) (hW : Rd encB 1 w WA wn ws) (hwn : wn ≤ maxLen) :
    Calls Try.prog 43 #[.agg #[.slice PA pn pc, .slice SA sn sc, .int .i64 v.s0, .int .i64 v.s1, .int .i64 v.s2], .slice WA wn wc] w fun e w' => ∃ tr A c, e = .returned (.slice A sn c) ∧ Rd enc1 1 w' A sn tr ∧ Fits v tr ∧ Below w.heap.size w w' := by
  obtain ⟨i0, hi0, hz0, hz1, hz2⟩ := info_parts infoInt
  have HI := Lib.hid hi0; have HZ0 := Lib.hid hz0; have HZ1 := Lib.hid hz1; have HZ2 := Lib.hid hz2
  clear hi0 hz0 hz1 hz2
  have hls := h.sls.len
  have hsn := hok.sn
  have hsn10 : sn ≤ 10 := by omega
  unfold maxLen at hwn
  have hb0 : Below w.heap.size w (w.alloc (.cells #[.slice PA pn pc, .slice SA sn sc, .int .i64 v.s0, .int .i64 v.s1, .int .i64 v.s2] 26)) := (Below.refl _ w).alloc (Nat.le_refl _) _
  have HB := Lib.hid hb0
  have HX := Lib.hid (Blk.new w 26 #[.slice PA pn pc, .slice SA sn sc, .int .i64 v.s0, .int .i64 v.s1, .int .i64 v.s2])
  have HV := Lib.hid h; have HW := Lib.hid hW
  have HLS := Lib.hid hls
  have HSB := Lib.hid (fun (k : Nat) (s : Sli) (hs : v.sls[k]? = some s) => show (0 ≤ s.lo ∧ s.lo ≤ s.hi ∧ s.hi ≤ 12) from by
    have h1 := hok.slide hs; have h2 := wayTo_len h1.1; have := hok.pn; omega)
  clear h hW hb0 hok hls hsn
  go_enter Try.func43, Try.ntmps43
  go_wp2_with fail
  go_loopw [5, 6] (fun o i wr => ∃ (k : Nat) (tr : List Int), k ≤ sn ∧ i = .int .i64 k ∧ tr.length = k ∧ fitTo v tr k ∧ wr.ownsRow (w.heap.size + 1) 3 1 o k (tr.flatMap enc1) ∧ Blk wr w.heap.size 26 #[.slice PA pn pc, .slice SA sn sc, .int .i64 v.s0, .int .i64 v.s1, .int .i64 v.s2] ∧ Below w.heap.size w wr ∧ w.heap.size + 1 ≤ wr.heap.size) (fun _ i _ => sn - (intOf i).toNat)
  case atStart => exact ⟨0, [], Nat.zero_le _, rfl, rfl, (fun j s m hj => by omega), World.ownsRow_nil _ _ _ _, HX.out, HB.out, by simp⟩
  case round =>
    obtain ⟨k, tr, hk, rfl, htl, hft, hown, hbx, hb, hsz⟩ := hrel
    have HBX := Lib.hid hbx; have HB2 := Lib.hid hb; have HF := Lib.hid hft; have HO := Lib.hid hown; have HTL := Lib.hid htl
    have c1 := hbx.cell 1
    simp at c1
    by_cases hlt : k < sn
    · obtain ⟨b, o, x, hA, hblt, hx, h0, h1, h2, h3⟩ := (HV.out.sls.below hb).atS hlt
      subst hA
      have hkn : (k : Int) < (sn : Int) := by omega
      have hk0 : (0 : Int) ≤ (k : Int) := by omega
      have hsb := HSB.out k x hx
      have HSX := Lib.hid hx
      clear hx hbx hft hown htl
      have key : ∀ (n : Int), x.lo ≤ n → n ≤ x.hi → fitTo v (tr ++ [n]) (k + 1) := fun n h1 h2 j s m hj hs hm => by
        by_cases hjk : j = k
        · subst hjk
          rw [HSX.out] at hs; cases hs
          rw [← HTL.out, List.getElem?_append_right (Nat.le_refl _)] at hm
          simp at hm; omega
        · rw [List.getElem?_append_left (by rw [HTL.out]; omega)] at hm
          exact HF.out j s m (by omega) hs hm
      have HKEY := Lib.hid key
      clear key
      by_cases hw0 : 0 < wn
      · obtain ⟨b', o', u, hA', hblt', hu, h4⟩ := (HW.out.below hb).atB (i := k % wn) (Nat.mod_lt _ hw0)
        subst hA'
        have hm1 : (k : Int).tmod (wn : Int) = ((k % wn : Nat) : Int) := by rw [Int.tmod_eq_emod_of_nonneg (by omega)]; omega
        have hmlt := Nat.mod_lt k hw0
        have hml : ((k % wn : Nat) : Int) < (wn : Int) := by omega
        have hm0 : (0 : Int) ≤ ((k % wn : Nat) : Int) := by omega
        have hmw : IntKind.i64.wrap ((k % wn : Nat) : Int) = ((k % wn : Nat) : Int) := wi (by omega)
        have hub : (u.toNat : Int) ≤ 255 := by have := u.toNat_lt; omega
        have hu8 : IntKind.i64.wrap (u.toNat : Int) = (u.toNat : Int) := wi (by omega)
        have hw2 : IntKind.i64.wrap (x.hi - x.lo) = x.hi - x.lo := wi (by omega)
        have hw3 : IntKind.i64.wrap (x.hi - x.lo + 1) = x.hi - x.lo + 1 := wi (by omega)
        have hfm := fit_mod (d := (u.toNat : Int)) hsb.2.1 (by omega)
        have hm2 : (u.toNat : Int).tmod (x.hi - x.lo + 1) = (u.toNat : Int) % (x.hi - x.lo + 1) := Int.tmod_eq_emod_of_nonneg (by omega)
        obtain ⟨R, hR⟩ : ∃ R, R = (u.toNat : Int) % (x.hi - x.lo + 1) := ⟨_, rfl⟩
        rw [← hR] at hfm hm2
        have hwR : IntKind.i64.wrap R = R := wi (by omega)
        have hwn2 : IntKind.i64.wrap (x.lo + R) = x.lo + R := wi (by omega)
        have hne1 : ¬ (wn : Int) = 0 := by omega
        have hne2 : ¬ x.hi - x.lo + 1 = 0 := by omega
        have hne3 : ((wn : Int) == 0) = false := by rw [beq_eq_false_iff_ne]; exact hne1
        have hne4 : (x.hi - x.lo + 1 == 0) = false := by rw [beq_eq_false_iff_ne]; exact hne2
        have hwpos : (0 : Int) < (wn : Int) := by omega
        clear hR hu
        go_wp2_with fail
        go_quiet (fail)
        go_upto_region 9 with fail
        obtain ⟨W1, hW1⟩ : ∃ W1, W1 = (wr.alloc (.cells #[.int .i64 x.lo, .int .i64 x.hi] 60)).drewN nq := ⟨_, rfl⟩
        rw [← hW1]
        have hb1 : Below wr.heap.size wr W1 := by rw [hW1]; exact below_drewN ((Below.refl _ wr).alloc (Nat.le_refl _) _) _
        have HO1 := Lib.hid (own_mono HO.out hb1)
        have HB1 := Lib.hid (below_tr HB2.out hb1)
        have HX1 := Lib.hid (HBX.out.below hb1 HBX.out.lt)
        have hsz0 : w.heap.size + 1 ≤ W1.heap.size := HX1.out.lt
        have HK := Lib.hid (HKEY.out (x.lo + R) hfm.1 hfm.2)
        clear hW1 hb1 h0 h1 h2 h3 c1 hb hsz
        go_wp2_with (at_builtin; go_must (refine wpList_append_own_at _ rfl _ _ 39 rfl (w.heap.size + 1) 3 i0 _ 1 8 Try.underlying39 HI.out HZ0.out HZ1.out HZ2.out rfl (by decide) _ _ _ rfl (HO1.out.alloc _) ⟨W1.heap.size, 0, none⟩ 1 1 [.int .i64 (x.lo + R)] rfl rfl (fun j u hj => World.news_of_block (cs := #[.int .i64 (x.lo + R)]) (t := 3) (fr := (0, 0)) (heap_alloc_new W1 _) j u hj) (by simp [Value.oneCell']) (by unfold maxLen; omega) (by omega) (by simp; omega) ?_; intro v' w1 hown' hgrow _ _))
        have H1 : Hid (w1.ownsRow (w.heap.size + 1) 3 1 v' (k + 1) ((tr ++ [x.lo + R]).flatMap enc1)) := by
          rw [List.flatMap_append]
          exact hown'
        have H2 : Hid (Below w.heap.size w w1) := (HB1.out.alloc HB1.out.size _).grown hgrow (by simp; have := HB1.out.size; omega) (fun g hg => by have := (HO1.out.lt g hg).1; omega)
        have H3 := Lib.hid ((HX1.out.alloc (.cells #[.int .i64 (x.lo + R)] 3)).grown hgrow (fun e => own_ge HO1.out (by omega : w.heap.size < w.heap.size + 1) e))
        have hsz1 : w.heap.size + 1 ≤ w1.heap.size := H3.out.lt
        clear hown' hgrow
        go_wp2_with fail
        go_roundw
        case rel => exact ⟨k + 1, tr ++ [x.lo + R], by omega, by go_num, by rw [List.length_append, HTL.out]; rfl, HK.out, H1.out, H3.out, H2.out, hsz1⟩
        case measure => simp [intOf] <;> omega
      · obtain rfl : wn = 0 := by omega
        go_upto_region 9 with fail
        obtain ⟨W1, hW1⟩ : ∃ W1, W1 = wr.alloc (.cells #[.int .i64 x.lo, .int .i64 x.hi] 60) := ⟨_, rfl⟩
        rw [← hW1]
        have hb1 : Below wr.heap.size wr W1 := by rw [hW1]; exact (Below.refl _ wr).alloc (Nat.le_refl _) _
        have HO1 := Lib.hid (own_mono HO.out hb1)
        have HB1 := Lib.hid (below_tr HB2.out hb1)
        have HX1 := Lib.hid (HBX.out.below hb1 HBX.out.lt)
        have hsz0 : w.heap.size + 1 ≤ W1.heap.size := HX1.out.lt
        have HK := Lib.hid (HKEY.out (x.lo) (Int.le_refl _) hsb.2.1)
        clear hW1 hb1 h0 h1 h2 h3 c1 hb hsz
        go_wp2_with (at_builtin; go_must (refine wpList_append_own_at _ rfl _ _ 39 rfl (w.heap.size + 1) 3 i0 _ 1 8 Try.underlying39 HI.out HZ0.out HZ1.out HZ2.out rfl (by decide) _ _ _ rfl (HO1.out.alloc _) ⟨W1.heap.size, 0, none⟩ 1 1 [.int .i64 (x.lo)] rfl rfl (fun j u hj => World.news_of_block (cs := #[.int .i64 (x.lo)]) (t := 3) (fr := (0, 0)) (heap_alloc_new W1 _) j u hj) (by simp [Value.oneCell']) (by unfold maxLen; omega) (by omega) (by simp; omega) ?_; intro v' w1 hown' hgrow _ _))
        have H1 : Hid (w1.ownsRow (w.heap.size + 1) 3 1 v' (k + 1) ((tr ++ [x.lo]).flatMap enc1)) := by
          rw [List.flatMap_append]
          exact hown'
        have H2 : Hid (Below w.heap.size w w1) := (HB1.out.alloc HB1.out.size _).grown hgrow (by simp; have := HB1.out.size; omega) (fun g hg => by have := (HO1.out.lt g hg).1; omega)
        have H3 := Lib.hid ((HX1.out.alloc (.cells #[.int .i64 (x.lo)] 3)).grown hgrow (fun e => own_ge HO1.out (by omega : w.heap.size < w.heap.size + 1) e))
        have hsz1 : w.heap.size + 1 ≤ w1.heap.size := H3.out.lt
        clear hown' hgrow
        go_wp2_with fail
        go_roundw
        case rel => exact ⟨k + 1, tr ++ [x.lo], by omega, by go_num, by rw [List.length_append, HTL.out]; rfl, HK.out, H1.out, H3.out, H2.out, hsz1⟩
        case measure => simp [intOf] <;> omega
    · obtain rfl : k = sn := by omega
      have hfin := hown
      obtain ⟨A', c', rfl, hc'⟩ := own_form hfin
      have H5 := Lib.hid (Rd.of_own enc1_len hfin htl)
      have HFA := Lib.hid (fitTo_all (by rw [htl]; exact HLS.out.symm) (by rw [HLS.out]; exact hft))
      clear hbx hft hown hb hfin
      go_wp2_with fail
      go_ret
      exact ⟨tr, A', c', rfl, H5.out, HFA.out, HB2.out⟩
end Go.Proofs.Ytphdndiikikecaa

namespace Go.Proofs.Ytphdndiikikecaa
open Go.RowKit Go.Proofs
attribute [local go_sem ↓] Go.wp_at_zero Go.wp_at_succ

theorem DangerA_c {v v' : Vly} {tr : List Int} {PA SA TA : Option Addr} {pn pc sn sc tn tc : Nat} {w : World} (hok : VOk v) (hal : VAlike v v') (h : RdV w PA pn SA sn v') (hT : Rd enc1 1 w TA tn tr) (hf : Fits v tr) :
    Calls Try.prog 41 #[.agg #[.slice PA pn pc, .slice SA sn sc, .int .i64 v'.s0, .int .i64 v'.s1, .int .i64 v'.s2], .slice TA tn tc] w
      fun e w' => ∃ A1 c1 A2 c2, e = .returned (.tuple #[.slice A1 pn c1, .slice A2 pn c2, .int .i64 0]) ∧ Rd enc1 1 w' A1 pn (dangs v tr) ∧ Rd enc1 1 w' A2 pn ((dangs v tr).map (zoneOf v)) ∧ Below w.heap.size w w' := by
  have := DangerZ_c (pc := pc) (sc := sc) (tc := tc) h (hal.ok hok) hT (hal.fits hf)
  rw [hal.dangs, hal.zone] at this
  exact this
theorem ZonesA_c {v v' : Vly} {PA SA : Option Addr} {pn pc sn sc : Nat} {w : World} (hok : VOk v) (hal : VAlike v v') (h : RdV w PA pn SA sn v') :
    Calls Try.prog 19 #[.agg #[.slice PA pn pc, .slice SA sn sc, .int .i64 v'.s0, .int .i64 v'.s1, .int .i64 v'.s2]] w
      fun e w' => ∃ A1 c1 A2 c2, e = .returned (.tuple #[.slice A1 pn c1, .slice A2 pn c2, .int .i64 0]) ∧ Rd enc2 2 w' A1 pn ((dangs v (endsT v false)).zip (dangs v (endsT v true))) ∧
        Rd enc2 2 w' A2 pn (((dangs v (endsT v false)).map (zoneOf v)).zip ((dangs v (endsT v true)).map (zoneOf v))) ∧ Below w.heap.size w w' := by
  have := Zones_c (pc := pc) (sc := sc) h (hal.ok hok)
  rw [hal.ends, hal.ends, hal.dangs, hal.dangs, hal.zone] at this
  refine this.mono ?_
  rintro e w' ⟨A1, c1, A2, c2, rfl, _, _, h1, h2, hb⟩
  exact ⟨A1, c1, A2, c2, rfl, h1, h2, hb⟩

/-- what a world keeps of a truth's dangers and zones -/
def DZ (v : Vly) (pn : Nat) (tr : List Int) (a b : Value) (W : World) : Prop := ∃ A c B d, a = .slice A pn c ∧ b = .slice B pn d ∧ Rd enc1 1 W A pn (dangs v tr) ∧ Rd enc1 1 W B pn ((dangs v tr).map (zoneOf v))
theorem DZ.below {v : Vly} {pn : Nat} {tr : List Int} {a b : Value} {W W' : World} (h : DZ v pn tr a b W) (hb : Below W.heap.size W W') : DZ v pn tr a b W' := by
  obtain ⟨A, c, B, d, rfl, rfl, h1, h2⟩ := h
  exact ⟨A, c, B, d, rfl, rfl, h1.below hb, h2.below hb⟩
/-- what holds of each parcel in a truth -/
theorem truth_at {v : Vly} (hok : VOk v) {tr : List Int} (hf : Fits v tr) {i : Nat} (hi : i < v.pars.length) : ∃ d lo hi : Int,
    (dangs v tr)[i]? = some d ∧ ((dangs v tr).map (zoneOf v))[i]? = some (zoneOf v d) ∧ ((dangs v (endsT v false)).zip (dangs v (endsT v true)))[i]? = some (lo, hi) ∧
    (((dangs v (endsT v false)).map (zoneOf v)).zip ((dangs v (endsT v true)).map (zoneOf v)))[i]? = some (zoneOf v lo, zoneOf v hi) ∧
    (lo ≤ d ∧ d ≤ hi) ∧ (zoneOf v lo ≤ zoneOf v d ∧ zoneOf v d ≤ zoneOf v hi) ∧ 0 ≤ zoneOf v lo ∧ zoneOf v hi ≤ 3 := by
  have h1 := dangs_get (v := v) (tr := tr) hi
  have h2 := dangs_get (v := v) (tr := endsT v false) hi
  have h3 := dangs_get (v := v) (tr := endsT v true) hi
  have hb := truth_dang hok hf (i : Int) v.sls.length
  refine ⟨_, _, _, h1, by rw [List.getElem?_map, h1]; rfl, List.getElem?_zip_eq_some.2 ⟨h2, h3⟩, List.getElem?_zip_eq_some.2 ⟨by rw [List.getElem?_map, h2]; rfl, by rw [List.getElem?_map, h3]; rfl⟩, hb, ⟨zoneOf_mono hb.1, zoneOf_mono hb.2⟩, (zoneOf_bd v _).1, (zoneOf_bd v _).2⟩

set_option maxRecDepth 100000 in
set_option maxHeartbeats 4000000 in
theorem ZoneTruth_w {v : Vly} {ws : List UInt8} {PA SA WA : Option Addr} {pn pc sn sc wn wc : Nat} {w : World} (h : RdV w PA pn SA sn v) (hpn : pn ≤ maxLen) (hsn : sn ≤ maxLen) (hW : Rd encB 1 w WA wn ws) (hwn : wn ≤ maxLen) :
    Calls Try.prog 11 #[.agg #[.slice PA pn pc, .slice SA sn sc, .int .i64 v.s0, .int .i64 v.s1, .int .i64 v.s2], .slice WA wn wc] w fun e w' => e = .returned (.bool true) ∧ Below w.heap.size w w' := by
  have hlp := h.pars.len; have hls := h.sls.len
  have HS0 := Lib.hid (SW.new w (vA PA pn pc SA sn sc v))
  have HRY := Lib.hid (ready_c (pc := pc) (sc := sc) (h.below HS0.out.bel) hpn hsn)
  have HV := Lib.hid h; have HW := Lib.hid hW
  cases hr : readyB v
  · rw [hr] at HRY
    clear h hr hW
    go_enter Try.func11, Try.ntmps11
    go_wp2_with fail
    refine HRY.out.mono ?_
    rintro e w1 ⟨rfl, hb⟩
    have HB1 := Lib.hid (below_tr HS0.out.bel hb)
    clear hb
    go_wp2_with (go_at_call 18; refine (wakes_ok _).mono ?_; rintro e w2 ⟨rfl, hb2⟩)
    go_ret
    exact ⟨rfl, below_tr HB1.out hb2⟩
  · rw [hr] at HRY
    obtain ⟨hth, hok⟩ := readyB_iff.1 hr
    have ht := thinB_iff.1 hth
    have hpn12 : pn ≤ 12 := by have := hok.pn; omega
    have hsn10 : sn ≤ 10 := by have := hok.sn; omega
    have HWY := Lib.hid (fun (s : Sli) (hs : s ∈ v.sls) => show s.way.length ≤ 1000 from by have := ht.1 s hs; omega)
    have HOK := Lib.hid hok
    have HLP := Lib.hid hlp
    have HVW := Lib.hid (fun W (hW : Below w.heap.size w W) => Valley_c (pc := pc) (sc := sc) (HV.out.below hW) (by omega) (by omega) HWY.out)
    have HPK := Lib.hid (fun W (hW : Below w.heap.size w W) => Picked_c (pc := pc) (sc := sc) (wc := wc) HOK.out (HV.out.below hW) (HW.out.below hW) hwn)
    have HEN := Lib.hid (fun hi W (hW : Below w.heap.size w W) => Ends_c hi (pc := pc) (sc := sc) (HV.out.below hW) (by omega))
    clear h hr hW hth hok ht
    go_enter Try.func11, Try.ntmps11
    go_wp2_with fail
    refine HRY.out.mono ?_
    rintro e w1 ⟨rfl, hb⟩
    have HS1 := Lib.hid (HS0.out.below hb)
    obtain ⟨c0, c1, c2, c3, c4⟩ := HS1.out.cells
    have HVL := Lib.hid (HVW.out _ HS1.out.bel)
    clear hb HRY HS0
    go_wp2_with fail
    refine HVL.out.mono ?_
    rintro e w2 ⟨A1, d1, A2, d2, v', rfl, hv', hal, hb⟩
    have HS2 := Lib.hid (HS1.out.below hb)
    have HZN := Lib.hid (ZonesA_c (pc := d1) (sc := d2) HOK.out hal hv')
    clear c0 c1 c2 c3 c4 hb hal hv' HVL HS1
    go_wp2_with fail
    refine HZN.out.mono ?_
    rintro e w3 ⟨B1, e1, B2, e2, rfl, hr1, hr2, hb⟩
    have HS3 := Lib.hid (HS2.out.below hb)
    have HR1 := Lib.hid hr1; have HR2 := Lib.hid hr2
    clear hb hr1 hr2 HZN HS2
    obtain ⟨c0, c1, c2, c3, c4⟩ := HS3.out.cells
    go_upto_region 4 with fail
    go_cut [8, 9, 10] (fun a b c wx => c = .int .i64 0 ∧ (∃ tr, Fits v tr ∧ DZ v pn tr a b wx) ∧ Below w3.heap.size w3 wx ∧ SW w w.heap.size (vA PA pn pc SA sn sc v) wx)
    case first =>
      go_region_held3 (fun w' => w'.cell? ⟨w.heap.size, 0, none⟩ = some (.slice PA pn pc) ∧ w'.cell? ⟨w.heap.size, 1, none⟩ = some (.slice SA sn sc) ∧ w'.cell? ⟨w.heap.size, 2, none⟩ = some (.int .i64 v.s0) ∧ w'.cell? ⟨w.heap.size, 3, none⟩ = some (.int .i64 v.s1) ∧ w'.cell? ⟨w.heap.size, 4, none⟩ = some (.int .i64 v.s2))
        (first | exact HS3.out.drew.cells | exact HS3.out.cells | exact hs5.1.cells | assumption)
        (first
          | (go_at_call 20; with_reducible refine (HVW.out _ (by first | exact hs5.1.bel | exact HS3.out.drew.bel | exact HS3.out.bel)).mono ?_; rintro e w5 ⟨A3, d3, A4, d4, v'', rfl, rv, hal, hb5⟩; (try replace rp := rp.below hb5); (first | replace hs5 := And.intro (hs5.1.below hb5) (below_tr hs5.2 hb5) | have hs5 := And.intro (HS3.out.drew.below hb5) (below_tr (Below.refl _ w3).drew hb5)))
          | (go_at_call 43; with_reducible refine (HPK.out _ (by first | exact hs5.1.bel | exact HS3.out.drew.bel | exact HS3.out.bel)).mono ?_; rintro e w5 ⟨tr, TA, tc, rfl, rp, hfp, hb5⟩; (try replace rv := rv.below hb5); (first | replace hs5 := And.intro (hs5.1.below hb5) (below_tr hs5.2 hb5) | have hs5 := And.intro (HS3.out.drew.below hb5) (below_tr (Below.refl _ w3).drew hb5)))
          | (go_at_call 41; with_reducible refine (DangerA_c HOK.out hal rv rp hfp).mono ?_; rintro e w6 ⟨A5, c5, A6, c6, rfl, hr3, hr4, hb6⟩; replace hs5 := And.intro (hs5.1.below hb6) (below_tr hs5.2 hb6)))
      all_goals
        go_wp2_with fail
        go_meet
        exact ⟨rfl, ⟨tr, hfp, A5, c5, A6, c6, rfl, rfl, hr3, hr4⟩, hs5.2, hs5.1⟩
    case rest =>
      obtain ⟨rfl, ⟨tr, hft, hdz⟩, hb, hsw⟩ := hcut
      obtain ⟨W4, hW4⟩ : ∃ W4, W4 = wc := ⟨_, rfl⟩
      rw [← hW4] at hdz hb hsw ⊢
      clear hW4
      have HFT := Lib.hid hft; have HD4 := Lib.hid hdz; have HS4 := Lib.hid hsw
      have HR3 := Lib.hid (HR1.out.below hb); have HR4 := Lib.hid (HR2.out.below hb)
      clear hft hdz hsw hb HS3 c0 c1 c2 c3 c4
      obtain ⟨c0, c1, c2, c3, c4⟩ := HS4.out.cells
      go_upto_region 5 with fail
      go_cut [11, 12, 13] (fun a b c wx => c = .int .i64 0 ∧ DZ v pn (endsT v false) a b wx ∧ Below W4.heap.size W4 wx ∧ SW w w.heap.size (vA PA pn pc SA sn sc v) wx)
      case first =>
        go_region_held3 (fun w' => w'.cell? ⟨w.heap.size, 0, none⟩ = some (.slice PA pn pc) ∧ w'.cell? ⟨w.heap.size, 1, none⟩ = some (.slice SA sn sc) ∧ w'.cell? ⟨w.heap.size, 2, none⟩ = some (.int .i64 v.s0) ∧ w'.cell? ⟨w.heap.size, 3, none⟩ = some (.int .i64 v.s1) ∧ w'.cell? ⟨w.heap.size, 4, none⟩ = some (.int .i64 v.s2))
          (first | exact HS4.out.drew.cells | exact HS4.out.cells | exact hs5.1.cells | assumption)
          (first
            | (go_at_call 20; with_reducible refine (HVW.out _ (by first | exact hs5.1.bel | exact HS4.out.drew.bel | exact HS4.out.bel)).mono ?_; rintro e w5 ⟨A3, d3, A4, d4, v'', rfl, rv, hal, hb5⟩; (try replace rp := rp.below hb5); (first | replace hs5 := And.intro (hs5.1.below hb5) (below_tr hs5.2 hb5) | have hs5 := And.intro (HS4.out.drew.below hb5) (below_tr (Below.refl _ W4).drew hb5)))
            | (go_at_call 23; with_reducible refine (HEN.out false _ (by first | exact hs5.1.bel | exact HS4.out.drew.bel | exact HS4.out.bel)).mono ?_; rintro e w5 ⟨TA, tc, rfl, rp, hb5⟩; (try replace rv := rv.below hb5); (first | replace hs5 := And.intro (hs5.1.below hb5) (below_tr hs5.2 hb5) | have hs5 := And.intro (HS4.out.drew.below hb5) (below_tr (Below.refl _ W4).drew hb5)))
            | (go_at_call 41; with_reducible refine (DangerA_c HOK.out hal rv rp (endsT_fits HOK.out false)).mono ?_; rintro e w6 ⟨A5, c5, A6, c6, rfl, hr3, hr4, hb6⟩; replace hs5 := And.intro (hs5.1.below hb6) (below_tr hs5.2 hb6)))
        all_goals
          go_wp2_with fail
          go_meet
          exact ⟨rfl, ⟨A5, c5, A6, c6, rfl, rfl, hr3, hr4⟩, hs5.2, hs5.1⟩
      case rest =>
        obtain ⟨rfl, hdz, hb, hsw⟩ := hcut
        obtain ⟨W5, hW5⟩ : ∃ W5, W5 = wc := ⟨_, rfl⟩
        rw [← hW5] at hdz hb hsw ⊢
        clear hW5
        have HD5 := Lib.hid (HD4.out.below hb); have HL5 := Lib.hid hdz; have HS5 := Lib.hid hsw
        have HR5 := Lib.hid (HR3.out.below hb); have HR6 := Lib.hid (HR4.out.below hb)
        clear hdz hsw hb HS4 HR3 HR4 HD4 c0 c1 c2 c3 c4
        obtain ⟨c0, c1, c2, c3, c4⟩ := HS5.out.cells
        go_upto_region 6 with fail
        go_cut [14, 15, 16] (fun a b c wx => c = .int .i64 0 ∧ DZ v pn (endsT v true) a b wx ∧ Below W5.heap.size W5 wx ∧ SW w w.heap.size (vA PA pn pc SA sn sc v) wx)
        case first =>
          go_region_held3 (fun w' => w'.cell? ⟨w.heap.size, 0, none⟩ = some (.slice PA pn pc) ∧ w'.cell? ⟨w.heap.size, 1, none⟩ = some (.slice SA sn sc) ∧ w'.cell? ⟨w.heap.size, 2, none⟩ = some (.int .i64 v.s0) ∧ w'.cell? ⟨w.heap.size, 3, none⟩ = some (.int .i64 v.s1) ∧ w'.cell? ⟨w.heap.size, 4, none⟩ = some (.int .i64 v.s2))
            (first | exact HS5.out.drew.cells | exact HS5.out.cells | exact hs5.1.cells | assumption)
            (first
              | (go_at_call 20; with_reducible refine (HVW.out _ (by first | exact hs5.1.bel | exact HS5.out.drew.bel | exact HS5.out.bel)).mono ?_; rintro e w5 ⟨A3, d3, A4, d4, v'', rfl, rv, hal, hb5⟩; (try replace rp := rp.below hb5); (first | replace hs5 := And.intro (hs5.1.below hb5) (below_tr hs5.2 hb5) | have hs5 := And.intro (HS5.out.drew.below hb5) (below_tr (Below.refl _ W5).drew hb5)))
              | (go_at_call 23; with_reducible refine (HEN.out true _ (by first | exact hs5.1.bel | exact HS5.out.drew.bel | exact HS5.out.bel)).mono ?_; rintro e w5 ⟨TA, tc, rfl, rp, hb5⟩; (try replace rv := rv.below hb5); (first | replace hs5 := And.intro (hs5.1.below hb5) (below_tr hs5.2 hb5) | have hs5 := And.intro (HS5.out.drew.below hb5) (below_tr (Below.refl _ W5).drew hb5)))
              | (go_at_call 41; with_reducible refine (DangerA_c HOK.out hal rv rp (endsT_fits HOK.out true)).mono ?_; rintro e w6 ⟨A5, c5, A6, c6, rfl, hr3, hr4, hb6⟩; replace hs5 := And.intro (hs5.1.below hb6) (below_tr hs5.2 hb6)))
          all_goals
            go_wp2_with fail
            go_meet
            exact ⟨rfl, ⟨A5, c5, A6, c6, rfl, rfl, hr3, hr4⟩, hs5.2, hs5.1⟩
        case rest =>
          obtain ⟨rfl, hdz, hb, hsw⟩ := hcut
          obtain ⟨W6, hW6⟩ : ∃ W6, W6 = wc := ⟨_, rfl⟩
          rw [← hW6] at hdz hb hsw ⊢
          clear hW6
          obtain ⟨X1, x1, X2, x2, rfl, rfl, hd1, hd2⟩ := HD5.out.below hb
          obtain ⟨X3, x3, X4, x4, rfl, rfl, hl1, hl2⟩ := HL5.out.below hb
          obtain ⟨X5, x5, X6, x6, rfl, rfl, hh1, hh2⟩ := hdz
          have HS6 := Lib.hid hsw
          have HR7 := Lib.hid (HR5.out.below hb); have HR8 := Lib.hid (HR6.out.below hb)
          have HD1 := Lib.hid hd1; have HD2 := Lib.hid hd2
          have HLN := Lib.hid (show (dangs v (endsT v true)).length = (dangs v (endsT v false)).length by rw [dangs_len, dangs_len])
          have HRA := Lib.hid (rangesL_c (c := e1) (c1 := x3) (c2 := x5) HR7.out hl1 hh1 (by omega))
          rw [rng_zip HLN.out] at HRA
          have HRB := Lib.hid (fun W (hW : Below W6.heap.size W6 W) => rangesL_c (c := e2) (c1 := x4) (c2 := x6) (HR8.out.below hW) (hl2.below hW) (hh2.below hW) (by omega))
          rw [rng_zip (by rw [List.length_map, List.length_map]; exact HLN.out)] at HRB
          clear hsw hb HS5 HR5 HR6 HD5 HL5 hd1 hd2 hl1 hl2 hh1 hh2 c0 c1 c2 c3 c4
          obtain ⟨c0, c1, c2, c3, c4⟩ := HS6.out.cells
          go_wp2_with fail
          refine HRA.out.mono ?_
          rintro e wa ⟨rfl, hba⟩
          go_wp2_with fail
          refine (HRB.out _ hba).mono ?_
          rintro e wb ⟨rfl, hbb⟩
          have HBY := Lib.hid (below_tr hba hbb)
          clear hba hbb HRA HRB
          go_wp2_with fail
          go_loopw [18] (fun i wr => ∃ k : Nat, k ≤ pn ∧ i = .int .i64 k ∧ Below W6.heap.size W6 wr) (fun i _ => pn - (intOf i).toNat)
          case atStart => exact ⟨0, Nat.zero_le _, rfl, HBY.out⟩
          case round =>
            obtain ⟨k, hk, rfl, hb⟩ := hrel
            have HB := Lib.hid hb
            by_cases hlt : k < pn
            · obtain ⟨d, lo, hi, t1, t2, t3, t4, t5, t6, t7, t8⟩ := truth_at HOK.out HFT.out (i := k) (by have := HLP.out; omega)
              obtain ⟨b1, o1, y1, hA1, hl1, hy1, a1⟩ := (HD1.out.below hb).at1 hlt
              obtain ⟨b2, o2, y2, hA2, hl2, hy2, a2⟩ := (HD2.out.below hb).at1 hlt
              obtain ⟨b3, o3, y3, hA3, hl3, hy3, a3, a3'⟩ := (HR7.out.below hb).at2 hlt
              obtain ⟨b4, o4, y4, hA4, hl4, hy4, a4, a4'⟩ := (HR8.out.below hb).at2 hlt
              subst hA1 hA2 hA3 hA4
              rw [t1] at hy1; cases hy1
              rw [t2] at hy2; cases hy2
              rw [t3] at hy3; cases hy3
              rw [t4] at hy4; cases hy4
              simp only at a3 a3' a4 a4'
              clear t1 t2 t3 t4 hb
              generalize zoneOf v d = zd at a2 t6
              generalize zoneOf v lo = zl at a4 t6 t7
              generalize zoneOf v hi = zh at a4' t6 t8
              have n1 : decide (d < lo) = false := decide_eq_false (by omega)
              have n2 : decide (hi < d) = false := decide_eq_false (by omega)
              have n3 : decide (zd < zl) = false := decide_eq_false (by omega)
              have n4 : decide (zh < zd) = false := decide_eq_false (by omega)
              have n5 : decide (zl < 0) = false := decide_eq_false (by omega)
              have n6 : decide (3 < zh) = false := decide_eq_false (by omega)
              have hkn : (k : Int) < (pn : Int) := by omega
              have hk0 : (0 : Int) ≤ (k : Int) := by omega
              go_wp2_with fail
              go_quiet (fail)
              go_wp2_with fail
              go_roundw
              case rel => exact ⟨k + 1, by omega, by go_num, below_drewN HB.out _⟩
              case measure => simp [intOf] <;> omega
            · obtain rfl : k = pn := by omega
              clear hb
              have HBE := Lib.hid (below_tr HS6.out.bel HB.out)
              go_wp2_with (go_at_call 18; refine (wakes_ok _).mono ?_; rintro e w9 ⟨rfl, hb9⟩)
              go_ret
              exact ⟨rfl, below_tr HBE.out hb9⟩
end Go.Proofs.Ytphdndiikikecaa

namespace Go.Proofs.Ytphdndiikikecaa
open Go.RowKit Go.Proofs

/-- the valley whose first k steps are greater -/
def stp (v : Vly) (m : Int) : Nat → Vly
  | 0 => v
  | 1 => ⟨v.pars, v.sls, v.s0 + m, v.s1, v.s2⟩
  | 2 => ⟨v.pars, v.sls, v.s0 + m, v.s1 + m, v.s2⟩
  | _ => ⟨v.pars, v.sls, v.s0 + m, v.s1 + m, v.s2 + m⟩
theorem vA_set2 (PA : Option Addr) (pn pc : Nat) (SA : Option Addr) (sn sc : Nat) (v : Vly) (m : Int) : (vA PA pn pc SA sn sc (stp v m 0)).setIfInBounds 2 (.int .i64 (v.s0 + m)) = vA PA pn pc SA sn sc (stp v m 1) := rfl
theorem vA_set3 (PA : Option Addr) (pn pc : Nat) (SA : Option Addr) (sn sc : Nat) (v : Vly) (m : Int) : (vA PA pn pc SA sn sc (stp v m 1)).setIfInBounds 3 (.int .i64 (v.s1 + m)) = vA PA pn pc SA sn sc (stp v m 2) := rfl
theorem vA_set4 (PA : Option Addr) (pn pc : Nat) (SA : Option Addr) (sn sc : Nat) (v : Vly) (m : Int) : (vA PA pn pc SA sn sc (stp v m 2)).setIfInBounds 4 (.int .i64 (v.s2 + m)) = vA PA pn pc SA sn sc (stp v m 3) := rfl
theorem vA_set1' (PA : Option Addr) (pn pc : Nat) (SA : Option Addr) (sn sc : Nat) (v : Vly) (A : Option Addr) (n c : Nat) : (vA PA pn pc SA sn sc v).setIfInBounds 1 (.slice A n c) = vA PA pn pc A n c v := rfl
/-- two copies of a box have been made, behind all that lies -/
def CopB (w1 : World) (s : Nat) (VC : Array Value) (a b : Value) (W : World) : Prop := ∃ bx bz, a = .pointer (some ⟨bx, 0, none⟩) ∧ b = .pointer (some ⟨bz, 0, none⟩) ∧ MS w1 s bx bz VC VC VC W
theorem CopB.one {w1 : World} {s : Nat} {VC : Array Value} (h : Blk w1 s 26 VC) : CopB w1 s VC (.pointer (some ⟨w1.heap.size, 0, none⟩)) (.pointer (some ⟨w1.heap.size + 1, 0, none⟩)) (((w1.alloc (.cells VC 26)).alloc (.cells VC 26)).drew) := by
  have hl := h.lt
  have hb : Below w1.heap.size w1 ((w1.alloc (.cells VC 26)).alloc (.cells VC 26)) := ((Below.refl _ w1).alloc (Nat.le_refl _) _).alloc (by simp) _
  have h2 := Blk.new (w1.alloc (.cells VC 26)) 26 VC
  rw [World.size_alloc] at h2
  exact ⟨_, _, rfl, rfl, (show MS w1 s w1.heap.size (w1.heap.size + 1) VC VC VC _ from ⟨hb, h.below hb hl, (Blk.new w1 _ VC).alloc _, h2, by omega, by omega, by omega, by omega, by omega⟩).drew⟩
theorem CopB.two {w1 : World} {s : Nat} {VC : Array Value} (h : Blk w1 s 26 VC) : CopB w1 s VC (.pointer (some ⟨w1.heap.size + 1, 0, none⟩)) (.pointer (some ⟨w1.heap.size, 0, none⟩)) (((w1.alloc (.cells VC 26)).alloc (.cells VC 26)).drew) := by
  have hl := h.lt
  have hb : Below w1.heap.size w1 ((w1.alloc (.cells VC 26)).alloc (.cells VC 26)) := ((Below.refl _ w1).alloc (Nat.le_refl _) _).alloc (by simp) _
  have h2 := Blk.new (w1.alloc (.cells VC 26)) 26 VC
  rw [World.size_alloc] at h2
  exact ⟨_, _, rfl, rfl, (show MS w1 s (w1.heap.size + 1) w1.heap.size VC VC VC _ from ⟨hb, h.below hb hl, h2, (Blk.new w1 _ VC).alloc _, by omega, by omega, by omega, by omega, by omega⟩).drew⟩
/-- an append of a list, in a region that draws its order -/
theorem step_append_rd {P : Program} {w : World} {ops : Array Oper} {o : Oper} {a : Act} {K : Act → World → Prop} {Q : Exit → Act → World → Prop} {E : Prop} (hgd : o.guard = none) (s x : Operand) (t : TypeId)
    (ho : o.op = .call { callee := .builtin .append, args := #[s, x], argTypes := #[t, t] })
    (base : Nat) (e : TypeId) (i : TypeInfo) (z : Value) (size bytes : Nat) (ht : P.underlying t = some (.slice e)) (hi : P.info? e = some i) (hz : i.zero = some z)
    (hsize : i.size = size) (hby : i.bytes = bytes) (hzs : z.cells.size = size) (hsz : 0 < size)
    (v : Value) (n : Nat) (xs : List Value) (hs : a.eval s = v) (hown : w.ownsRow base e size v n xs)
    {α : Type} {enc : α → List Value} (hk : ∀ x, (enc x).length = size) (h1 : ∀ x, ∀ u ∈ enc x, u.oneCell' = true)
    (A : Option Addr) (m c : Nat) (l : List α) (hx : a.eval x = .slice A m c) (hr : Rd enc size w A m l)
    (h63 : n + m ≤ maxLen) (hbytes : (n + m) * bytes ≤ 140737488355328) (hbase : base ≤ w.heap.size)
    (h : ∀ v' w', w'.ownsRow base e size v' (n + m) (xs ++ l.flatMap enc) → w.grownBy w' v.ownBlock → K (a.put o.dst v') w') :
    if Region.wanted o (yielded ops a.tmps) = true then Oper.wp P o a w K Q else E := by
  rcases A with _ | ad
  · obtain ⟨rfl, rfl⟩ := hr.none_zero
    have hrun := run_append_nilc (P := P) (w := w) (ty := o.type) ht hi hown c
    exact step_append_run hgd s x t ho _ _ _ _ hs hx hrun (h v w (by simpa using hown) (World.grownBy.refl w _))
  · have hl : (l.flatMap enc).length = m * size := by
      have : ∀ l : List α, (l.flatMap enc).length = l.length * size := fun l => by
        induction l with
        | nil => simp
        | cons x l ih => rw [List.flatMap_cons, List.length_append, ih, hk, List.length_cons, Nat.add_mul, Nat.one_mul, Nat.add_comm]
      rw [this, hr.1]
    obtain ⟨v', w', hrun, h2, h3, _, _⟩ := run_append_own_at (P := P) w base t o.type e i z size bytes ht hi hz hsize hby hzs hsz v n xs hown ad m c (l.flatMap enc) hl (hr.news hk) (fun u hu => by
      obtain ⟨x, _, hx⟩ := List.mem_flatMap.1 hu
      exact h1 x u hx) h63 hbytes hbase
    exact step_append_run hgd s x t ho _ _ _ _ hs hx hrun (h v' w' h2 h3)

/-- a literal's cells, behind an append to another block -/
theorem news_grown {Wa w6 : World} {B eb : Nat} {cs : Array Value} {t : TypeId} {fr : Nat × Nat} (hB : Wa.heap[B]? = some (.cells cs t fr)) (hg : Wa.grownBy w6 (some eb)) (hne : B ≠ eb) : ∀ j u, cs.toList[j]? = some u → w6.cell? ((⟨B, 0, none⟩ : Addr).add j) = some u := by
  intro j u hj
  have h0 := World.news_of_block hB j u hj
  have hb : ((⟨B, 0, none⟩ : Addr).add j).block = B := by unfold Addr.add; split <;> rfl
  have hl : B < Wa.heap.size := (Array.getElem?_eq_some_iff.1 hB).1
  rw [hg.cell_far _ (by rw [hb]; exact hl) (by rw [hb]; intro e; cases e; exact hne rfl)]
  exact h0
theorem news_two {W3 w6 : World} {cs : Array Value} {t e : TypeId} {n c : Nat} (hg : (((W3.alloc (.cells #[] e)).alloc (.cells cs t)).drew).grownBy w6 (Value.slice (some ⟨W3.heap.size, 0, none⟩) n c).ownBlock) : ∀ j u, cs.toList[j]? = some u → w6.cell? ((⟨W3.heap.size + 1, 0, none⟩ : Addr).add j) = some u := by
  have h0 := heap_alloc_new (W3.alloc (.cells #[] e)) (.cells cs t)
  rw [World.size_alloc] at h0
  exact news_grown (Wa := ((W3.alloc (.cells #[] e)).alloc (.cells cs t)).drew) (B := W3.heap.size + 1) (eb := W3.heap.size) (cs := cs) (t := t) (fr := (0, 0)) h0 hg (by omega)
theorem news_one {W3 w6 : World} {cs : Array Value} {t e : TypeId} {n c : Nat} (hg : (((W3.alloc (.cells cs t)).alloc (.cells #[] e)).drew).grownBy w6 (Value.slice (some ⟨W3.heap.size + 1, 0, none⟩) n c).ownBlock) : ∀ j u, cs.toList[j]? = some u → w6.cell? ((⟨W3.heap.size, 0, none⟩ : Addr).add j) = some u := by
  have h1 := (Blk.new W3 t cs).alloc (.cells #[] e)
  exact news_grown (Wa := ((W3.alloc (.cells cs t)).alloc (.cells #[] e)).drew) (B := W3.heap.size) (eb := W3.heap.size + 1) (cs := cs) (t := t) (fr := (0, 0)) h1 hg (by omega)
theorem own_low' {w : World} {b b' : Nat} {e : TypeId} {k n : Nat} {v : Value} {xs : List Value} (h : w.ownsRow b e k v n xs) (hb : b' ≤ b) : w.ownsRow b' e k v n xs := by
  refine ⟨h.1, ?_⟩
  rcases h.2 with h0 | ⟨g, cap, cur, hv, hbg, r⟩
  · exact .inl h0
  · exact .inr ⟨g, cap, cur, hv, Nat.le_trans hb hbg, r⟩
theorem own_two (W3 : World) (t : TypeId) (cs : Array Value) (e : TypeId) (k : Nat) : ((W3.alloc (.cells cs t)).alloc (.cells #[] e)).ownsRow W3.heap.size e k (.slice (some ⟨W3.heap.size + 1, 0, none⟩) 0 0) 0 [] := by
  have h0 := own_empty (W3.alloc (.cells cs t)) e k
  rw [World.size_alloc] at h0
  exact own_low' h0 (by omega)
section
variable {v : Vly} {s : Sli} {i : Nat}
theorem ztd_get (hi : i < v.pars.length) : ((dangs v (endsT v false)).zip (dangs v (endsT v true)))[i]? = some (dTo v.sls (endsT v false) (i : Int) v.sls.length, dTo v.sls (endsT v true) (i : Int) v.sls.length) :=
  List.getElem?_zip_eq_some.2 ⟨dangs_get hi, dangs_get hi⟩
theorem ztz_get (hi : i < v.pars.length) : (((dangs v (endsT v false)).map (zoneOf v)).zip ((dangs v (endsT v true)).map (zoneOf v)))[i]? = some (zoneOf v (dTo v.sls (endsT v false) (i : Int) v.sls.length), zoneOf v (dTo v.sls (endsT v true) (i : Int) v.sls.length)) :=
  List.getElem?_zip_eq_some.2 ⟨by rw [List.getElem?_map, dangs_get hi]; rfl, by rw [List.getElem?_map, dangs_get hi]; rfl⟩
theorem ends_more (b : Bool) : endsT ⟨v.pars, v.sls ++ [s], v.s0, v.s1, v.s2⟩ b = endsT v b ++ [if b then s.hi else s.lo] := by simp [endsT]
theorem d_more (hr : 0 ≤ s.rate ∧ s.rate ≤ 1000) (b : Bool) (p : Int) : dTo v.sls (endsT v b) p v.sls.length ≤ dTo (v.sls ++ [s]) (endsT ⟨v.pars, v.sls ++ [s], v.s0, v.s1, v.s2⟩ b) p (v.sls ++ [s]).length := by
  rw [ends_more]
  exact dTo_more_le endsT_len hr
end
/-- the dangers as ranges -/
def dgs (v : Vly) : List (Int × Int) := (dangs v (endsT v false)).zip (dangs v (endsT v true))
/-- the zones as ranges -/
def zns (v : Vly) : List (Int × Int) := ((dangs v (endsT v false)).map (zoneOf v)).zip ((dangs v (endsT v true)).map (zoneOf v))
theorem x_at {v : Vly} {m : Int} (hm : 0 ≤ m) {i : Nat} (hi : i < v.pars.length) : ∃ dl dh zl zh yl yh : Int, (dgs v)[i]? = some (dl, dh) ∧ (zns v)[i]? = some (zl, zh) ∧ (dgs (stp v m 3))[i]? = some (dl, dh) ∧ (zns (stp v m 3))[i]? = some (yl, yh) ∧ yl ≤ zl ∧ yh ≤ zh :=
  ⟨_, _, _, _, _, _, ztd_get hi, ztz_get hi, ztd_get (v := stp v m 3) hi, ztz_get (v := stp v m 3) hi,
    zoneOf_steps (by show v.s0 ≤ v.s0 + m; omega) (by show v.s1 ≤ v.s1 + m; omega) (by show v.s2 ≤ v.s2 + m; omega),
    zoneOf_steps (by show v.s0 ≤ v.s0 + m; omega) (by show v.s1 ≤ v.s1 + m; omega) (by show v.s2 ≤ v.s2 + m; omega)⟩
theorem y_at {v y : Vly} {s : Sli} (hy : y = ⟨v.pars, v.sls ++ [s], v.s0, v.s1, v.s2⟩) (hok : VOk y) {i : Nat} (hi : i < v.pars.length) : ∃ dl dh zl zh el eh yl yh : Int, (dgs v)[i]? = some (dl, dh) ∧ (zns v)[i]? = some (zl, zh) ∧ (dgs y)[i]? = some (el, eh) ∧ (zns y)[i]? = some (yl, yh) ∧ dl ≤ el ∧ dh ≤ eh ∧ zl ≤ yl ∧ zh ≤ yh := by
  have hr : 0 ≤ s.rate ∧ s.rate ≤ 1000 := by
    have := (hok.slide (k := v.sls.length) (s := s) (by rw [hy]; simp)).2.2.1
    omega
  subst hy
  have h1 := d_more (v := v) hr false (i : Int)
  have h2 := d_more (v := v) hr true (i : Int)
  have hz : ∀ d, zoneOf ⟨v.pars, v.sls ++ [s], v.s0, v.s1, v.s2⟩ d = zoneOf v d := fun _ => rfl
  exact ⟨_, _, _, _, _, _, _, _, ztd_get hi, ztz_get hi, ztd_get (v := ⟨v.pars, v.sls ++ [s], v.s0, v.s1, v.s2⟩) hi, ztz_get (v := ⟨v.pars, v.sls ++ [s], v.s0, v.s1, v.s2⟩) hi, h1, h2, by rw [hz]; exact zoneOf_mono h1, by rw [hz]; exact zoneOf_mono h2⟩
theorem ZonesB_c {v v' : Vly} {PA SA : Option Addr} {pn pc sn sc : Nat} {w : World} (hok : VOk v) (hal : VAlike v v') (h : RdV w PA pn SA sn v') :
    Calls Try.prog 19 #[.agg #[.slice PA pn pc, .slice SA sn sc, .int .i64 v'.s0, .int .i64 v'.s1, .int .i64 v'.s2]] w
      fun e w' => ∃ A1 c1 A2 c2, e = .returned (.tuple #[.slice A1 pn c1, .slice A2 pn c2, .int .i64 0]) ∧ Rd enc2 2 w' A1 pn (dgs v) ∧ Rd enc2 2 w' A2 pn (zns v) ∧ Below w.heap.size w w' := ZonesA_c hok hal h
end Go.Proofs.Ytphdndiikikecaa

namespace Go.Proofs.Ytphdndiikikecaa
open Go.RowKit Go.Proofs
attribute [local go_sem ↓] Go.wp_at_zero Go.wp_at_succ

theorem infoTSli : (Try.prog.info? 62).map (fun i => (i.zero, i.size, i.bytes)) = some (some (.agg #[.slice none 0 0, .int .i64 0, .int .i64 0, .int .i64 0]), 4, 48) := by kernel_rfl
/-- the worlds in the course of told -/
structure TS (w : World) (PA : Option Addr) (pn pc g sn c : Nat) (v : Vly) (r : List (Int × Int)) (k : Nat) (W : World) : Prop where
  ms : ∃ SC, MS w w.heap.size (w.heap.size + 1) (w.heap.size + 1 + 1) SC zeroV (vA PA pn pc (some ⟨g, 0, none⟩) sn c v) W
  sl : Rd encS 4 W (some ⟨g, 0, none⟩) sn (toldK v.sls r k)
  fz : ∀ j, W.frozen? ⟨g, j, none⟩ = false
  lo : w.heap.size + 1 + 1 + 1 ≤ g
  lt : g < W.heap.size
theorem rd_drewN {α : Type} {enc : α → List Value} {k : Nat} {w : World} {A : Option Addr} {n : Nat} {l : List α} (h : Rd enc k w A n l) (m : Nat) : Rd enc k (w.drewN m) A n l := h.mono (below_drewN (Below.refl _ _) m)
theorem TS.step {w W : World} {PA : Option Addr} {pn pc g sn c k m : Nat} {v : Vly} {r : List (Int × Int)} (h : TS w PA pn pc g sn c v r k W) {s : Sli} {x : Int × Int} (hs : v.sls[k]? = some s) (hx : r[k]? = some x) (hk : k < sn) :
    TS w PA pn pc g sn c v r (k + 1) (((W.drewN m).setCell ⟨g, k * 4 + 2, none⟩ (.int .i64 x.1)).setCell ⟨g, k * 4 + 3, none⟩ (.int .i64 x.2)) := by
  obtain ⟨SC, hm⟩ := h.ms
  have hlo := h.lo
  have h0 : (toldK v.sls r k)[k]? = some s := by rw [toldK_ge (Nat.le_refl _)]; exact hs
  have h1 := Rd.set1 (x' := ⟨s.A, s.n, s.c, s.way, s.rate, x.1, s.hi⟩) (r := 2) (u := .int .i64 x.1) encS_len (rd_drewN h.sl m) h0 (by omega) rfl (fun j hj hne => by
    match j, hj, hne with
    | 0, _, _ => rfl
    | 1, _, _ => rfl
    | 2, _, h => exact absurd rfl h
    | 3, _, _ => rfl)
  have hk1 : ((toldK v.sls r k).set k ⟨s.A, s.n, s.c, s.way, s.rate, x.1, s.hi⟩)[k]? = some ⟨s.A, s.n, s.c, s.way, s.rate, x.1, s.hi⟩ := by
    rw [List.getElem?_set, if_pos rfl, if_pos (lt_of_get h0)]
  have h2 := Rd.set1 (x' := ⟨s.A, s.n, s.c, s.way, s.rate, x.1, x.2⟩) (r := 3) (u := .int .i64 x.2) encS_len h1 hk1 (by omega) rfl (fun j hj hne => by
    match j, hj, hne with
    | 0, _, _ => rfl
    | 1, _, _ => rfl
    | 2, _, _ => rfl
    | 3, _, h => exact absurd rfl h)
  rw [List.set_set, toldK_succ hs hx, Nat.zero_add] at h2
  have hms := ((hm.drewN m).setO (p := ⟨g, k * 4 + 2, none⟩) (by simp; omega) (.int .i64 x.1)).setO (p := ⟨g, k * 4 + 3, none⟩) (by simp; omega) (.int .i64 x.2)
  refine ⟨⟨SC, hms⟩, h2, fun j => ?_, h.lo, by simpa [World.setCell] using h.lt⟩
  have := h.fz j
  simpa [World.frozen?_setCell] using this
set_option maxRecDepth 100000 in
set_option maxHeartbeats 2000000 in
theorem told_c {v : Vly} {r : List (Int × Int)} {PA SA B : Option Addr} {pn pc sn sc bc : Nat} {w : World} (h : RdV w PA pn SA sn v) (hr : Rd enc2 2 w B sn r) (hsn : 1 ≤ sn ∧ sn ≤ 10) :
    Calls Try.prog 50 #[.agg #[.slice PA pn pc, .slice SA sn sc, .int .i64 v.s0, .int .i64 v.s1, .int .i64 v.s2], .slice B sn bc] w fun e w' => ∃ A c, e = .returned (.agg #[.slice PA pn pc, .slice A sn c, .int .i64 v.s0, .int .i64 v.s1, .int .i64 v.s2]) ∧ RdV w' PA pn A sn (toldV v r) ∧ Below w.heap.size w w' := by
  obtain ⟨j0, hi0, hz0, hz1, hz2⟩ := info_parts infoTSli
  have JI := Lib.hid hi0; have JZ0 := Lib.hid hz0; have JZ1 := Lib.hid hz1; have JZ2 := Lib.hid hz2
  clear hi0 hz0 hz1 hz2
  have HLS := Lib.hid h.sls.len; have HLR := Lib.hid hr.len
  have HV := Lib.hid h; have HR := Lib.hid hr
  have hb3 := blk3l w (vA PA pn pc SA sn sc v) zeroV (vA PA pn pc SA sn sc v) 26 26 26
  obtain ⟨W2, hW2⟩ : ∃ W2 : World, W2 = ((w.alloc (.cells (vA PA pn pc SA sn sc v) 26)).alloc (.cells zeroV 26)).alloc (.cells (vA PA pn pc SA sn sc v) 26) := ⟨_, rfl⟩
  have hsz : W2.heap.size = w.heap.size + 1 + 1 + 1 := by rw [hW2]; simp
  rw [← hW2] at hb3
  obtain ⟨q1, q2, q3, q4⟩ := hb3
  have HMS : MS w w.heap.size (w.heap.size + 1) (w.heap.size + 1 + 1) (vA PA pn pc SA sn sc v) zeroV (vA PA pn pc SA sn sc v) W2 := ⟨q4, q2, q3, q1, by omega, by omega, by omega, by omega, by omega⟩
  have HM := Lib.hid HMS
  have HS2 := Lib.hid (h.below q4)
  have hW := hW2.symm
  have c1 := q2.cell 1
  simp at c1
  have cl1 := q2.lt
  clear h hr q1 q2 q3 q4 HMS hW2
  go_enter Try.func50, Try.ntmps50
  go_wp2_with (at_builtin; go_must (refine wpList_append_rd rfl _ _ 23 rfl W2.heap.size 62 j0 _ 4 48 Try.underlying23 JI.out JZ0.out JZ1.out JZ2.out rfl (by decide) _ 0 [] (by rw [hsz]; rfl) (own_empty W2 _ 4) encS_len oneS4 SA sn sc v.sls rfl (HS2.out.sls.below ((Below.refl _ W2).alloc (Nat.le_refl _) _)) (by unfold maxLen; omega) (by omega) (by simp) ?_; intro v9 w9 hown9 hgrow9; rw [Nat.zero_add, List.nil_append] at hown9; obtain ⟨g, c9, rfl, hg9, hgl9, hgf9⟩ := own_some hown9 (by omega); have HB9 := Lib.hid (copy_below rfl hgrow9); have HM9 := Lib.hid (HM.out.below HB9.out); have z9 := HM9.out.zs.cell 1; have zf9 := HM9.out.zs.frozen 1; simp at z9))
  have hT0 : TS w PA pn pc g sn c9 v r 0 (w9.setCell ⟨w.heap.size + 1 + 1, 1, none⟩ (.slice (some ⟨g, 0, none⟩) sn c9)) := by
    have hm := HM9.out.setZ 1 (.slice (some ⟨g, 0, none⟩) sn c9)
    rw [vA_set1'] at hm
    have hrow := Rd.of_own encS_len hown9 HLS.out
    refine ⟨⟨_, hm⟩, ?_, fun j => ?_, by omega, by simpa [World.setCell] using hgl9⟩
    · rw [toldK_zero]
      exact hrow.far (fun a ha => by cases ha; simp; omega) _
    · simpa [World.frozen?_setCell] using hgf9 j
  have HT0 := Lib.hid hT0
  clear hT0 hown9 hgrow9 z9 zf9 hgf9 HM9 HB9 HS2 HM c1 cl1 hW
  go_loopw [6] (fun i wr => ∃ k : Nat, k ≤ sn ∧ i = .int .i64 k ∧ TS w PA pn pc g sn c9 v r k wr) (fun i _ => sn - (intOf i).toNat)
  case atStart => exact ⟨0, Nat.zero_le _, rfl, HT0.out⟩
  case round =>
    obtain ⟨k, hk, rfl, ht⟩ := hrel
    have HT := Lib.hid ht
    obtain ⟨SC, hm⟩ := ht.ms
    have z1 := hm.zs.cell 1
    simp at z1
    have hzl := hm.zs.lt
    by_cases hlt : k < sn
    · obtain ⟨b1, o1, x, hA1, hl1, hx, a1, a1'⟩ := (HR.out.below hm.bel).at2 hlt
      subst hA1
      obtain ⟨s, hs⟩ : ∃ s, v.sls[k]? = some s := ⟨_, List.getElem?_eq_getElem (by have := HLS.out; omega)⟩
      have HST := Lib.hid (fun m => HT.out.step (m := m) hs hx hlt)
      have f2 := ht.fz (k * 4 + 2); have f3 := ht.fz (k * 4 + 3)
      obtain ⟨sg, e0, hsc⟩ : ∃ sg : Addr, sg = ⟨g, 0, none⟩ ∧ True := ⟨_, rfl, trivial⟩
      have hc : ∀ j y, (encS ((toldK v.sls r k).getD k s))[j]? = some y → wr.cell? ⟨g, 0 + k * 4 + j, none⟩ = some y := fun j y hy => by
        obtain ⟨bb, oo, e, _, hc⟩ := ht.sl.2 (by omega)
        cases e
        exact hc k s (by rw [toldK_ge (Nat.le_refl _)]; exact hs) j y (by rwa [List.getD_eq_getElem?_getD, toldK_ge (Nat.le_refl _), hs] at hy)
      rw [List.getD_eq_getElem?_getD, toldK_ge (Nat.le_refl _), hs] at hc
      have q2 := hc 2 _ rfl; have q3 := hc 3 _ rfl
      rw [Nat.zero_add] at q2 q3
      simp only [Option.getD_some] at q2 q3
      have hkn : (k : Int) < (sn : Int) := by omega
      have hk0 : (0 : Int) ≤ (k : Int) := by omega
      have hgl := ht.lt
      clear hx hs hc ht e0 hsc hm
      go_wp2_with fail
      go_region
      all_goals
        go_wp2_with fail
        go_roundw
        case rel => exact ⟨k + 1, by omega, by go_num, HST.out 1⟩
        case measure => simp [intOf] <;> omega
    · obtain rfl : k = sn := by omega
      have z0 := hm.zs.cell 0; have z2 := hm.zs.cell 2; have z3 := hm.zs.cell 3; have z4 := hm.zs.cell 4
      have r0 := hm.xs.cell 0; have r1 := hm.xs.cell 1; have r2 := hm.xs.cell 2; have r3 := hm.xs.cell 3; have r4 := hm.xs.cell 4
      have g0 := hm.xs.frozen 0; have g1 := hm.xs.frozen 1; have g2 := hm.xs.frozen 2; have g3 := hm.xs.frozen 3; have g4 := hm.xs.frozen 4
      simp at z0 z2 z3 z4 r0 r1 r2 r3 r4
      clear ht hm
      go_wp2_with fail
      obtain ⟨SC', hm'⟩ := HT.out.ms
      have hm5 := ((((hm'.setX 0 (.slice PA pn pc)).setX 1 (.slice (some ⟨g, 0, none⟩) k c9)).setX 2 (.int .i64 v.s0)).setX 3 (.int .i64 v.s1)).setX 4 (.int .i64 v.s2)
      have hlo := HT.out.lo
      have hne : ∀ a : Addr, (some (⟨g, 0, none⟩ : Addr)) = some a → a.block ≠ w.heap.size + 1 := fun a ha => by cases ha; simp; omega
      have hs5 := ((((HT.out.sl.far (p := ⟨w.heap.size + 1, 0, none⟩) hne (.slice PA pn pc)).far (p := ⟨w.heap.size + 1, 1, none⟩) hne (.slice (some ⟨g, 0, none⟩) k c9)).far (p := ⟨w.heap.size + 1, 2, none⟩) hne (.int .i64 v.s0)).far (p := ⟨w.heap.size + 1, 3, none⟩) hne (.int .i64 v.s1)).far (p := ⟨w.heap.size + 1, 4, none⟩) hne (.int .i64 v.s2)
      generalize (((((wr.setCell ⟨w.heap.size + 1, 0, none⟩ (.slice PA pn pc)).setCell ⟨w.heap.size + 1, 1, none⟩ (.slice (some ⟨g, 0, none⟩) k c9)).setCell ⟨w.heap.size + 1, 2, none⟩ (.int .i64 v.s0)).setCell ⟨w.heap.size + 1, 3, none⟩ (.int .i64 v.s1)).setCell ⟨w.heap.size + 1, 4, none⟩ (.int .i64 v.s2)) = W5 at *
      have y0 := hm5.xs.cell 0; have y1 := hm5.xs.cell 1; have y2 := hm5.xs.cell 2; have y3 := hm5.xs.cell 3; have y4 := hm5.xs.cell 4
      simp at y0 y1 y2 y3 y4
      refine bodyPost_ret (v := .agg #[.slice PA pn pc, .slice (some ⟨g, 0, none⟩) k c9, .int .i64 v.s0, .int .i64 v.s1, .int .i64 v.s2]) ?_ rfl ⟨some ⟨g, 0, none⟩, c9, rfl, ⟨(HV.out.below hm5.bel).pars, ?_, ?_⟩, hm5.bel⟩
      · simp [results, Try.f50, go_sem, y0, y1, y2, y3, y4]
      · unfold toldV
        rw [HLS.out]
        exact hs5
      · intro i s' hs'
        have hl : i < v.sls.length := by
          have := lt_of_get hs'
          rw [toldV_len] at this; exact this
        have hsi := List.getElem?_eq_getElem hl
        have hxi := List.getElem?_eq_getElem (show i < r.length by have := HLS.out; have := HLR.out; omega)
        rw [toldV_get hsi hxi] at hs'
        cases hs'
        exact (HV.out.below hm5.bel).way i v.sls[i] hsi
end Go.Proofs.Ytphdndiikikecaa

namespace Go.Proofs.Ytphdndiikikecaa
open Go.RowKit Go.Proofs
attribute [local go_sem ↓] Go.wp_at_zero Go.wp_at_succ

/-- the rows of a valley lie from a block on -/
def FrV (b : Nat) (w : World) (A1 A2 : Option Addr) (v : Vly) : Prop := (∀ ad, A1 = some ad → b ≤ ad.block ∧ ad.block < w.heap.size) ∧ (∀ ad, A2 = some ad → b ≤ ad.block ∧ ad.block < w.heap.size) ∧ ∀ (i : Nat) (s : Sli) (ad : Addr), v.sls[i]? = some s → s.A = some ad → b ≤ ad.block ∧ ad.block < w.heap.size
theorem own_fr {w : World} {b base : Nat} {e : TypeId} {k n m c : Nat} {A : Option Addr} {xs : List Value} (hb : b ≤ base) (h : w.ownsRow base e k (.slice A m c) n xs) : ∀ ad, A = some ad → b ≤ ad.block ∧ ad.block < w.heap.size := fun ad he => by
  have h1 := h.lt ad.block (by rw [he]; rfl)
  omega
theorem Rd.grown {α : Type} {enc : α → List Value} {k : Nat} {w w' : World} {A : Option Addr} {n : Nat} {l : List α} {row : Option Nat} (h : Rd enc k w A n l) (hg : w.grownBy w' row) (hne : ∀ ad, A = some ad → some ad.block ≠ row) : Rd enc k w' A n l :=
  ⟨h.1, fun hn => by
    obtain ⟨b, o, e, hlt, hc⟩ := h.2 hn
    refine ⟨b, o, e, Nat.lt_of_lt_of_le hlt hg.size, fun i x hx j v hv => ?_⟩
    rw [grown_cell (p := ⟨b, o + i * k + j, none⟩) hg hlt (hne ⟨b, o, none⟩ e)]
    exact hc i x hx j v hv⟩
theorem RdV.grown {w w' : World} {PA SA : Option Addr} {pn sn b : Nat} {v : Vly} {row : Option Nat} (h : RdV w PA pn SA sn v) {w0 : World} (hf : FrV b w0 PA SA v) (hg : w.grownBy w' row) (hne : ∀ g, row = some g → g < b ∨ w0.heap.size ≤ g) : RdV w' PA pn SA sn v := by
  have key : ∀ ad : Addr, b ≤ ad.block ∧ ad.block < w0.heap.size → some ad.block ≠ row := fun ad hb e => by have := hne _ e.symm; omega
  exact ⟨h.pars.grown hg (fun ad e => key ad (hf.1 ad e)), h.sls.grown hg (fun ad e => key ad (hf.2.1 ad e)), fun i s hs => ⟨(h.way i s hs).1.grown hg (fun ad e => key ad (hf.2.2 i s ad hs e)), (h.way i s hs).2⟩⟩

set_option maxRecDepth 100000 in
set_option maxHeartbeats 4000000 in
theorem ValleyN_c {v : Vly} {PA SA : Option Addr} {pn pc sn sc : Nat} {w : World} (h : RdV w PA pn SA sn v) (hpn : pn ≤ 1000) (hsn : sn ≤ 1000) (hwn : ∀ s ∈ v.sls, s.way.length ≤ 1000) :
    Calls Try.prog 20 #[.agg #[.slice PA pn pc, .slice SA sn sc, .int .i64 v.s0, .int .i64 v.s1, .int .i64 v.s2]] w fun e w' => ∃ A1 c1 A2 c2 v', e = .returned (.agg #[.slice A1 pn c1, .slice A2 sn c2, .int .i64 v'.s0, .int .i64 v'.s1, .int .i64 v'.s2]) ∧ RdV w' A1 pn A2 sn v' ∧ VAlike v v' ∧ Below w.heap.size w w' ∧ FrV w.heap.size w' A1 A2 v' := by
  obtain ⟨i0, hi0, hz0, hz1, hz2⟩ := info_parts infoPar
  obtain ⟨j0, hj0, hy0, hy1, hy2⟩ := info_parts infoSli
  have HI := Lib.hid hi0; have HZ0 := Lib.hid hz0; have HZ1 := Lib.hid hz1; have HZ2 := Lib.hid hz2
  have HJ := Lib.hid hj0; have HY0 := Lib.hid hy0; have HY1 := Lib.hid hy1; have HY2 := Lib.hid hy2
  clear hi0 hz0 hz1 hz2 hj0 hy0 hy1 hy2
  have HLP := Lib.hid h.pars.len; have HLS := Lib.hid h.sls.len
  have HV := Lib.hid h; have HWN := Lib.hid hwn
  clear h hwn
  go_enter Try.func20, Try.ntmps20
  go_wp2_with fail
  go_loopw [4] (fun i wr => ∃ (k : Nat) (A1 : Option Addr) (c1 : Nat), k ≤ pn ∧ i = .int .i64 k ∧ k ≤ c1 ∧ wr.ownsRow (w.heap.size + 1 + 1 + 1) 111 4 (.slice A1 k c1) k ((v.pars.take k).flatMap encP) ∧ Blk wr (w.heap.size + 1 + 1) 36 (outA A1 k c1 none 0 0 v) ∧ Blk wr (w.heap.size + 1) 36 zeroV ∧ Blk wr w.heap.size 26 (vA PA pn pc SA sn sc v) ∧ Below w.heap.size w wr ∧ w.heap.size + 1 + 1 + 1 ≤ wr.heap.size) (fun i _ => pn - (intOf i).toNat)
  case atStart =>
    obtain ⟨h1, h2, h3, h4⟩ := blk3l w (vA PA pn pc SA sn sc v) zeroV (outA none 0 0 none 0 0 v) 26 36 36
    exact ⟨0, none, 0, Nat.zero_le _, rfl, Nat.le_refl _, World.ownsRow_nil _ _ _ _, h1, h3, h2, h4, by simp⟩
  case round =>
    obtain ⟨k, A1, c1, hk, rfl, hc1, hown, hbo, hbz, hbi, hb, hsz⟩ := hrel
    have HO := Lib.hid hown; have HBO := Lib.hid hbo; have HBZ := Lib.hid hbz; have HBI := Lib.hid hbi; have HB := Lib.hid hb
    have i0 := hbi.cell 0
    simp at i0
    by_cases hlt : k < pn
    · obtain ⟨b, o, x, hA, hblt, hx, h0, h1, h2, h3⟩ := (HV.out.pars.below hb).atP hlt
      subst hA
      have HX := Lib.hid hx
      have q0 := hbo.cell 0
      have q0f := hbo.frozen 0
      simp at q0
      have hkn : (k : Int) < (pn : Int) := by omega
      have hk0 : (0 : Int) ≤ (k : Int) := by omega
      have hl1 := hbo.lt; have hl2 := hbi.lt
      clear hx hown hbo hbz hbi hb
      go_wp2_with (at_builtin; go_must (refine wpList_append_own_at _ rfl _ _ 33 rfl (w.heap.size + 1 + 1 + 1) 111 _ _ 4 32 Try.underlying33 HI.out HZ0.out HZ1.out HZ2.out rfl (by decide) _ _ _ rfl ((HO.out.alloc (.cells #[.int .i64 x.worth, .int .i64 x.price, .int .i64 x.people, .bool x.ins] 57)).alloc _) ⟨wr.heap.size + 1, 0, none⟩ 1 1 (encP x) rfl rfl (fun j u hj => by have := World.news_of_block (cs := #[.int .i64 x.worth, .int .i64 x.price, .int .i64 x.people, .bool x.ins]) (t := 111) (fr := (0, 0)) (heap_alloc_new (wr.alloc (.cells #[.int .i64 x.worth, .int .i64 x.price, .int .i64 x.people, .bool x.ins] 57)) _) j u hj; simpa using this) (oneP x) (by unfold maxLen; omega) (by omega) (by simp; omega) ?_; intro v' w1 hown' hgrow _ _; obtain ⟨gg, cap, rfl, hcap⟩ := own_pos hown' (by omega); have hbo1 := ((HBO.out.alloc (.cells #[.int .i64 x.worth, .int .i64 x.price, .int .i64 x.people, .bool x.ins] 57)).alloc _).grown hgrow (fun e => own_ge HO.out (by omega : w.heap.size + 1 + 1 < w.heap.size + 1 + 1 + 1) e); have q1 := hbo1.cell 0; have q1f := hbo1.frozen 0; simp at q1))
      have hsz1 : w.heap.size + 1 + 1 + 1 ≤ w1.heap.size := by have := hgrow.size; simp at this; omega
      have F1 := (Fr.refl (fun g => g = w.heap.size + 1 + 1) w1).setAt (p := ⟨w.heap.size + 1 + 1, 0, none⟩) (.inl rfl) (.slice (some ⟨gg, 0, none⟩) (k + 1) cap)
      have R1 : Hid (World.ownsRow _ (w.heap.size + 1 + 1 + 1) 111 4 (.slice (some ⟨gg, 0, none⟩) (k + 1) cap) (k + 1) ((v.pars.take (k + 1)).flatMap encP)) := Lib.hid (F1.row (by rw [List.take_add_one, HX.out, List.flatMap_append]; simpa using hown') (fun g hg hh => by have := own_base_ge2 hown' hg; omega))
      have X1 := Lib.hid (hbo1.set_ 0 (.slice (some ⟨gg, 0, none⟩) (k + 1) cap))
      have X2 := Lib.hid (F1.blk (((HBZ.out.alloc (.cells #[.int .i64 x.worth, .int .i64 x.price, .int .i64 x.people, .bool x.ins] 57)).alloc (.cells #[.int .i64 x.worth, .int .i64 x.price, .int .i64 x.people, .bool x.ins] 111)).grown hgrow (fun e => own_ge HO.out (by omega : w.heap.size + 1 < w.heap.size + 1 + 1 + 1) e)) (by omega))
      have X3 := Lib.hid (F1.blk (((HBI.out.alloc (.cells #[.int .i64 x.worth, .int .i64 x.price, .int .i64 x.people, .bool x.ins] 57)).alloc (.cells #[.int .i64 x.worth, .int .i64 x.price, .int .i64 x.people, .bool x.ins] 111)).grown hgrow (fun e => own_ge HO.out (by omega : w.heap.size < w.heap.size + 1 + 1 + 1) e)) (by omega))
      have X4 := Lib.hid ((((HB.out.alloc HB.out.size (.cells #[.int .i64 x.worth, .int .i64 x.price, .int .i64 x.people, .bool x.ins] 57)).alloc (by have := HB.out.size; simp; omega) (.cells #[.int .i64 x.worth, .int .i64 x.price, .int .i64 x.people, .bool x.ins] 111)).grown hgrow (by have := HB.out.size; simp; omega) (fun g hg => by have := (HO.out.lt g hg).1; omega)).setCell (p := ⟨w.heap.size + 1 + 1, 0, none⟩) (by simp; omega) (.slice (some ⟨gg, 0, none⟩) (k + 1) cap))
      clear hown' hgrow hbo1 F1 q1 q1f
      go_roundw
      case rel => exact ⟨k + 1, some ⟨gg, 0, none⟩, cap, by omega, by go_num, hcap, R1.out, X1.out, X2.out, X3.out, X4.out, by simp; omega⟩
      case measure => simp [intOf] <;> omega
    · obtain rfl : k = pn := by omega
      have hp := HO.out
      rw [List.take_of_length_le (by rw [HLP.out]; exact Nat.le_refl _)] at hp
      have HP := Lib.hid hp
      clear hp hown hbo hbz hbi hb HO
      go_wp2_with fail
      go_loopw [6] (fun i wr => ∃ (q : Nat) (L2 : List Sli) (A2 : Option Addr) (c2 : Nat), q ≤ sn ∧ i = .int .i64 q ∧ VI w v (vA PA k pc SA sn sc v) k A1 c1 q L2 A2 c2 wr) (fun i _ => sn - (intOf i).toNat)
      case atStart => exact ⟨0, [], none, 0, Nat.zero_le _, rfl, Nat.le_refl _, rfl, rfl, (fun i x hx => by simp at hx), World.ownsRow_nil _ _ _ _, HP.out, HBO.out, HBZ.out, HBI.out, HB.out, hsz⟩
      case round =>
        obtain ⟨q, L2, A2, c2, hq, rfl, hvi⟩ := hrel
        have HVI := Lib.hid hvi
        obtain ⟨hc2, hL2, hcr, hlw, hown, hpar, hbo, hbz, hbi, hb, hsz2⟩ := hvi
        have HLW := Lib.hid hlw; have HO2 := Lib.hid hown; have HP2 := Lib.hid hpar; have HBO2 := Lib.hid hbo; have HBZ2 := Lib.hid hbz; have HBI2 := Lib.hid hbi; have HB2 := Lib.hid hb; have HCR := Lib.hid hcr; have HL2 := Lib.hid hL2
        have i1 := hbi.cell 1
        simp at i1
        by_cases hlt2 : q < sn
        · obtain ⟨b, o, x, hA, hblt, hx, h0, h1, h2, h3⟩ := (HV.out.sls.below hb).atS hlt2
          subst hA
          have HX := Lib.hid hx
          have hqn : (q : Int) < (sn : Int) := by omega
          have hq0 : (0 : Int) ≤ (q : Int) := by omega
          have hway := ((HV.out.below hb).way q x hx).1
          have hxl := hway.len
          have hxw : x.n ≤ 1000 := by have := HWN.out x (List.mem_of_getElem? hx); omega
          have q1 := hbo.cell 1
          have q1f := hbo.frozen 1
          simp at q1
          have hl1 := hbo.lt; have hl2 := hbi.lt
          obtain ⟨WB, hWB⟩ : ∃ WB : World, WB = wr.alloc (.cells #[.slice x.A x.n x.c, .int .i64 x.rate, .int .i64 x.lo, .int .i64 x.hi] 62) := ⟨_, rfl⟩
          have hbB : Below wr.heap.size wr WB := by rw [hWB]; exact (Below.refl _ wr).alloc (Nat.le_refl _) _
          have hsB := Blk.new wr 62 #[.slice x.A x.n x.c, .int .i64 x.rate, .int .i64 x.lo, .int .i64 x.hi]
          rw [← hWB] at hsB
          have hszB : WB.heap.size = wr.heap.size + 1 := by rw [hWB]; simp
          have HSC := Lib.hid (fun (W : World) (hW : Blk W wr.heap.size 62 #[.slice x.A x.n x.c, .int .i64 x.rate, .int .i64 x.lo, .int .i64 x.hi]) => show W.cell? ⟨wr.heap.size, 0, none⟩ = some (.slice x.A x.n x.c) ∧ W.cell? ⟨wr.heap.size, 1, none⟩ = some (.int .i64 x.rate) ∧ W.cell? ⟨wr.heap.size, 2, none⟩ = some (.int .i64 x.lo) ∧ W.cell? ⟨wr.heap.size, 3, none⟩ = some (.int .i64 x.hi) from ⟨by rw [hW.cell 0]; rfl, by rw [hW.cell 1]; rfl, by rw [hW.cell 2]; rfl, by rw [hW.cell 3]; rfl⟩)
          have HLI := Lib.hid (fun W (hW : Below WB.heap.size WB W) => list_c (c := x.c) ((hway.below hbB).below hW) (by omega))
          have HBB := Lib.hid hbB; have HSB := Lib.hid hsB
          have HWB := Lib.hid hWB
          have S0 := HSC.out _ (blk_drew hsB)
          have S00 := HSC.out _ hsB
          rw [hWB] at S0 S00
          have hne21 : ¬ wr.heap.size = w.heap.size + 1 + 1 := by omega
          have hltw : w.heap.size + 1 + 1 < wr.heap.size := by omega
          clear hx hlw hown hpar hbo hbz hbi hb hway hbB hsB hWB hcr
          go_wp2_with fail
          refine wp_region_held_drew (S := (fun w' => w'.cell? ⟨wr.heap.size, 0, none⟩ = some (.slice x.A x.n x.c) ∧ w'.cell? ⟨wr.heap.size, 1, none⟩ = some (.int .i64 x.rate) ∧ w'.cell? ⟨wr.heap.size, 2, none⟩ = some (.int .i64 x.lo) ∧ w'.cell? ⟨wr.heap.size, 3, none⟩ = some (.int .i64 x.hi))) (by kernel_rfl) (by (first | exact S0 | exact S00 | exact S3 | exact S3a | exact S4 | exact HSC.out _ (HB4S.out.far (p := ⟨w.heap.size + 1 + 1, 1, none⟩) hne21 _) | assumption)) (fun hHeld => ?_)
          (refine wpAnyH_take (i := 0) (oi := ?ox1) (v := ?vx1) ?hix1 ?k1x1 ?k2x1 ?k3x1 ?hQx1 ?hYx1 ?hSx1 ?restx1; (case hix1 => (simp only [List.getElem?_toArray, List.getElem?_cons_succ, List.getElem?_cons_zero]; exact rfl)); (case k1x1 => kernel_rfl); (case k2x1 => kernel_rfl); (case k3x1 => kernel_rfl); (case hSx1 => assumption); (case hYx1 => (refine Or.inl ⟨rfl, ?hyx1⟩; intro w hSw; (try dsimp only at hSw); go_simp; (try with_reducible rfl))); (case hQx1 => exact (fun _ _ _ h => h)); (try simp only [Act.put, List.setIfInBounds_toArray, List.set_cons_zero, List.set_cons_succ]))
          (refine wpAnyH_take (i := 2) (oi := ?ox2) (v := ?vx2) ?hix2 ?k1x2 ?k2x2 ?k3x2 ?hQx2 ?hYx2 ?hSx2 ?restx2; (case hix2 => (simp only [List.getElem?_toArray, List.getElem?_cons_succ, List.getElem?_cons_zero]; exact rfl)); (case k1x2 => kernel_rfl); (case k2x2 => kernel_rfl); (case k3x2 => kernel_rfl); (case hSx2 => assumption); (case hYx2 => (refine Or.inl ⟨rfl, ?hyx2⟩; intro w hSw; (try dsimp only at hSw); go_simp; (try with_reducible rfl))); (case hQx2 => exact (fun _ _ _ h => h)); (try simp only [Act.put, List.setIfInBounds_toArray, List.set_cons_zero, List.set_cons_succ]))
          (refine wpAnyH_take (i := 3) (oi := ?ox3) (v := ?vx3) ?hix3 ?k1x3 ?k2x3 ?k3x3 ?hQx3 ?hYx3 ?hSx3 ?restx3; (case hix3 => (simp only [List.getElem?_toArray, List.getElem?_cons_succ, List.getElem?_cons_zero]; exact rfl)); (case k1x3 => kernel_rfl); (case k2x3 => kernel_rfl); (case k3x3 => kernel_rfl); (case hSx3 => assumption); (case hYx3 => (refine Or.inl ⟨rfl, ?hyx3⟩; intro w hSw; (try dsimp only at hSw); go_simp; (try with_reducible rfl))); (case hQx3 => exact (fun _ _ _ h => h)); (try simp only [Act.put, List.setIfInBounds_toArray, List.set_cons_zero, List.set_cons_succ]))
          (refine wpAnyH_take (i := 5) (oi := ?ox4) (v := ?vx4) ?hix4 ?k1x4 ?k2x4 ?k3x4 ?hQx4 ?hYx4 ?hSx4 ?restx4; (case hix4 => (simp only [List.getElem?_toArray, List.getElem?_cons_succ, List.getElem?_cons_zero]; exact rfl)); (case k1x4 => kernel_rfl); (case k2x4 => kernel_rfl); (case k3x4 => kernel_rfl); (case hSx4 => assumption); (case hYx4 => (refine Or.inl ⟨rfl, ?hyx4⟩; intro w hSw; (try dsimp only at hSw); go_simp; (try with_reducible rfl))); (case hQx4 => exact (fun _ _ _ h => h)); (try simp only [Act.put, List.setIfInBounds_toArray, List.set_cons_zero, List.set_cons_succ]))
          (refine wpAnyH_take (i := 6) (oi := ?ox5) (v := ?vx5) ?hix5 ?k1x5 ?k2x5 ?k3x5 ?hQx5 ?hYx5 ?hSx5 ?restx5; (case hix5 => (simp only [List.getElem?_toArray, List.getElem?_cons_succ, List.getElem?_cons_zero]; exact rfl)); (case k1x5 => kernel_rfl); (case k2x5 => kernel_rfl); (case k3x5 => kernel_rfl); (case hSx5 => assumption); (case hYx5 => (refine Or.inl ⟨rfl, ?hyx5⟩; intro w hSw; (try dsimp only at hSw); go_simp; (try with_reducible rfl))); (case hQx5 => exact (fun _ _ _ h => h)); (try simp only [Act.put, List.setIfInBounds_toArray, List.set_cons_zero, List.set_cons_succ]))
          (refine wpAnyH_take (i := 7) (oi := ?ox6) (v := ?vx6) ?hix6 ?k1x6 ?k2x6 ?k3x6 ?hQx6 ?hYx6 ?hSx6 ?restx6; (case hix6 => (simp only [List.getElem?_toArray, List.getElem?_cons_succ, List.getElem?_cons_zero]; exact rfl)); (case k1x6 => kernel_rfl); (case k2x6 => kernel_rfl); (case k3x6 => kernel_rfl); (case hSx6 => assumption); (case hYx6 => (refine Or.inl ⟨rfl, ?hyx6⟩; intro w hSw; (try dsimp only at hSw); go_simp; (try with_reducible rfl))); (case hQx6 => exact (fun _ _ _ h => h)); (try simp only [Act.put, List.setIfInBounds_toArray, List.set_cons_zero, List.set_cons_succ]))
          (refine wpAnyH_take (i := 8) (oi := ?ox7) (v := ?vx7) ?hix7 ?k1x7 ?k2x7 ?k3x7 ?hQx7 ?hYx7 ?hSx7 ?restx7; (case hix7 => (simp only [List.getElem?_toArray, List.getElem?_cons_succ, List.getElem?_cons_zero]; exact rfl)); (case k1x7 => kernel_rfl); (case k2x7 => kernel_rfl); (case k3x7 => kernel_rfl); (case hSx7 => assumption); (case hYx7 => (refine Or.inl ⟨rfl, ?hyx7⟩; intro w hSw; (try dsimp only at hSw); go_simp; (try with_reducible rfl))); (case hQx7 => exact (fun _ _ _ h => h)); (try simp only [Act.put, List.setIfInBounds_toArray, List.set_cons_zero, List.set_cons_succ]))
          (refine wpAnyH_take (i := 9) (oi := ?ox8) (v := ?vx8) ?hix8 ?k1x8 ?k2x8 ?k3x8 ?hQx8 ?hYx8 ?hSx8 ?restx8; (case hix8 => (simp only [List.getElem?_toArray, List.getElem?_cons_succ, List.getElem?_cons_zero]; exact rfl)); (case k1x8 => kernel_rfl); (case k2x8 => kernel_rfl); (case k3x8 => kernel_rfl); (case hSx8 => assumption); (case hYx8 => (refine Or.inl ⟨rfl, ?hyx8⟩; intro w hSw; (try dsimp only at hSw); go_simp; (try with_reducible rfl))); (case hQx8 => exact (fun _ _ _ h => h)); (try simp only [Act.put, List.setIfInBounds_toArray, List.set_cons_zero, List.set_cons_succ]))
          (refine wpAnyH_take (i := 10) (oi := ?ox9) (v := ?vx9) ?hix9 ?k1x9 ?k2x9 ?k3x9 ?hQx9 ?hYx9 ?hSx9 ?restx9; (case hix9 => (simp only [List.getElem?_toArray, List.getElem?_cons_succ, List.getElem?_cons_zero]; exact rfl)); (case k1x9 => kernel_rfl); (case k2x9 => kernel_rfl); (case k3x9 => kernel_rfl); (case hSx9 => assumption); (case hYx9 => (refine Or.inl ⟨rfl, ?hyx9⟩; intro w hSw; (try dsimp only at hSw); go_simp; (try with_reducible rfl))); (case hQx9 => exact (fun _ _ _ h => h)); (try simp only [Act.put, List.setIfInBounds_toArray, List.set_cons_zero, List.set_cons_succ]))
          (refine wpAnyH_take (i := 11) (oi := ?ox10) (v := ?vx10) ?hix10 ?k1x10 ?k2x10 ?k3x10 ?hQx10 ?hYx10 ?hSx10 ?restx10; (case hix10 => (simp only [List.getElem?_toArray, List.getElem?_cons_succ, List.getElem?_cons_zero]; exact rfl)); (case k1x10 => kernel_rfl); (case k2x10 => kernel_rfl); (case k3x10 => kernel_rfl); (case hSx10 => assumption); (case hYx10 => (refine Or.inl ⟨rfl, ?hyx10⟩; intro w hSw; (try dsimp only at hSw); go_simp; (try with_reducible rfl))); (case hQx10 => exact (fun _ _ _ h => h)); (try simp only [Act.put, List.setIfInBounds_toArray, List.set_cons_zero, List.set_cons_succ]))
          (refine wpAnyH_take (i := 12) (oi := ?ox11) (v := ?vx11) ?hix11 ?k1x11 ?k2x11 ?k3x11 ?hQx11 ?hYx11 ?hSx11 ?restx11; (case hix11 => (simp only [List.getElem?_toArray, List.getElem?_cons_succ, List.getElem?_cons_zero]; exact rfl)); (case k1x11 => kernel_rfl); (case k2x11 => kernel_rfl); (case k3x11 => kernel_rfl); (case hSx11 => assumption); (case hYx11 => (refine Or.inl ⟨rfl, ?hyx11⟩; intro w hSw; (try dsimp only at hSw); go_simp; (try with_reducible rfl))); (case hQx11 => exact (fun _ _ _ h => h)); (try simp only [Act.put, List.setIfInBounds_toArray, List.set_cons_zero, List.set_cons_succ]))
          (refine wpAnyH_take (i := 13) (oi := ?ox12) (v := ?vx12) ?hix12 ?k1x12 ?k2x12 ?k3x12 ?hQx12 ?hYx12 ?hSx12 ?restx12; (case hix12 => (simp only [List.getElem?_toArray, List.getElem?_cons_succ, List.getElem?_cons_zero]; exact rfl)); (case k1x12 => kernel_rfl); (case k2x12 => kernel_rfl); (case k3x12 => kernel_rfl); (case hSx12 => assumption); (case hYx12 => (refine Or.inl ⟨rfl, ?hyx12⟩; intro w hSw; (try dsimp only at hSw); go_simp; (try with_reducible rfl))); (case hQx12 => exact (fun _ _ _ h => h)); (try simp only [Act.put, List.setIfInBounds_toArray, List.set_cons_zero, List.set_cons_succ]))
          refine wpAnyH_ready (rs := [1, 4]) (by kernel_rfl) (by simp) ?_
          refine AllReadyH.cons (o := ?ox13) ?hix13 (fun K hK => ?_) (AllReadyH.cons (o := ?o2x13) ?hi2x13 (fun K hK => ?_) AllReadyH.nil)
          (case hix13 => (simp only [List.getElem?_toArray, List.getElem?_cons_succ, List.getElem?_cons_zero]; exact rfl))
          (case hi2x13 => (simp only [List.getElem?_toArray, List.getElem?_cons_succ, List.getElem?_cons_zero]; exact rfl))
          · skip
            go_simp
            refine hK.out _ _ (by (try dsimp only); (first | exact S0 | exact S00 | exact S3 | exact S3a | exact S4 | exact HSC.out _ (HB4S.out.far (p := ⟨w.heap.size + 1 + 1, 1, none⟩) hne21 _) | assumption)) (fun hHeld => ?_)
            clear hK K
            (try simp only [Act.put, List.setIfInBounds_toArray, List.set_cons_zero, List.set_cons_succ])
            refine wpAnyH_ready (rs := [4]) (by kernel_rfl) (by simp) ?_
            refine AllReadyH.cons (o := ?ox14) ?hix14 (fun K hK => ?_) AllReadyH.nil
            (case hix14 => (simp only [List.getElem?_toArray, List.getElem?_cons_succ, List.getElem?_cons_zero]; exact rfl))
            go_simp
            (go_at_call 32; refine (HLI.out _ (by rw [HWB.out]; exact (Below.refl _ _).drew)).mono ?_; rintro e w3 ⟨u, rfl, hownu, hbu⟩; obtain ⟨UA, uc, rfl, huc⟩ := own_form hownu; have hW3 : Below WB.heap.size WB w3 := (by rw [HWB.out]; exact (Below.refl _ _).drew.trans hbu); have hb3 := below_tr HBB.out hW3; have HSB3 := Lib.hid (HSB.out.below hW3 HSB.out.lt); have S3 := HSC.out w3 HSB3.out; have S3a := HSC.out _ (HSB3.out.alloc (.cells #[.slice UA x.n uc, .int .i64 x.rate, .int .i64 x.lo, .int .i64 x.hi] 103)); have HX3 := Lib.hid (HBO2.out.below hb3 HBO2.out.lt); have q31 := HX3.out.cell 1; have q31l := HX3.out.lt; simp at q31)
            (try go_wp2_with fail)
            refine hK.out _ _ (by (try dsimp only); (first | exact S0 | exact S00 | exact S3 | exact S3a | exact S4 | exact HSC.out _ (HB4S.out.far (p := ⟨w.heap.size + 1 + 1, 1, none⟩) hne21 _) | assumption)) (fun hHeld => ?_)
            clear hK K
            (try simp only [Act.put, List.setIfInBounds_toArray, List.set_cons_zero, List.set_cons_succ])
            (refine wpAnyH_take (i := 14) (oi := ?ox15) (v := ?vx15) ?hix15 ?k1x15 ?k2x15 ?k3x15 ?hQx15 ?hYx15 ?hSx15 ?restx15; (case hix15 => (simp only [List.getElem?_toArray, List.getElem?_cons_succ, List.getElem?_cons_zero]; exact rfl)); (case k1x15 => kernel_rfl); (case k2x15 => kernel_rfl); (case k3x15 => kernel_rfl); (case hSx15 => assumption); (case hYx15 => (refine Or.inl ⟨rfl, ?hyx15⟩; intro w hSw; (try dsimp only at hSw); go_simp; (try with_reducible rfl))); (case hQx15 => exact (fun _ _ _ h => h)); (try simp only [Act.put, List.setIfInBounds_toArray, List.set_cons_zero, List.set_cons_succ]))
            refine wpAnyH_ready (rs := [15]) (by kernel_rfl) (by simp) ?_
            refine AllReadyH.cons (o := ?ox16) ?hix16 (fun K hK => ?_) AllReadyH.nil
            (case hix16 => (simp only [List.getElem?_toArray, List.getElem?_cons_succ, List.getElem?_cons_zero]; exact rfl))
            go_simp
            refine hK.out _ _ (by (try dsimp only); (first | exact S0 | exact S00 | exact S3 | exact S3a | exact S4 | exact HSC.out _ (HB4S.out.far (p := ⟨w.heap.size + 1 + 1, 1, none⟩) hne21 _) | assumption)) (fun hHeld => ?_)
            clear hK K
            (try simp only [Act.put, List.setIfInBounds_toArray, List.set_cons_zero, List.set_cons_succ])
            refine wpAnyH_ready (rs := [16]) (by kernel_rfl) (by simp) ?_
            refine AllReadyH.cons (o := ?ox17) ?hix17 (fun K hK => ?_) AllReadyH.nil
            (case hix17 => (simp only [List.getElem?_toArray, List.getElem?_cons_succ, List.getElem?_cons_zero]; exact rfl))
            (refine step_append_lies _ (by rfl) _ _ _ (by rfl) (w.heap.size + 1 + 1 + 1) 103 _ _ 4 48 Try.underlying34 HJ.out HY0.out HY1.out HY2.out rfl (by omega) _ q (L2.flatMap encS) (by rfl) ((own_mono HO2.out hb3).alloc _) ⟨w3.heap.size, 0, none⟩ 1 1 [.slice UA x.n uc, .int .i64 x.rate, .int .i64 x.lo, .int .i64 x.hi] (by rfl) (by rfl) (World.news_of_block (cs := #[.slice UA x.n uc, .int .i64 x.rate, .int .i64 x.lo, .int .i64 x.hi]) (t := 103) (fr := (0, 0)) (heap_alloc_new w3 _)) (by simp [Value.oneCell']) (by omega) (by unfold maxLen; omega) (by omega) (by have := hW3.size; simp; omega) (w3.heap.size + 1) (by simp) ?_; intro gg cap w4 hown4 hgrow hat hlt4; have hg1 : some (w.heap.size + 1 + 1) ≠ (Value.slice A2 q c2).ownBlock := own_ge HO2.out (by omega); have hg2 : some wr.heap.size ≠ (Value.slice A2 q c2).ownBlock := (fun e => own_new_ne HO2.out e.symm); have HB4S := Lib.hid ((HSB3.out.alloc (.cells #[.slice UA x.n uc, .int .i64 x.rate, .int .i64 x.lo, .int .i64 x.hi] 103)).grown hgrow hg2); have S4 := HSC.out _ HB4S.out; have hX4 := (HX3.out.alloc (.cells #[.slice UA x.n uc, .int .i64 x.rate, .int .i64 x.lo, .int .i64 x.hi] 103)).grown hgrow hg1; have f41 := hX4.frozen 1; have c41 := hX4.cell 1; simp at c41)
            refine hK.out _ _ (by (try dsimp only); (first | exact S0 | exact S00 | exact S3 | exact S3a | exact S4 | exact HSC.out _ (HB4S.out.far (p := ⟨w.heap.size + 1 + 1, 1, none⟩) hne21 _) | assumption)) (fun hHeld => ?_)
            clear hK K
            (try simp only [Act.put, List.setIfInBounds_toArray, List.set_cons_zero, List.set_cons_succ])
            (refine wpAnyH_take (i := 17) (oi := ?ox18) (v := ?vx18) ?hix18 ?k1x18 ?k2x18 ?k3x18 ?hQx18 ?hYx18 ?hSx18 ?restx18; (case hix18 => (simp only [List.getElem?_toArray, List.getElem?_cons_succ, List.getElem?_cons_zero]; exact rfl)); (case k1x18 => kernel_rfl); (case k2x18 => kernel_rfl); (case k3x18 => kernel_rfl); (case hSx18 => assumption); (case hYx18 => (refine Or.inl ⟨rfl, ?hyx18⟩; intro w hSw; (try dsimp only at hSw); go_simp; (try with_reducible rfl))); (case hQx18 => exact (fun _ _ _ h => h)); (try simp only [Act.put, List.setIfInBounds_toArray, List.set_cons_zero, List.set_cons_succ]))
            refine wpAnyH_ready (rs := [18]) (by kernel_rfl) (by simp) ?_
            refine AllReadyH.cons (o := ?ox19) ?hix19 (fun K hK => ?_) AllReadyH.nil
            (case hix19 => (simp only [List.getElem?_toArray, List.getElem?_cons_succ, List.getElem?_cons_zero]; exact rfl))
            go_simp
            refine hK.out _ _ (by (try dsimp only); (first | exact S0 | exact S00 | exact S3 | exact S3a | exact S4 | exact HSC.out _ (HB4S.out.far (p := ⟨w.heap.size + 1 + 1, 1, none⟩) hne21 _) | assumption)) (fun hHeld => ?_)
            clear hK K
            (try simp only [Act.put, List.setIfInBounds_toArray, List.set_cons_zero, List.set_cons_succ])
            (try refine wpAnyH_done (by kernel_rfl) ?_ _)
            have HV4 := Lib.hid (HVI.out.step HX.out hb3 hownu (by have := hszB; simp; omega) huc hxl hown4 hgrow)
            clear hown4 hgrow hX4 f41 c41 S4 S3 S3a S0 S00 q31
            go_wp2_with fail
            go_roundw
            case rel => exact ⟨q + 1, _, _, _, by omega, by go_num, HV4.out⟩
            case measure => simp [intOf] <;> omega
          · skip
            go_simp
            (go_at_call 32; refine (HLI.out _ (by rw [HWB.out]; exact (Below.refl _ _).drew)).mono ?_; rintro e w3 ⟨u, rfl, hownu, hbu⟩; obtain ⟨UA, uc, rfl, huc⟩ := own_form hownu; have hW3 : Below WB.heap.size WB w3 := (by rw [HWB.out]; exact (Below.refl _ _).drew.trans hbu); have hb3 := below_tr HBB.out hW3; have HSB3 := Lib.hid (HSB.out.below hW3 HSB.out.lt); have S3 := HSC.out w3 HSB3.out; have S3a := HSC.out _ (HSB3.out.alloc (.cells #[.slice UA x.n uc, .int .i64 x.rate, .int .i64 x.lo, .int .i64 x.hi] 103)); have HX3 := Lib.hid (HBO2.out.below hb3 HBO2.out.lt); have q31 := HX3.out.cell 1; have q31l := HX3.out.lt; simp at q31)
            (try go_wp2_with fail)
            refine hK.out _ _ (by (try dsimp only); (first | exact S0 | exact S00 | exact S3 | exact S3a | exact S4 | exact HSC.out _ (HB4S.out.far (p := ⟨w.heap.size + 1 + 1, 1, none⟩) hne21 _) | assumption)) (fun hHeld => ?_)
            clear hK K
            (try simp only [Act.put, List.setIfInBounds_toArray, List.set_cons_zero, List.set_cons_succ])
            (refine wpAnyH_take (i := 14) (oi := ?ox20) (v := ?vx20) ?hix20 ?k1x20 ?k2x20 ?k3x20 ?hQx20 ?hYx20 ?hSx20 ?restx20; (case hix20 => (simp only [List.getElem?_toArray, List.getElem?_cons_succ, List.getElem?_cons_zero]; exact rfl)); (case k1x20 => kernel_rfl); (case k2x20 => kernel_rfl); (case k3x20 => kernel_rfl); (case hSx20 => assumption); (case hYx20 => (refine Or.inl ⟨rfl, ?hyx20⟩; intro w hSw; (try dsimp only at hSw); go_simp; (try with_reducible rfl))); (case hQx20 => exact (fun _ _ _ h => h)); (try simp only [Act.put, List.setIfInBounds_toArray, List.set_cons_zero, List.set_cons_succ]))
            refine wpAnyH_ready (rs := [1, 15]) (by kernel_rfl) (by simp) ?_
            refine AllReadyH.cons (o := ?ox21) ?hix21 (fun K hK => ?_) (AllReadyH.cons (o := ?o2x21) ?hi2x21 (fun K hK => ?_) AllReadyH.nil)
            (case hix21 => (simp only [List.getElem?_toArray, List.getElem?_cons_succ, List.getElem?_cons_zero]; exact rfl))
            (case hi2x21 => (simp only [List.getElem?_toArray, List.getElem?_cons_succ, List.getElem?_cons_zero]; exact rfl))
            · skip
              go_simp
              refine hK.out _ _ (by (try dsimp only); (first | exact S0 | exact S00 | exact S3 | exact S3a | exact S4 | exact HSC.out _ (HB4S.out.far (p := ⟨w.heap.size + 1 + 1, 1, none⟩) hne21 _) | assumption)) (fun hHeld => ?_)
              clear hK K
              (try simp only [Act.put, List.setIfInBounds_toArray, List.set_cons_zero, List.set_cons_succ])
              refine wpAnyH_ready (rs := [15]) (by kernel_rfl) (by simp) ?_
              refine AllReadyH.cons (o := ?ox22) ?hix22 (fun K hK => ?_) AllReadyH.nil
              (case hix22 => (simp only [List.getElem?_toArray, List.getElem?_cons_succ, List.getElem?_cons_zero]; exact rfl))
              go_simp
              refine hK.out _ _ (by (try dsimp only); (first | exact S0 | exact S00 | exact S3 | exact S3a | exact S4 | exact HSC.out _ (HB4S.out.far (p := ⟨w.heap.size + 1 + 1, 1, none⟩) hne21 _) | assumption)) (fun hHeld => ?_)
              clear hK K
              (try simp only [Act.put, List.setIfInBounds_toArray, List.set_cons_zero, List.set_cons_succ])
              refine wpAnyH_ready (rs := [16]) (by kernel_rfl) (by simp) ?_
              refine AllReadyH.cons (o := ?ox23) ?hix23 (fun K hK => ?_) AllReadyH.nil
              (case hix23 => (simp only [List.getElem?_toArray, List.getElem?_cons_succ, List.getElem?_cons_zero]; exact rfl))
              (refine step_append_lies _ (by rfl) _ _ _ (by rfl) (w.heap.size + 1 + 1 + 1) 103 _ _ 4 48 Try.underlying34 HJ.out HY0.out HY1.out HY2.out rfl (by omega) _ q (L2.flatMap encS) (by rfl) ((own_mono HO2.out hb3).alloc _) ⟨w3.heap.size, 0, none⟩ 1 1 [.slice UA x.n uc, .int .i64 x.rate, .int .i64 x.lo, .int .i64 x.hi] (by rfl) (by rfl) (World.news_of_block (cs := #[.slice UA x.n uc, .int .i64 x.rate, .int .i64 x.lo, .int .i64 x.hi]) (t := 103) (fr := (0, 0)) (heap_alloc_new w3 _)) (by simp [Value.oneCell']) (by omega) (by unfold maxLen; omega) (by omega) (by have := hW3.size; simp; omega) (w3.heap.size + 1) (by simp) ?_; intro gg cap w4 hown4 hgrow hat hlt4; have hg1 : some (w.heap.size + 1 + 1) ≠ (Value.slice A2 q c2).ownBlock := own_ge HO2.out (by omega); have hg2 : some wr.heap.size ≠ (Value.slice A2 q c2).ownBlock := (fun e => own_new_ne HO2.out e.symm); have HB4S := Lib.hid ((HSB3.out.alloc (.cells #[.slice UA x.n uc, .int .i64 x.rate, .int .i64 x.lo, .int .i64 x.hi] 103)).grown hgrow hg2); have S4 := HSC.out _ HB4S.out; have hX4 := (HX3.out.alloc (.cells #[.slice UA x.n uc, .int .i64 x.rate, .int .i64 x.lo, .int .i64 x.hi] 103)).grown hgrow hg1; have f41 := hX4.frozen 1; have c41 := hX4.cell 1; simp at c41)
              refine hK.out _ _ (by (try dsimp only); (first | exact S0 | exact S00 | exact S3 | exact S3a | exact S4 | exact HSC.out _ (HB4S.out.far (p := ⟨w.heap.size + 1 + 1, 1, none⟩) hne21 _) | assumption)) (fun hHeld => ?_)
              clear hK K
              (try simp only [Act.put, List.setIfInBounds_toArray, List.set_cons_zero, List.set_cons_succ])
              (refine wpAnyH_take (i := 17) (oi := ?ox24) (v := ?vx24) ?hix24 ?k1x24 ?k2x24 ?k3x24 ?hQx24 ?hYx24 ?hSx24 ?restx24; (case hix24 => (simp only [List.getElem?_toArray, List.getElem?_cons_succ, List.getElem?_cons_zero]; exact rfl)); (case k1x24 => kernel_rfl); (case k2x24 => kernel_rfl); (case k3x24 => kernel_rfl); (case hSx24 => assumption); (case hYx24 => (refine Or.inl ⟨rfl, ?hyx24⟩; intro w hSw; (try dsimp only at hSw); go_simp; (try with_reducible rfl))); (case hQx24 => exact (fun _ _ _ h => h)); (try simp only [Act.put, List.setIfInBounds_toArray, List.set_cons_zero, List.set_cons_succ]))
              refine wpAnyH_ready (rs := [18]) (by kernel_rfl) (by simp) ?_
              refine AllReadyH.cons (o := ?ox25) ?hix25 (fun K hK => ?_) AllReadyH.nil
              (case hix25 => (simp only [List.getElem?_toArray, List.getElem?_cons_succ, List.getElem?_cons_zero]; exact rfl))
              go_simp
              refine hK.out _ _ (by (try dsimp only); (first | exact S0 | exact S00 | exact S3 | exact S3a | exact S4 | exact HSC.out _ (HB4S.out.far (p := ⟨w.heap.size + 1 + 1, 1, none⟩) hne21 _) | assumption)) (fun hHeld => ?_)
              clear hK K
              (try simp only [Act.put, List.setIfInBounds_toArray, List.set_cons_zero, List.set_cons_succ])
              (try refine wpAnyH_done (by kernel_rfl) ?_ _)
              have HV4 := Lib.hid (HVI.out.step HX.out hb3 hownu (by have := hszB; simp; omega) huc hxl hown4 hgrow)
              clear hown4 hgrow hX4 f41 c41 S4 S3 S3a S0 S00 q31
              go_wp2_with fail
              go_roundw
              case rel => exact ⟨q + 1, _, _, _, by omega, by go_num, HV4.out⟩
              case measure => simp [intOf] <;> omega
            · skip
              go_simp
              refine hK.out _ _ (by (try dsimp only); (first | exact S0 | exact S00 | exact S3 | exact S3a | exact S4 | exact HSC.out _ (HB4S.out.far (p := ⟨w.heap.size + 1 + 1, 1, none⟩) hne21 _) | assumption)) (fun hHeld => ?_)
              clear hK K
              (try simp only [Act.put, List.setIfInBounds_toArray, List.set_cons_zero, List.set_cons_succ])
              refine wpAnyH_ready (rs := [1]) (by kernel_rfl) (by simp) ?_
              refine AllReadyH.cons (o := ?ox26) ?hix26 (fun K hK => ?_) AllReadyH.nil
              (case hix26 => (simp only [List.getElem?_toArray, List.getElem?_cons_succ, List.getElem?_cons_zero]; exact rfl))
              go_simp
              refine hK.out _ _ (by (try dsimp only); (first | exact S0 | exact S00 | exact S3 | exact S3a | exact S4 | exact HSC.out _ (HB4S.out.far (p := ⟨w.heap.size + 1 + 1, 1, none⟩) hne21 _) | assumption)) (fun hHeld => ?_)
              clear hK K
              (try simp only [Act.put, List.setIfInBounds_toArray, List.set_cons_zero, List.set_cons_succ])
              refine wpAnyH_ready (rs := [16]) (by kernel_rfl) (by simp) ?_
              refine AllReadyH.cons (o := ?ox27) ?hix27 (fun K hK => ?_) AllReadyH.nil
              (case hix27 => (simp only [List.getElem?_toArray, List.getElem?_cons_succ, List.getElem?_cons_zero]; exact rfl))
              (refine step_append_lies _ (by rfl) _ _ _ (by rfl) (w.heap.size + 1 + 1 + 1) 103 _ _ 4 48 Try.underlying34 HJ.out HY0.out HY1.out HY2.out rfl (by omega) _ q (L2.flatMap encS) (by rfl) ((own_mono HO2.out hb3).alloc _) ⟨w3.heap.size, 0, none⟩ 1 1 [.slice UA x.n uc, .int .i64 x.rate, .int .i64 x.lo, .int .i64 x.hi] (by rfl) (by rfl) (World.news_of_block (cs := #[.slice UA x.n uc, .int .i64 x.rate, .int .i64 x.lo, .int .i64 x.hi]) (t := 103) (fr := (0, 0)) (heap_alloc_new w3 _)) (by simp [Value.oneCell']) (by omega) (by unfold maxLen; omega) (by omega) (by have := hW3.size; simp; omega) (w3.heap.size + 1) (by simp) ?_; intro gg cap w4 hown4 hgrow hat hlt4; have hg1 : some (w.heap.size + 1 + 1) ≠ (Value.slice A2 q c2).ownBlock := own_ge HO2.out (by omega); have hg2 : some wr.heap.size ≠ (Value.slice A2 q c2).ownBlock := (fun e => own_new_ne HO2.out e.symm); have HB4S := Lib.hid ((HSB3.out.alloc (.cells #[.slice UA x.n uc, .int .i64 x.rate, .int .i64 x.lo, .int .i64 x.hi] 103)).grown hgrow hg2); have S4 := HSC.out _ HB4S.out; have hX4 := (HX3.out.alloc (.cells #[.slice UA x.n uc, .int .i64 x.rate, .int .i64 x.lo, .int .i64 x.hi] 103)).grown hgrow hg1; have f41 := hX4.frozen 1; have c41 := hX4.cell 1; simp at c41)
              refine hK.out _ _ (by (try dsimp only); (first | exact S0 | exact S00 | exact S3 | exact S3a | exact S4 | exact HSC.out _ (HB4S.out.far (p := ⟨w.heap.size + 1 + 1, 1, none⟩) hne21 _) | assumption)) (fun hHeld => ?_)
              clear hK K
              (try simp only [Act.put, List.setIfInBounds_toArray, List.set_cons_zero, List.set_cons_succ])
              (refine wpAnyH_take (i := 17) (oi := ?ox28) (v := ?vx28) ?hix28 ?k1x28 ?k2x28 ?k3x28 ?hQx28 ?hYx28 ?hSx28 ?restx28; (case hix28 => (simp only [List.getElem?_toArray, List.getElem?_cons_succ, List.getElem?_cons_zero]; exact rfl)); (case k1x28 => kernel_rfl); (case k2x28 => kernel_rfl); (case k3x28 => kernel_rfl); (case hSx28 => assumption); (case hYx28 => (refine Or.inl ⟨rfl, ?hyx28⟩; intro w hSw; (try dsimp only at hSw); go_simp; (try with_reducible rfl))); (case hQx28 => exact (fun _ _ _ h => h)); (try simp only [Act.put, List.setIfInBounds_toArray, List.set_cons_zero, List.set_cons_succ]))
              refine wpAnyH_ready (rs := [18]) (by kernel_rfl) (by simp) ?_
              refine AllReadyH.cons (o := ?ox29) ?hix29 (fun K hK => ?_) AllReadyH.nil
              (case hix29 => (simp only [List.getElem?_toArray, List.getElem?_cons_succ, List.getElem?_cons_zero]; exact rfl))
              go_simp
              refine hK.out _ _ (by (try dsimp only); (first | exact S0 | exact S00 | exact S3 | exact S3a | exact S4 | exact HSC.out _ (HB4S.out.far (p := ⟨w.heap.size + 1 + 1, 1, none⟩) hne21 _) | assumption)) (fun hHeld => ?_)
              clear hK K
              (try simp only [Act.put, List.setIfInBounds_toArray, List.set_cons_zero, List.set_cons_succ])
              (try refine wpAnyH_done (by kernel_rfl) ?_ _)
              have HV4 := Lib.hid (HVI.out.step HX.out hb3 hownu (by have := hszB; simp; omega) huc hxl hown4 hgrow)
              clear hown4 hgrow hX4 f41 c41 S4 S3 S3a S0 S00 q31
              go_wp2_with fail
              go_roundw
              case rel => exact ⟨q + 1, _, _, _, by omega, by go_num, HV4.out⟩
              case measure => simp [intOf] <;> omega
        · obtain rfl : q = sn := by omega
          have o0 := hbo.cell 0; have o1 := hbo.cell 1; have o2 := hbo.cell 2; have o3 := hbo.cell 3; have o4 := hbo.cell 4
          have r0 := hbz.cell 0; have r1 := hbz.cell 1; have r2 := hbz.cell 2; have r3 := hbz.cell 3; have r4 := hbz.cell 4
          have g0 := hbz.frozen 0; have g1 := hbz.frozen 1; have g2 := hbz.frozen 2; have g3 := hbz.frozen 3; have g4 := hbz.frozen 4
          simp at o0 o1 o2 o3 o4 r0 r1 r2 r3 r4
          clear hbo hbz hbi hb hown hpar hlw hcr
          go_wp2_with fail
          obtain ⟨_, _, hcr, hlw, hS, hP, ho, hz, _, hb, hsz⟩ := HVI.out
          rw [List.take_of_length_le (by rw [HLS.out]; exact Nat.le_refl _)] at hcr
          have q0 := Fr.refl (fun b => b = w.heap.size + 1) wr
          have q1 := q0.setAt (p := ⟨w.heap.size + 1, 0, none⟩) (.inl rfl) (.slice A1 k c1)
          have q2 := q1.setAt (p := ⟨w.heap.size + 1, 1, none⟩) (.inl rfl) (.slice A2 q c2)
          have q3 := q2.setAt (p := ⟨w.heap.size + 1, 2, none⟩) (.inl rfl) (.int .i64 v.s0)
          have q4 := q3.setAt (p := ⟨w.heap.size + 1, 3, none⟩) (.inl rfl) (.int .i64 v.s1)
          have q5 := q4.setAt (p := ⟨w.heap.size + 1, 4, none⟩) (.inl rfl) (.int .i64 v.s2)
          have hz5 := ((((hz.set_ 0 (.slice A1 k c1)).set_ 1 (.slice A2 q c2)).set_ 2 (.int .i64 v.s0)).set_ 3 (.int .i64 v.s1)).set_ 4 (.int .i64 v.s2)
          generalize (((((wr.setCell ⟨w.heap.size + 1, 0, none⟩ (.slice A1 k c1)).setCell ⟨w.heap.size + 1, 1, none⟩ (.slice A2 q c2)).setCell ⟨w.heap.size + 1, 2, none⟩ (.int .i64 v.s0)).setCell ⟨w.heap.size + 1, 3, none⟩ (.int .i64 v.s1)).setCell ⟨w.heap.size + 1, 4, none⟩ (.int .i64 v.s2)) = W5 at q5 hz5 ⊢
          have z0 := hz5.cell 0; have z1 := hz5.cell 1; have z2 := hz5.cell 2; have z3 := hz5.cell 3; have z4 := hz5.cell 4
          simp at z0 z1 z2 z3 z4
          have hfr : ∀ {e : TypeId} {size n : Nat} {u : Value} {xs : List Value}, wr.ownsRow (w.heap.size + 1 + 1 + 1) e size u n xs → W5.ownsRow (w.heap.size + 1 + 1 + 1) e size u n xs := fun h1 => q5.row h1 (fun g hg hh => by have := own_base_ge2 h1 hg; omega)
          refine bodyPost_ret (v := .agg #[.slice A1 k c1, .slice A2 q c2, .int .i64 v.s0, .int .i64 v.s1, .int .i64 v.s2]) ?_ rfl ⟨A1, c1, A2, c2, ⟨v.pars, L2, v.s0, v.s1, v.s2⟩, rfl, ⟨Rd.of_own encP_len (hfr hP) HLP.out, Rd.of_own encS_len (hfr hS) hL2, fun i x hx => ?_⟩, ⟨rfl, hcr, rfl, rfl, rfl⟩, hb.trans (q5.below hb.size (fun g hg => by omega)), own_fr (by omega) (hfr hP), own_fr (by omega) (hfr hS), fun i x ad hx => own_fr (by omega) (hfr (hlw i x hx).2.1) ad⟩
          · simp [results, Try.f20, go_sem, z0, z1, z2, z3, z4]
          · have hh := hlw i x hx
            obtain ⟨s', hs', hc'⟩ := core_get hcr.symm hx
            have hw' := HWN.out s' (List.mem_of_getElem? hs')
            injection hc' with hc1 _
            rw [hc1, hh.2.2] at hw'
            exact ⟨Rd.of_own enc1_len (hfr hh.2.1) hh.2.2, by unfold maxLen; omega, hh.1⟩
end Go.Proofs.Ytphdndiikikecaa

namespace Go.Proofs.Ytphdndiikikecaa
/-- a piece of evidence, by a word -/
def evOf (tr : List Int) (x : UInt8) : Evd :=
  ⟨((x.toNat % tr.length : Nat) : Int), max 0 (tr.getD (x.toNat % tr.length) 0 - ((x.toNat / tr.length % 3 : Nat) : Int)), min 12 (tr.getD (x.toNat % tr.length) 0 + ((x.toNat / tr.length / 3 % 3 : Nat) : Int))⟩
def evsL (tr : List Int) (ws : List UInt8) : List Evd := ws.map (evOf tr)
theorem evsL_len (tr : List Int) (ws : List UInt8) : (evsL tr ws).length = ws.length := by simp [evsL]
theorem evsL_take_succ {tr : List Int} {ws : List UInt8} {i : Nat} {x : UInt8} (h : ws[i]? = some x) : evsL tr (ws.take (i + 1)) = evsL tr (ws.take i) ++ [evOf tr x] := by
  simp [evsL, List.take_add_one, h]
theorem evsL_mem {tr : List Int} {ws : List UInt8} {e : Evd} (h : e ∈ evsL tr ws) : ∃ x, evOf tr x = e := by
  obtain ⟨x, _, hx⟩ := List.mem_map.1 h
  exact ⟨x, hx⟩
section
variable {v : Vly} {tr : List Int} {ws : List UInt8}
theorem truth12 (hok : VOk v) (hf : Fits v tr) {k : Nat} {m : Int} (hm : tr[k]? = some m) : 0 ≤ m ∧ m ≤ 12 := by
  have hk : k < v.sls.length := by rw [← hf.1]; exact lt_of_get hm
  have hs := List.getElem?_eq_getElem hk
  have h1 := hf.2 k _ m hs hm
  have h2 := hok.slide hs
  have h3 := wayTo_len h2.1
  have := hok.pn
  omega
theorem ev_bounds (hok : VOk v) (hp : 0 < v.sls.length) (hf : Fits v tr) (x : UInt8) : (0 ≤ (evOf tr x).k ∧ (evOf tr x).k ≤ (v.sls.length : Int) - 1) ∧ 0 ≤ (evOf tr x).lo ∧ (evOf tr x).lo ≤ (evOf tr x).hi ∧ (evOf tr x).hi ≤ 12 ∧ ∀ (k : Nat) (m : Int), (evOf tr x).k = (k : Int) → tr[k]? = some m → (evOf tr x).lo ≤ m ∧ m ≤ (evOf tr x).hi := by
  have hl := hf.1
  have h0 : 0 < tr.length := by rw [hl]; omega
  have hlt := Nat.mod_lt x.toNat h0
  have hm := List.getElem?_eq_getElem hlt
  have hmd : tr.getD (x.toNat % tr.length) 0 = tr[x.toNat % tr.length] := by rw [List.getD_eq_getElem?_getD, hm]; rfl
  have hb := truth12 hok hf hm
  simp only [evOf, hmd]
  generalize tr[x.toNat % tr.length] = mm at *
  generalize x.toNat % tr.length = q at *
  generalize x.toNat / tr.length = d at *
  refine ⟨by omega, by omega, by omega, by omega, fun k m hk hm' => ?_⟩
  have hk' : k = q := by omega
  subst hk'
  rw [hm] at hm'
  cases hm'
  omega
theorem evs_ok (hok : VOk v) (hp : 0 < v.sls.length) (hf : Fits v tr) {l : List Evd} (hl : ∀ e ∈ l, ∃ x, evOf tr x = e) (h20 : l.length ≤ 20) : hearE v l = 0 := by
  refine hearE_ok (by omega) (allB_iff.2 fun i e he => ?_) (allB_iff.2 fun i r hr => ?_)
  · obtain ⟨x, rfl⟩ := hl e (List.mem_of_getElem? he)
    have := ev_bounds hok hp hf x
    simp only [evOk, Bool.and_eq_true, inB_iff, upB_iff]
    omega
  · have hi : i < tr.length := by
      have := lt_of_get hr
      rw [leftsL_len, ← hf.1] at this; exact this
    have := leftsL_truth hf (fun e he k m h1 h2 => by
      obtain ⟨x, rfl⟩ := hl e he
      exact (ev_bounds hok hp hf x).2.2.2.2 k m h1 h2) (List.getElem?_eq_getElem hi) hr
    simp [upR]; omega
theorem evs_left (hok : VOk v) (hp : 0 < v.sls.length) (hf : Fits v tr) {l : List Evd} (hl : ∀ e ∈ l, ∃ x, evOf tr x = e) {k : Nat} {m : Int} {x : Int × Int} (hm : tr[k]? = some m) (hx : (leftsL v l)[k]? = some x) : x.1 ≤ m ∧ m ≤ x.2 :=
  leftsL_truth hf (fun e he k m h1 h2 => by
    obtain ⟨x, rfl⟩ := hl e he
    exact (ev_bounds hok hp hf x).2.2.2.2 k m h1 h2) hm hx
theorem evs_turn (tr : List Int) (ws : List UInt8) (a : Nat) : (∀ e ∈ (evsL tr ws).drop a ++ (evsL tr ws).take a, ∃ x, evOf tr x = e) ∧ ((evsL tr ws).drop a ++ (evsL tr ws).take a).length = ws.length ∧ leftsL v ((evsL tr ws).drop a ++ (evsL tr ws).take a) = leftsL v (evsL tr ws) := by
  refine ⟨fun e he => ?_, ?_, ?_⟩
  · rcases List.mem_append.1 he with h | h
    · exact evsL_mem (List.mem_of_mem_drop h)
    · exact evsL_mem (List.mem_of_mem_take h)
  · have := evsL_len tr ws
    simp; omega
  · rw [leftsL_comm, List.take_append_drop]
/-- the zones and dangers of a valley that is told -/
theorem told_at (hok : VOk v) {r : List (Int × Int)} (hl : r.length = v.sls.length) (hr : ∀ (k : Nat) (s : Sli) (x : Int × Int), v.sls[k]? = some s → r[k]? = some x → s.lo ≤ x.1 ∧ x.2 ≤ s.hi) {i : Nat} (hi : i < v.pars.length) :
    (dTo v.sls (endsT v false) (i : Int) v.sls.length ≤ dTo (toldV v r).sls (endsT (toldV v r) false) (i : Int) (toldV v r).sls.length ∧ dTo (toldV v r).sls (endsT (toldV v r) true) (i : Int) (toldV v r).sls.length ≤ dTo v.sls (endsT v true) (i : Int) v.sls.length) := by
  have := hi
  exact toldV_dangs hok hl hr (i : Int)
end
end Go.Proofs.Ytphdndiikikecaa

namespace Go.Proofs.Ytphdndiikikecaa
open Go.RowKit Go.Proofs
attribute [local go_sem ↓] Go.wp_at_zero Go.wp_at_succ

theorem Rd.at3 {w : World} {A : Option Addr} {n : Nat} {l : List Evd} (h : Rd encE 3 w A n l) {i : Nat} (hi : i < n) :
    ∃ b o x, A = some ⟨b, o, none⟩ ∧ b < w.heap.size ∧ l[i]? = some x ∧ w.cell? ⟨b, o + i * 3, none⟩ = some (.int .i64 x.k) ∧ w.cell? ⟨b, o + i * 3 + 1, none⟩ = some (.int .i64 x.lo) ∧ w.cell? ⟨b, o + i * 3 + 2, none⟩ = some (.int .i64 x.hi) := by
  obtain ⟨b, o, x, e, hb, hx, hc⟩ := h.at_ hi
  exact ⟨b, o, x, e, hb, hx, hc 0 _ rfl, hc 1 _ rfl, hc 2 _ rfl⟩

set_option maxRecDepth 100000 in
theorem Hear1_c {PA SA : Option Addr} {pn pc sn sc : Nat} {v : Vly} {V : Nat} (x : Evd) {w : World} (hV : Blk w V 36 (vA PA pn pc SA sn sc v)) (hsn : sn ≤ 10) :
    Calls Try.prog 78 #[.agg #[.int .i64 x.k, .int .i64 x.lo, .int .i64 x.hi], .pointer (some ⟨V, 0, none⟩)] w fun e w' => e = .returned (.bool (evOk sn x)) ∧ Below w.heap.size w w' := by
  have hlt := hV.lt
  have c1 := hV.cell 1
  simp at c1
  have hwsn : IntKind.i64.wrap ((sn : Int) - 1) = (sn : Int) - 1 := wi (by omega)
  have hR : evOk sn x = (inB x.k 0 ((sn : Int) - 1) && upB x.lo x.hi 12) := rfl
  have HIN := Lib.hid (fun W => within_c x.k 0 ((sn : Int) - 1) W)
  clear hV
  cases hin : inB x.k 0 ((sn : Int) - 1)
  · simp only [hin] at HIN
    rw [hin] at hR
    have HR := Lib.hid hR
    clear hR hin
    go_enter Try.func78, Try.ntmps78
    go_wp2_with (go_at_call 69; refine (HIN.out _).mono ?_; rintro e w5 ⟨rfl, rfl⟩)
    go_ret
    exact ⟨by rw [HR.out]; rfl, (Below.refl _ _).alloc (Nat.le_refl _) _⟩
  · simp only [hin] at HIN
    rw [hin, Bool.true_and] at hR
    have HR := Lib.hid hR
    clear hR hin
    go_enter Try.func78, Try.ntmps78
    go_wp2_with (first
      | (go_at_call 69; refine (HIN.out _).mono ?_; rintro e w5 ⟨rfl, rfl⟩)
      | (go_at_call 79; refine (up_c _ _ _ _).mono ?_; rintro e w6 ⟨rfl, hb6⟩))
    go_ret
    exact ⟨by rw [HR.out]; rfl, ((Below.refl _ _).alloc (Nat.le_refl _) _).trans (hb6.mono (by simp))⟩
end Go.Proofs.Ytphdndiikikecaa

namespace Go.Proofs.Ytphdndiikikecaa
open Go.RowKit Go.Proofs

section
variable {p : Evd → Bool}
theorem allEv_1 (x : Evd) (B : Nat) (V : Nat) (w : World) (_hBl : B < w.heap.size) (hB : w.cell? ⟨B, 0, none⟩ = some (.func (.func 78) #[] #[.pointer (some ⟨V, 0, none⟩)]))
    (hp : ∀ W : World, Below w.heap.size w W → Calls Try.prog 78 #[.agg #[.int .i64 x.k, .int .i64 x.lo, .int .i64 x.hi], .pointer (some ⟨V, 0, none⟩)] W fun e w' => e = .returned (.bool (p x)) ∧ Below W.heap.size W w') :
    Calls Try.prog 92 #[.agg #[.int .i64 x.k, .int .i64 x.lo, .int .i64 x.hi], .pointer (some ⟨B, 0, none⟩)] w fun e w' => e = .returned (.bool (!p x)) ∧ Below w.heap.size w w' := by
  have hp' := hp (w.alloc (.cells #[.int .i64 x.k, .int .i64 x.lo, .int .i64 x.hi] 101)) ((Below.refl w.heap.size w).alloc (Nat.le_refl _) (.cells #[.int .i64 x.k, .int .i64 x.lo, .int .i64 x.hi] 101))
  have HP := Lib.hid hp'; clear hp hp'
  go_enter Try.func92, Try.ntmps92
  go_wp2_with (go_at_call 78; refine (HP.out).mono ?_; rintro e w' ⟨rfl, hb⟩)
  go_ret
  exact ⟨rfl, ((Below.refl _ _).alloc (Nat.le_refl _) _).trans (hb.mono (by simp))⟩

theorem idxEv_c {l : List (Evd)} {A : Option Addr} {n c : Nat} {B : Nat} (V : Nat) (w : World) (h : Rd encE 3 w A n l) (hn : n ≤ maxLen) (hBl : B < w.heap.size)
    (hB : w.cell? ⟨B, 0, none⟩ = some (.func (.func 78) #[] #[.pointer (some ⟨V, 0, none⟩)]))
    (hp : ∀ (i : Nat) (x : Evd) (W : World), l[i]? = some x → Below w.heap.size w W → Calls Try.prog 78 #[.agg #[.int .i64 x.k, .int .i64 x.lo, .int .i64 x.hi], .pointer (some ⟨V, 0, none⟩)] W fun e w' => e = .returned (.bool (p x)) ∧ Below W.heap.size W w') :
    Calls Try.prog 99 #[.slice A n c, .func (.func 92) #[] #[.pointer (some ⟨B, 0, none⟩)]] w
      fun e w' => (∃ r : Int, e = .returned (.int .i64 r) ∧ (!decide (r ≥ 0)) = allB p l) ∧ Below w.heap.size w w' := by
  unfold maxLen at hn
  have HP := Lib.hid hp; clear hp
  go_enter Try.func99, Try.ntmps99
  go_wp2_with fail
  go_loopw [5, 8] (fun _ i wr => ∃ k : Nat, k ≤ n ∧ i = .int .i64 k ∧ Below w.heap.size w wr ∧ ∀ (j : Nat) (x : Evd), j < k → l[j]? = some x → p x = true) (fun _ i _ => n - (intOf i).toNat)
  case atStart => exact ⟨0, Nat.zero_le _, rfl, Below.refl _ _, fun j x hj => absurd hj (by omega)⟩
  case round =>
    obtain ⟨k, hk, rfl, hb, hall⟩ := hrel
    have HA := Lib.hid hall; clear hall
    by_cases hlt : k < n
    · obtain ⟨b, o, x, rfl, hbl, hx, h0, h1, h2⟩ := (h.below hb).at3 hlt
      have hx1 := fun W (hW : Below wr.heap.size wr W) => HP.out k x W hx (hb.trans (hW.mono hb.size))
      have HX1 := Lib.hid hx1; clear hx1
      have HX := Lib.hid hx; clear hx
      have hB' := (hb.cell (p := ⟨B, 0, none⟩) hBl).trans hB
      have hBl' : B < wr.heap.size := Nat.lt_of_lt_of_le hBl hb.size
      cases hm : p x
      all_goals
        have HM := Lib.hid hm; clear hm
        go_wp2_with (go_at_call 92; refine (allEv_1 _ _ V _ hBl' hB' HX1.out).mono ?_; rintro e w' ⟨rfl, hb'⟩; simp only [HM.out])
      · go_ret
        exact ⟨⟨k, rfl, by rw [(allB_not (p := p) (l := l)).2 ⟨k, x, HX.out, HM.out⟩]; simp⟩, hb.trans (hb'.mono hb.size)⟩
      · go_roundw
        case rel => exact ⟨k + 1, by omega, by go_num, hb.trans (hb'.mono hb.size), fun j y hj hy => by
          rcases Nat.lt_or_ge j k with hjk | hjk
          · exact HA.out j y hjk hy
          · obtain rfl : j = k := by omega
            rw [HX.out] at hy; cases hy; exact HM.out⟩
        case measure => simp [intOf]; omega
    · go_wp2
      go_ret
      refine ⟨⟨-1, rfl, ?_⟩, hb⟩
      rw [(allB_iff (p := p) (l := l)).2 fun i x hx => HA.out i x (by have := (List.getElem?_eq_some_iff.1 hx).1; have := h.len; omega) hx]
      simp

theorem containsEv_c {l : List (Evd)} {A : Option Addr} {n c : Nat} {B : Nat} (V : Nat) (w : World) (h : Rd encE 3 w A n l) (hn : n ≤ maxLen) (hBl : B < w.heap.size)
    (hB : w.cell? ⟨B, 0, none⟩ = some (.func (.func 78) #[] #[.pointer (some ⟨V, 0, none⟩)]))
    (hp : ∀ (i : Nat) (x : Evd) (W : World), l[i]? = some x → Below w.heap.size w W → Calls Try.prog 78 #[.agg #[.int .i64 x.k, .int .i64 x.lo, .int .i64 x.hi], .pointer (some ⟨V, 0, none⟩)] W fun e w' => e = .returned (.bool (p x)) ∧ Below W.heap.size W w') :
    Calls Try.prog 91 #[.slice A n c, .func (.func 92) #[] #[.pointer (some ⟨B, 0, none⟩)]] w
      fun e w' => e = .returned (.bool (!allB p l)) ∧ Below w.heap.size w w' := by
  have hc := idxEv_c (c := c) V w h hn hBl hB hp
  have HC := Lib.hid hc; clear hc hp
  go_enter Try.func91, Try.ntmps91
  go_wp2_with (go_at_call 99; refine (HC.out).mono ?_; rintro e w' ⟨⟨r, rfl, hr⟩, hb⟩; have HR := Lib.hid hr; clear hr)
  go_ret
  exact ⟨ret_bool (by rw [← HR.out]; simp), hb⟩

theorem allEv_c {l : List (Evd)} {A : Option Addr} {n c : Nat} (V : Nat) (w : World) (h : Rd encE 3 w A n l) (hn : n ≤ maxLen)
    (hp : ∀ (i : Nat) (x : Evd) (W : World), l[i]? = some x → Below w.heap.size w W → Calls Try.prog 78 #[.agg #[.int .i64 x.k, .int .i64 x.lo, .int .i64 x.hi], .pointer (some ⟨V, 0, none⟩)] W fun e w' => e = .returned (.bool (p x)) ∧ Below W.heap.size W w') :
    Calls Try.prog 80 #[.slice A n c, .func (.func 78) #[] #[.pointer (some ⟨V, 0, none⟩)]] w
      fun e w' => e = .returned (.bool (allB p l)) ∧ Below w.heap.size w w' := by
  have hbx := (Below.refl w.heap.size w).alloc (Nat.le_refl _) (.cells #[.func (.func 78) #[] #[.pointer (some ⟨V, 0, none⟩)]] 126)
  have hc := containsEv_c (c := c) (B := w.heap.size) V (w.alloc (.cells #[.func (.func 78) #[] #[.pointer (some ⟨V, 0, none⟩)]] 126)) (h.mono hbx) hn (by simp) (by simp) (fun i x W hx hW => hp i x W hx (hbx.trans (hW.mono (by simp))))
  have HC := Lib.hid hc; clear hc hp
  go_enter Try.func80, Try.ntmps80
  go_wp2_with (go_at_call 91; refine (HC.out).mono ?_; rintro e w' ⟨rfl, hb⟩)
  go_ret
  exact ⟨ret_bool (by simp), ((Below.refl _ _).alloc (Nat.le_refl _) _).trans (hb.mono (by simp))⟩
end
end Go.Proofs.Ytphdndiikikecaa

namespace Go.Proofs.Ytphdndiikikecaa
open Go.RowKit Go.Proofs

def rgD (r : Int × Int) : DataW Unit := .agg [.lit (.int .i64 r.1), .lit (.int .i64 r.2)]
def rgV (r : Int × Int) : Value := .agg #[.int .i64 r.1, .int .i64 r.2]
/-- how an element reads -/
def rgElem (v : Value) : Option (DataW Unit × List MemPlace) := match v with
  | .agg cs => match cs.toList with
    | [.int .i64 a, .int .i64 b] => some (rgD (a, b), [])
    | _ => none
  | _ => none
theorem rgElem_mk (r : Int × Int) : rgElem (rgV r) = some (rgD r, []) := rfl
theorem rgElem_inv {v : Value} {z : DataW Unit × List MemPlace} (h : rgElem v = some z) : ∃ r, v = rgV r ∧ z = (rgD r, []) := by
  unfold rgElem at h
  split at h
  · rename_i cs
    split at h
    · rename_i a b hc
      cases h
      refine ⟨(a, b), ?_, rfl⟩
      show Value.agg cs = _
      have : cs = #[.int .i64 a, .int .i64 b] := Array.ext' hc
      rw [this]; rfl
    · cases h
  · cases h
theorem rgD_inj {r s : Int × Int} (h : rgD r = rgD s) : r = s := by
  simp [rgD] at h
  exact Prod.ext h.1 h.2
theorem keyedI : Maps.Keyed Try.prog 3 := Maps.int_keyed Try.underlying3
theorem key_of {k : Int} (h : -9223372036854775808 ≤ k ∧ k ≤ 9223372036854775807) : keyOf Try.prog 3 (.int .i64 k) = some (.int .i64 k) := by
  have wa : (Lit.int .i64 k).wf = true := WalkArith.wf_i64 (by omega)
  simp [keyOf, Try.underlying3, mapKey, wa]
/-- block M is a map that gives f k at each key k -/
def MapF (w : World) (M n : Nat) (f : Int → Int × Int) : Prop :=
  ∃ D : DataW Unit, w.ownsMap Try.prog 3 rgElem M n D ∧ Maps.IsMap D ∧ ∀ k : Int, D.atKey (.int .i64 k) (rgD (0, 0)) = rgD (f k)
theorem MapF.made (w : World) : MapF (w.alloc (.map #[] 0)) w.heap.size 0 (fun _ => (0, 0)) :=
  ⟨.map [], World.ownsMap_made w _ _ _, Maps.isMap_empty, fun _ => rfl⟩
theorem MapF.lt {w : World} {M n : Nat} {f : Int → Int × Int} (h : MapF w M n f) : M < w.heap.size := by
  obtain ⟨D, h, _⟩ := h; exact h.lt
theorem MapF.grown {w w' : World} {M n : Nat} {f : Int → Int × Int} {row : Option Nat} (h : MapF w M n f) (hg : w.grownBy w' row) (hne : some M ≠ row) : MapF w' M n f := by
  obtain ⟨D, h1, h2⟩ := h; exact ⟨D, h1.kept hg hne, h2⟩
theorem MapF.alloc {w : World} {M n : Nat} {f : Int → Int × Int} (h : MapF w M n f) (o : Obj) : MapF (w.alloc o) M n f := by
  obtain ⟨D, h1, h2⟩ := h; exact ⟨D, h1.alloc o, h2⟩
theorem MapF.below {w w' : World} {M n : Nat} {f : Int → Int × Int} (h : MapF w M n f) (hb : Below w.heap.size w w') : MapF w' M n f := by
  obtain ⟨D, ⟨es, cl, h1, h3⟩, h2⟩ := h
  exact ⟨D, ⟨es, cl, (hb.block M (Array.getElem?_eq_some_iff.1 h1).1).trans h1, h3⟩, h2⟩
theorem zero_rg (w : World) : (zeroValue 67).run Try.prog w = .ok (rgV (0, 0)) w := by kernel_rfl
theorem MapF.look {w : World} {M n : Nat} {f : Int → Int × Int} (h : MapF w M n f) {k : Int} (hk : -9223372036854775808 ≤ k ∧ k ≤ 9223372036854775807) :
    (Instr.lookup 128 (.map (some M)) (.int .i64 k) false).run Try.prog w = .ok (.agg #[.int .i64 (f k).1, .int .i64 (f k).2]) w := by
  obtain ⟨D, h1, _, h3⟩ := h
  obtain ⟨v, ps, hrun, hv⟩ := h1.lookup keyedI Try.underlying128 (zero_rg w) (rgElem_mk (0, 0)) (key_of hk)
  obtain ⟨r, rfl, hz⟩ := rgElem_inv hv
  rw [h3] at hz
  have : f k = r := rgD_inj (by injection hz)
  rw [hrun, this]; rfl
theorem MapF.upd {w : World} {M n : Nat} {f : Int → Int × Int} (h : MapF w M n f) {k : Int} (hk : -9223372036854775808 ≤ k ∧ k ≤ 9223372036854775807) (hn : n < 1000000) (r : Int × Int) :
    ∃ w', (Instr.mapUpdate 128 (.map (some M)) (.int .i64 k) (.agg #[.int .i64 r.1, .int .i64 r.2])).run Try.prog w = .ok () w' ∧ MapF w' M (n + 1) (fun j => if j = k then r else f j) ∧ w.grownBy w' (some M) := by
  obtain ⟨D, h1, h2, h3⟩ := h
  obtain ⟨w', hrun, h4, h5⟩ := h1.update keyedI Try.underlying128 (by unfold maxLen; omega) (key_of hk) (rgElem_mk r)
  refine ⟨w', hrun, ⟨_, h4, h2.put _ _, fun j => ?_⟩, h5⟩
  by_cases hj : j = k
  · subst hj
    show _ = rgD (if j = j then r else f j)
    rw [if_pos rfl, Maps.atKey_put_same h2 (keyedI.key (key_of hk))]
  · show _ = rgD (if j = k then r else f j)
    rw [if_neg hj, Maps.atKey_put_other (by intro e; injection e with e1 e2; exact hj e2), h3]
/-- a store into the map, for the walk -/
theorem wpList_mapF {w : World} {ops : Array Oper} {rest : List Oper} {o : Oper} {a : Act} {Q : Exit → Act → World → Prop}
    (hg : o.guard = none) (m x v : Operand) (hop : o.op = Op.mapUpdate 128 m x v) (M n : Nat) (f : Int → Int × Int) (hm : a.eval m = .map (some M)) (h : MapF w M n f)
    (k : Int) (hx : a.eval x = .int .i64 k) (hk : -9223372036854775808 ≤ k ∧ k ≤ 9223372036854775807) (hn : n < 1000000) (r : Int × Int) (hv : a.eval v = .agg #[.int .i64 r.1, .int .i64 r.2])
    (hK : ∀ w', MapF w' M (n + 1) (fun j => if j = k then r else f j) → w.grownBy w' (some M) → wpList Try.prog ops Q rest (a.put o.dst undef) w') :
    wpList Try.prog ops Q (o :: rest) a w := by
  refine wpList_plain hg fun K' hK' => ?_
  obtain ⟨w', hrun, r1, r2⟩ := h.upd hk hn r
  unfold Oper.wp
  simp [execOp, hop, hm, hx, hv, hrun, Result.andThen]
  exact hK' _ _ (hK w' r1 r2)
end Go.Proofs.Ytphdndiikikecaa

namespace Go.Proofs.Ytphdndiikikecaa
open Go.RowKit Go.Proofs
attribute [local go_sem ↓] Go.wp_at_zero Go.wp_at_succ

def mapOf (ps : List (Int × Int)) (j : Int) : Int × Int := if j < 0 then (0, 0) else ps.getD j.toNat (0, 0)
theorem mapOf_nil : mapOf [] = fun _ => (0, 0) := by
  funext j; unfold mapOf; split <;> simp
theorem mapOf_get {ps : List (Int × Int)} {k : Nat} {r : Int × Int} (h : ps[k]? = some r) : mapOf ps (k : Int) = r := by
  unfold mapOf
  rw [if_neg (by omega)]
  simp [List.getD, h]
theorem mapOf_push (ps : List (Int × Int)) (r : Int × Int) : (fun j => if j = ((ps.length : Nat) : Int) then r else mapOf ps j) = mapOf (ps ++ [r]) := by
  funext j
  unfold mapOf
  by_cases h0 : j < 0
  · rw [if_neg (by omega), if_pos h0, if_pos h0]
  · rw [if_neg h0, if_neg h0]
    by_cases h1 : j = (ps.length : Int)
    · subst h1; simp [List.getD]
    · rw [if_neg h1]
      simp only [List.getD]
      by_cases h2 : j.toNat < ps.length
      · rw [List.getElem?_append_left h2]
      · rw [List.getElem?_eq_none (by omega), List.getElem?_eq_none (by simp; omega)]
theorem mapOf_set {ps : List (Int × Int)} {k : Nat} (hk : k < ps.length) (r : Int × Int) : (fun j => if j = (k : Int) then r else mapOf ps j) = mapOf (ps.set k r) := by
  funext j
  unfold mapOf
  by_cases h0 : j < 0
  · rw [if_neg (by omega), if_pos h0, if_pos h0]
  · rw [if_neg h0, if_neg h0]
    simp only [List.getD, List.getElem?_set]
    by_cases h1 : j = (k : Int)
    · subst h1; simp [hk]
    · rw [if_neg h1, if_neg (show ¬ k = j.toNat by omega)]
/-- a look-up in the map, for the walk -/
theorem wpList_lookF {w : World} {ops : Array Oper} {rest : List Oper} {o : Oper} {a : Act} {Q : Exit → Act → World → Prop}
    (hg : o.guard = none) (m x : Operand) (hop : o.op = Op.lookup 128 m x false) (M n : Nat) (f : Int → Int × Int) (hm : a.eval m = .map (some M)) (h : MapF w M n f)
    (k : Int) (hx : a.eval x = .int .i64 k) (hk : -9223372036854775808 ≤ k ∧ k ≤ 9223372036854775807) (r : Int × Int) (hr : f k = r)
    (hK : wpList Try.prog ops Q rest (a.put o.dst (.agg #[.int .i64 r.1, .int .i64 r.2])) w) :
    wpList Try.prog ops Q (o :: rest) a w := by
  refine wpList_plain hg fun K' hK' => ?_
  have hrun := h.look hk
  rw [hr] at hrun
  unfold Oper.wp
  simp [execOp, hop, hm, hx, hrun, Result.andThen]
  exact hK' _ _ hK

theorem fieldR0 (a b : Int) (W : World) : (Instr.field 67 (.agg #[.int .i64 a, .int .i64 b]) 0).run Try.prog W = .ok (.int .i64 a) W := by kernel_rfl
theorem fieldR1 (a b : Int) (W : World) : (Instr.field 67 (.agg #[.int .i64 a, .int .i64 b]) 1).run Try.prog W = .ok (.int .i64 b) W := by kernel_rfl
/-- how Hear of good evidence ends -/
def HearP (v : Vly) (l : List Evd) (sn : Nat) (w : World) (e : Ending) (w' : World) : Prop :=
  ((∃ A c, allB upR (leftsL v l) = true ∧ e = .returned (.tuple #[.slice A sn c, .int .i64 0]) ∧ Rd enc2 2 w' A sn (leftsL v l)) ∨
    (allB upR (leftsL v l) = false ∧ e = .returned (.tuple #[.slice none 0 0, .int .i64 9]))) ∧ Below w.heap.size w w'
theorem HearP.yes {v : Vly} {l : List Evd} {sn : Nat} {w w' : World} {A : Option Addr} {c : Nat} (h : allB upR (leftsL v l) = true) (hr : Rd enc2 2 w' A sn (leftsL v l)) (hb : Below w.heap.size w w') : HearP v l sn w (.returned (.tuple #[.slice A sn c, .int .i64 0])) w' := ⟨.inl ⟨A, c, h, rfl, hr⟩, hb⟩
theorem HearP.no {v : Vly} {l : List Evd} {sn : Nat} {w w' : World} (h : allB upR (leftsL v l) = false) (hb : Below w.heap.size w w') : HearP v l sn w (.returned (.tuple #[.slice none 0 0, .int .i64 9])) w' := ⟨.inr ⟨h, rfl⟩, hb⟩

set_option maxRecDepth 100000 in
set_option maxHeartbeats 400000 in
theorem Hear_bad {v : Vly} {PA SA LA : Option Addr} {pn pc sn sc ln lc : Nat} {w : World} (h : RdV w PA pn SA sn v) (hpn : pn ≤ maxLen) (hsn : sn ≤ maxLen) (hbad : errV v ≠ 0) :
    Calls Try.prog 46 #[.agg #[.slice PA pn pc, .slice SA sn sc, .int .i64 v.s0, .int .i64 v.s1, .int .i64 v.s2], .slice LA ln lc] w
      fun e w' => e = .returned (.tuple #[.slice none 0 0, .int .i64 (errV v)]) ∧ Below w.heap.size w w' := by
  have hne : (errV v == 0) = false := by simpa using hbad
  have hb0 : Below w.heap.size w (w.alloc (.cells (vA PA pn pc SA sn sc v) 36)) := (Below.refl _ w).alloc (Nat.le_refl _) _
  have HC := Lib.hid (checkV_c (pc := pc) (sc := sc) (h.below hb0) hpn hsn)
  obtain ⟨E, hE⟩ : ∃ E, E = errV v := ⟨_, rfl⟩
  rw [← hE] at HC hne hbad ⊢
  have HB := Lib.hid hb0
  clear h hE hb0
  go_enter Try.func46, Try.ntmps46
  go_wp2_with fail
  go_step3
  go_wp2_with fail
  refine HC.out.mono ?_
  rintro e w2 ⟨rfl, hb⟩
  have HB2 := Lib.hid (below_tr HB.out hb)
  clear hb
  go_wp2_with fail
  (try rw [Exit.noGoto_ret])
  go_ret2
  exact ⟨rfl, HB2.out⟩

set_option maxRecDepth 100000 in
set_option maxHeartbeats 1000000 in
theorem Hear_arg {v : Vly} {l : List Evd} {PA SA LA : Option Addr} {pn pc sn sc ln lc : Nat} {w : World} (h : RdV w PA pn SA sn v) (hok : VOk v) (hL : Rd encE 3 w LA ln l) (hln : ln ≤ maxLen) (hno : 20 < l.length ∨ allB (evOk sn) l = false) :
    Calls Try.prog 46 #[.agg #[.slice PA pn pc, .slice SA sn sc, .int .i64 v.s0, .int .i64 v.s1, .int .i64 v.s2], .slice LA ln lc] w
      fun e w' => e = .returned (.tuple #[.slice none 0 0, .int .i64 (if 20 < l.length then 3 else 2)]) ∧ Below w.heap.size w w' := by
  have hlp := h.pars.len; have hls := h.sls.len; have hll := hL.len
  have hpn := hok.pn; have hsn := hok.sn
  have hb0 : Below w.heap.size w (w.alloc (.cells (vA PA pn pc SA sn sc v) 36)) := (Below.refl _ w).alloc (Nat.le_refl _) _
  have HC := Lib.hid (checkV_c (pc := pc) (sc := sc) (h.below hb0) (by unfold maxLen; omega) (by unfold maxLen; omega))
  rw [errV_zero.2 hok] at HC
  have HB := Lib.hid hb0
  have HX := Lib.hid (Blk.new w 36 (vA PA pn pc SA sn sc v))
  have HL := Lib.hid hL
  have HLN := Lib.hid hln
  have hsn10 : sn ≤ 10 := by omega
  clear h hb0 hok hL hpn hsn hlp hls
  by_cases h20 : 20 < l.length
  · rw [if_pos h20]
    have hg : (20 : Int) < (ln : Int) := by omega
    unfold maxLen at hln
    clear hno h20 hll
    go_enter Try.func46, Try.ntmps46
    go_wp2_with fail
    go_step3
    go_wp2_with fail
    refine HC.out.mono ?_
    rintro e w2 ⟨rfl, hb⟩
    have HB2 := Lib.hid (below_tr HB.out hb)
    clear hb
    go_wp2_with fail
    (try rw [Exit.noGoto_ret])
    go_ret2
    exact ⟨rfl, HB2.out⟩
  · rw [if_neg h20]
    have hev := hno.resolve_left h20
    have hg : ¬ (20 : Int) < (ln : Int) := by omega
    unfold maxLen at hln
    have HEV := Lib.hid hev
    clear hno h20 hll hev
    go_enter Try.func46, Try.ntmps46
    go_wp2_with fail
    go_step3
    go_wp2_with fail
    refine HC.out.mono ?_
    rintro e w2 ⟨rfl, hb⟩
    have hx2 := HX.out.below hb (by simp)
    have HB2 := Lib.hid (below_tr HB.out hb)
    have HAL := Lib.hid (allEv_c (p := evOk sn) (c := lc) w.heap.size w2 (HL.out.below (below_tr HB.out hb)) HLN.out (fun i x W _ hW => Hear1_c x (hx2.below hW hx2.lt) hsn10))
    rw [HEV.out] at HAL
    clear hb hx2
    go_wp2_with (go_at_call 80; refine HAL.out.mono ?_; rintro e w5 ⟨rfl, hb5⟩)
    (try rw [Exit.noGoto_ret])
    go_ret2
    exact ⟨rfl, below_tr HB2.out hb5⟩

set_option maxRecDepth 100000 in
set_option maxHeartbeats 4000000 in
theorem Hear_c {v : Vly} {l : List Evd} {PA SA LA : Option Addr} {pn pc sn sc ln lc : Nat} {w : World} (h : RdV w PA pn SA sn v) (hok : VOk v) (hL : Rd encE 3 w LA ln l) (hln : ln ≤ 20) (hev : allB (evOk sn) l = true) :
    Calls Try.prog 46 #[.agg #[.slice PA pn pc, .slice SA sn sc, .int .i64 v.s0, .int .i64 v.s1, .int .i64 v.s2], .slice LA ln lc] w (HearP v l sn w) := by
  have hlp := h.pars.len; have hls := h.sls.len; have hll := hL.len
  have hpn := hok.pn; have hsn := hok.sn
  obtain ⟨i0, hi0, hz0, hz1, hz2⟩ := info_parts infoRg
  have HI := Lib.hid hi0; have HZ0 := Lib.hid hz0; have HZ1 := Lib.hid hz1; have HZ2 := Lib.hid hz2
  clear hi0 hz0 hz1 hz2
  have hb0 : Below w.heap.size w (w.alloc (.cells (vA PA pn pc SA sn sc v) 36)) := (Below.refl _ w).alloc (Nat.le_refl _) _
  have HC := Lib.hid (checkV_c (pc := pc) (sc := sc) (h.below hb0) (by unfold maxLen; omega) (by unfold maxLen; omega))
  rw [errV_zero.2 hok] at HC
  have HB := Lib.hid hb0
  have HX := Lib.hid (Blk.new w 36 (vA PA pn pc SA sn sc v))
  have HV := Lib.hid h; have HL := Lib.hid hL; have HEV := Lib.hid hev
  have HLS := Lib.hid hls
  have hsn10 : sn ≤ 10 := by omega
  have hg : ¬ (20 : Int) < (ln : Int) := by omega
  have hgd : decide ((20 : Int) < (ln : Int)) = false := decide_eq_false hg
  have HLL := Lib.hid hll
  have HEB := Lib.hid (fun (i : Nat) (x : Evd) (hx : l[i]? = some x) => show (0 ≤ x.k ∧ x.k < sn) ∧ 0 ≤ x.lo ∧ x.lo ≤ x.hi ∧ x.hi ≤ 12 from by
    have := allB_iff.1 hev i x hx
    simp only [evOk, Bool.and_eq_true, inB_iff, upB_iff] at this
    omega)
  have HSB := Lib.hid (fun (i : Nat) (x : Sli) (hx : v.sls[i]? = some x) => show 0 ≤ x.lo ∧ x.lo ≤ x.hi ∧ x.hi ≤ 12 from by
    have := hok.slide hx
    have := wayTo_len this.1
    omega)
  clear h hb0 hok hL hpn hsn hlp hls hev hll hg
  have hmm := @run_makeMap Try.prog
  go_enter Try.func46, Try.ntmps46
  go_wp2_with fail
  go_step3
  go_wp2_with fail
  refine HC.out.mono ?_
  rintro e w2 ⟨rfl, hb⟩
  have hx2 := HX.out.below hb (by simp)
  have HX2 := Lib.hid hx2
  have HB2 := Lib.hid (below_tr HB.out hb)
  have HAL := Lib.hid (allEv_c (p := evOk sn) (c := lc) w.heap.size w2 (HL.out.below (below_tr HB.out hb)) (by unfold maxLen; omega) (fun i x W _ hW => Hear1_c x (hx2.below hW hx2.lt) hsn10))
  rw [HEV.out] at HAL
  clear hb hx2 HX
  go_upto_region 9 with (go_at_call 80; refine HAL.out.mono ?_; rintro e w5 ⟨rfl, hb5⟩)
  have hx5 := HX2.out.below hb5 HX2.out.lt
  have HX5 := Lib.hid hx5
  have HB5 := Lib.hid (below_tr HB2.out hb5)
  have c1 := hx5.cell 1
  simp at c1
  have hlt5 := hx5.lt
  have HM0 := Lib.hid (MapF.made w5)
  clear hb5 hx5 HAL
  go_wp2_with fail
  obtain ⟨M, hM⟩ : ∃ M, M = w5.heap.size := ⟨_, rfl⟩
  have hb6 : Below w5.heap.size w5 (w5.alloc (.map #[] 0)) := (Below.refl _ w5).alloc (Nat.le_refl _) _
  have HX6 := Lib.hid (HX5.out.below hb6 hlt5)
  have HB6 := Lib.hid (below_tr HB5.out hb6)
  have hMw : w.heap.size < M := by omega
  rw [← hM] at HM0 ⊢
  clear hM hb6 HX5 HB5 HX2 HB2 c1 hlt5 hmm
  go_loopw [36] (fun i wr => ∃ k : Nat, k ≤ sn ∧ i = .int .i64 k ∧ MapF wr M k (mapOf ((leftsL v []).take k)) ∧ Blk wr w.heap.size 36 (vA PA pn pc SA sn sc v) ∧ Below w.heap.size w wr) (fun i _ => sn - (intOf i).toNat)
  case atStart => exact ⟨0, Nat.zero_le _, rfl, by rw [List.take_zero, mapOf_nil]; exact HM0.out, HX6.out, HB6.out⟩
  case round =>
    clear HX6 HB6 HM0
    obtain ⟨k, hk, rfl, hm, hbx, hb⟩ := hrel
    by_cases hlt : k < sn
    · obtain ⟨b, o, x, hA, hblt, hx, h0, h1, h2, h3⟩ := (HV.out.sls.below hb).atS hlt
      subst hA
      have hsb := HSB.out k x hx
      have hkl : ((leftsL v []).take k).length = k := by rw [List.length_take, leftsL_len]; have := HLS.out; omega
      have hpush := mapOf_push ((leftsL v []).take k) (x.lo, x.hi)
      rw [hkl, show (leftsL v []).take k ++ [(x.lo, x.hi)] = (leftsL v []).take (k + 1) by rw [List.take_add_one, leftsL_get hx]; rfl] at hpush
      have HP := Lib.hid hpush
      have hb1 : Below wr.heap.size wr (wr.alloc (.cells #[.slice x.A x.n x.c, .int .i64 x.rate, .int .i64 x.lo, .int .i64 x.hi] 103)) := (Below.refl _ wr).alloc (Nat.le_refl _) _
      have HM1 := Lib.hid (hm.below hb1)
      have HX1 := Lib.hid (hbx.below hb1 hbx.lt)
      have HB1 := Lib.hid (below_tr hb hb1)
      have hkn : (k : Int) < (sn : Int) := by omega
      have hk0 : (0 : Int) ≤ (k : Int) := by omega
      have hM1 := hm.lt
      clear hkl hpush hb1 hm hbx hb hx
      go_wp2_with (at_mapUpdate; go_must (refine wpList_mapF rfl _ _ _ rfl M k _ rfl HM1.out (k : Int) rfl (by omega) (by omega) (x.lo, x.hi) rfl ?_; intro w1 hm1 hg1))
      rw [HP.out] at hm1
      have HM2 := Lib.hid hm1
      have HX2 := Lib.hid (HX1.out.grown hg1 (by intro e; have := Option.some.inj e; omega))
      have HB2 := Lib.hid (HB1.out.grown hg1 HB1.out.size (fun g hg => by cases hg; omega))
      clear hm1 hg1
      go_wp2_with fail
      go_roundw
      case rel => exact ⟨k + 1, by omega, by go_num, HM2.out, HX2.out, HB2.out⟩
      case measure => simp [intOf] <;> omega
    · obtain rfl : k = sn := by omega
      rw [show (leftsL v []).take k = leftsL v (l.take 0) by rw [List.take_zero]; exact List.take_of_length_le (by rw [leftsL_len]; have := HLS.out; omega)] at hm
      have HM1 := Lib.hid hm; have HX1 := Lib.hid hbx; have HB1 := Lib.hid hb
      clear hm hbx hb
      go_wp2_with fail
      go_loopw [48] (fun i wr => ∃ j n : Nat, j ≤ ln ∧ n ≤ 100 + j ∧ i = .int .i64 j ∧ MapF wr M n (mapOf (leftsL v (l.take j))) ∧ Blk wr w.heap.size 36 (vA PA pn pc SA k sc v) ∧ Below w.heap.size w wr) (fun i _ => ln - (intOf i).toNat)
      case atStart => exact ⟨0, k, Nat.zero_le _, by omega, rfl, HM1.out, HX1.out, HB1.out⟩
      case round =>
        clear HX1 HB1 HM1
        obtain ⟨j, n, hj, hn, rfl, hm, hbx, hb⟩ := hrel
        by_cases hlt2 : j < ln
        · obtain ⟨b, o, x, hA, hblt, hx, h0, h1, h2⟩ := (HL.out.below hb).at3 hlt2
          subst hA
          have heb := HEB.out j x hx
          obtain ⟨q, hq⟩ : ∃ q : Nat, x.k = (q : Int) := ⟨x.k.toNat, by omega⟩
          have hqk : q < k := by omega
          obtain ⟨r, hr⟩ : ∃ r, (leftsL v (l.take j))[q]? = some r := ⟨_, List.getElem?_eq_getElem (by rw [leftsL_len]; have := HLS.out; omega)⟩
          have hset := mapOf_set (ps := leftsL v (l.take j)) (k := q) (by rw [leftsL_len]; have := HLS.out; omega) (max r.1 x.lo, min r.2 x.hi)
          rw [← leftsL_snoc hq hr, show l.take j ++ [x] = l.take (j + 1) by rw [List.take_add_one, hx]; rfl] at hset
          have HP := Lib.hid hset
          have HG := Lib.hid (mapOf_get hr)
          have hb1 : Below wr.heap.size wr (wr.alloc (.cells #[.int .i64 (q : Int), .int .i64 x.lo, .int .i64 x.hi] 101)) := (Below.refl _ wr).alloc (Nat.le_refl _) _
          have HM1 := Lib.hid (hm.below hb1)
          have HX1 := Lib.hid (hbx.below hb1 hbx.lt)
          have HB1 := Lib.hid (below_tr hb hb1)
          have hjn : (j : Int) < (ln : Int) := by omega
          have hj0 : (0 : Int) ≤ (j : Int) := by omega
          have hM1 := hm.lt
          rw [hq] at h0
          clear hset hb1 hm hbx hb hx hr
          go_wp2_with (first
            | (at_lookup; go_must (refine wpList_lookF rfl _ _ rfl M n _ rfl HM1.out (q : Int) rfl (by omega) r HG.out ?_))
            | (at_mapUpdate; go_must (refine wpList_mapF rfl _ _ _ rfl M n _ rfl (HM1.out.alloc _) (q : Int) rfl (by omega) (by omega) (max r.1 x.lo, min r.2 x.hi) rfl ?_; intro w1 hm1 hg1)))
          rw [HP.out] at hm1
          have HM2 := Lib.hid hm1
          have HX2 := Lib.hid ((HX1.out.alloc _).grown hg1 (by intro e; have := Option.some.inj e; omega))
          have HB2 := Lib.hid ((HB1.out.alloc HB1.out.size _).grown hg1 (by simp; have := HB1.out.size; simp at this; omega) (fun g hg => by cases hg; omega))
          clear hm1 hg1
          go_wp2_with fail
          go_roundw
          case rel => exact ⟨j + 1, n + 1, by omega, by omega, by go_num, HM2.out, HX2.out, HB2.out⟩
          case measure => simp [intOf] <;> omega
        · obtain rfl : j = ln := by omega
          rw [show l.take j = l from List.take_of_length_le (by have := HLL.out; omega)] at hm
          have HM1 := Lib.hid hm; have HX1 := Lib.hid hbx; have HB1 := Lib.hid hb
          obtain ⟨L, hL⟩ : ∃ L, L = leftsL v l := ⟨_, rfl⟩
          have HLE := Lib.hid hL
          have HLN := Lib.hid (show L.length = k by rw [hL, leftsL_len]; exact HLS.out)
          have hMw2 := hm.lt
          have c1 := hbx.cell 1
          simp at c1
          rw [← hL] at hm HM1
          obtain ⟨W3, hW3⟩ : ∃ W3, W3 = wr := ⟨_, rfl⟩
          rw [← hW3] at HM1 HX1 HB1 hMw2 c1 ⊢
          clear hm hbx hb hL hW3
          go_wp2_with fail
          go_step3
          go_wp2_with fail
          obtain ⟨w0, hw0⟩ : ∃ w0, w0 = w.heap.size := ⟨_, rfl⟩
          have hszw : w0 ≤ W3.heap.size := by rw [hw0]; exact HB1.out.size
          have HW0 := Lib.hid hw0
          clear hw0
          go_loopw [14, 15, 76] (fun o er i wr => ∃ t : Nat, t ≤ k ∧ i = .int .i64 t ∧ er = .int .i64 0 ∧ (∀ (i : Nat) (r : Int × Int), i < t → L[i]? = some r → upR r = true) ∧ wr.ownsRow W3.heap.size 67 2 o t ((L.take t).flatMap enc2) ∧ Below W3.heap.size W3 wr) (fun _ _ i _ => k - (intOf i).toNat)
          case atStart => exact ⟨0, Nat.zero_le _, rfl, rfl, fun i r hi => by omega, World.ownsRow_nil _ _ _ _, Below.refl _ _⟩
          case round =>
            obtain ⟨t, ht, rfl, rfl, hup, hown, hb⟩ := hrel
            have HBr := Lib.hid hb; have HO := Lib.hid hown; have HU := Lib.hid hup
            have HMt := Lib.hid (HM1.out.below hb)
            by_cases hlt3 : t < k
            · obtain ⟨r, hr⟩ : ∃ r, L[t]? = some r := ⟨_, List.getElem?_eq_getElem (by have := HLN.out; omega)⟩
              have HR := Lib.hid hr
              have HG := Lib.hid (mapOf_get hr)
              have htk : (t : Int) < (k : Int) := by omega
              have fr0 := fieldR0 r.1 r.2 wr; have fr1 := fieldR1 r.1 r.2 wr
              clear hup hown hb hr
              by_cases hc : r.1 ≤ r.2
              · have hd : decide (r.2 < r.1) = false := decide_eq_false (by omega)
                go_wp2_with (first
                  | (at_lookup; go_must (refine wpList_lookF rfl _ _ rfl M _ _ rfl HMt.out (t : Int) rfl (by omega) r HG.out ?_))
                  | (at_builtin; go_must (refine wpList_append_own_at _ rfl _ _ 29 rfl W3.heap.size 67 i0 _ 2 16 Try.underlying29 HI.out HZ0.out HZ1.out HZ2.out rfl (by decide) _ _ _ rfl (HO.out.alloc _) ⟨wr.heap.size, 0, none⟩ 1 1 [.int .i64 r.1, .int .i64 r.2] rfl rfl (fun j u hj => World.news_of_block (cs := #[.int .i64 r.1, .int .i64 r.2]) (t := 67) (fr := (0, 0)) (heap_alloc_new wr _) j u hj) (by simp [Value.oneCell']) (by unfold maxLen; omega) (by omega) (by simp; have := HBr.out.size; omega) ?_; intro v' w1 hown' hgrow _ _)))
                have H1 : Hid (w1.ownsRow W3.heap.size 67 2 v' (t + 1) ((L.take (t + 1)).flatMap enc2)) := by
                  rw [List.take_add_one, HR.out, List.flatMap_append]
                  exact hown'
                have H2 := Lib.hid ((HBr.out.alloc HBr.out.size _).grown hgrow (by simp; have := HBr.out.size; omega) (fun g hg => (HO.out.lt g hg).1))
                clear hown' hgrow
                go_wp2_with fail
                go_roundw
                case rel => exact ⟨t + 1, by omega, by go_num, rfl, fun i r' hi hr' => by
                  by_cases hit : i = t
                  · subst hit; rw [HR.out] at hr'; cases hr'; exact decide_eq_true hc
                  · exact HU.out i r' (by omega) hr', H1.out, H2.out⟩
                case measure => simp [intOf] <;> omega
              · have hd : decide (r.2 < r.1) = true := decide_eq_true (by omega)
                have HF := Lib.hid (show allB upR (leftsL v l) = false from allB_not.2 ⟨t, r, by rw [← HLE.out]; exact HR.out, decide_eq_false hc⟩)
                clear hc
                go_wp2_with (at_lookup; go_must (refine wpList_lookF rfl _ _ rfl M _ _ rfl HMt.out (t : Int) rfl (by omega) r HG.out ?_))
                (try rw [Exit.noGoto_ret])
                go_ret2
                exact HearP.no HF.out (below_tr HB1.out HBr.out)
            · obtain rfl : t = k := by omega
              have hfin := hown
              obtain ⟨A', c', rfl, hc'⟩ := own_form hfin
              rw [List.take_of_length_le (by have := HLN.out; omega)] at hfin
              have HRD := Lib.hid (Rd.of_own enc2_len hfin HLN.out)
              have HF := Lib.hid (show allB upR (leftsL v l) = true from allB_iff.2 fun i r hr => by
                rw [← HLE.out] at hr
                exact HU.out i r (by have := lt_of_get hr; have := HLN.out; omega) hr)
              clear hup hown hb hfin
              go_wp2_with fail
              (try rw [Exit.noGoto_ret])
              go_ret2
              exact HearP.yes HF.out (by rw [← HLE.out]; exact HRD.out) (below_tr HB1.out HBr.out)
end Go.Proofs.Ytphdndiikikecaa

namespace Go.Proofs.Ytphdndiikikecaa
open Go.RowKit Go.Proofs
attribute [local go_sem ↓] Go.wp_at_zero Go.wp_at_succ

theorem infoEv : (Try.prog.info? 101).map (fun i => (i.zero, i.size, i.bytes)) = some (some (.agg #[.int .i64 0, .int .i64 0, .int .i64 0]), 3, 24) := by kernel_rfl

set_option maxRecDepth 100000 in
set_option maxHeartbeats 400000 in
theorem Heard_c {l : List Evd} {A : Option Addr} {n c : Nat} {w : World} (h : Rd encE 3 w A n l) (hn : n ≤ 1000000) :
    Calls Try.prog 47 #[.slice A n c] w fun e w' => ∃ A' c', e = .returned (.slice A' n c') ∧ Rd encE 3 w' A' n l ∧ Below w.heap.size w w' := by
  obtain ⟨i0, hi0, hz0, hz1, hz2⟩ := info_parts infoEv
  have hl := h.len
  have HL := Lib.hid hl; clear hl
  have HI := Lib.hid hi0; have HZ0 := Lib.hid hz0; have HZ1 := Lib.hid hz1; have HZ2 := Lib.hid hz2
  clear hi0 hz0 hz1 hz2
  go_enter Try.func47, Try.ntmps47
  go_wp2_with fail
  go_loopw [3, 4] (fun v i wr => ∃ k : Nat, k ≤ n ∧ i = .int .i64 k ∧ wr.ownsRow w.heap.size 101 3 v k ((l.take k).flatMap encE) ∧ Below w.heap.size w wr) (fun _ i _ => n - (intOf i).toNat)
  case atStart => exact ⟨0, Nat.zero_le _, rfl, World.ownsRow_nil _ _ _ _, Below.refl _ _⟩
  case round =>
    obtain ⟨k, hk, rfl, hown, hb⟩ := hrel
    by_cases hlt : k < n
    · obtain ⟨b, o, x, hA, hbl, hx, h0', h1', h2'⟩ := h.at3 hlt
      subst hA
      have h0 := (hb.cell (p := ⟨b, o + k * 3, none⟩) hbl).trans h0'
      have h1 := (hb.cell (p := ⟨b, o + k * 3 + 1, none⟩) hbl).trans h1'
      have h2 := (hb.cell (p := ⟨b, o + k * 3 + 2, none⟩) hbl).trans h2'
      clear h0' h1' h2'
      have HX := Lib.hid hx; clear hx
      have hblr : b < wr.heap.size := Nat.lt_of_lt_of_le hbl hb.size
      have hne : u3.ownBlock ≠ some b := fun e => by have := (hown.lt b e).1; omega
      have HO := Lib.hid hown; clear hown
      have hi1 : (k : Int) < (n : Int) := by omega
      have hi0' : (0 : Int) ≤ (k : Int) := by omega
      go_wp2
      go_region_held3 (fun w' => w'.cell? ⟨b, o + k * 3, none⟩ = some (.int .i64 x.k) ∧ w'.cell? ⟨b, o + k * 3 + 1, none⟩ = some (.int .i64 x.lo) ∧ w'.cell? ⟨b, o + k * 3 + 2, none⟩ = some (.int .i64 x.hi))
        (first
          | go_keep
          | (go_split_ands
             refine ⟨?_, ?_, ?_⟩
             · (rw [hgrow.cell_far _ (by simp; omega) (Ne.symm hne)]; exact (World.cell?_alloc_lt _ _ _ hblr).trans h0)
             · (rw [hgrow.cell_far _ (by simp; omega) (Ne.symm hne)]; exact (World.cell?_alloc_lt _ _ _ hblr).trans h1)
             · (rw [hgrow.cell_far _ (by simp; omega) (Ne.symm hne)]; exact (World.cell?_alloc_lt _ _ _ hblr).trans h2)))
        ((refine step_append_lies _ (by rfl) _ _ _ (by rfl) w.heap.size 101 i0 _ 3 24 Try.underlying89 HI.out HZ0.out HZ1.out HZ2.out rfl (by omega) _ k ((l.take k).flatMap encE) (by rfl) ((HO.out.alloc _).drew) ⟨wr.heap.size, 0, none⟩ 1 1 [.int .i64 x.k, .int .i64 x.lo, .int .i64 x.hi] (by rfl) (by rfl) (World.news_of_block (cs := #[.int .i64 x.k, .int .i64 x.lo, .int .i64 x.hi]) (t := 101) (fr := (0, 0)) (heap_alloc_new wr _)) (by simp [Value.oneCell']) (by omega) (by unfold maxLen; omega) (by omega) (by have := hb.size; simp; omega) (wr.heap.size + 1) (by simp) ?_; intro gg cap w1 hown1 hgrow hat hlt1))
      have hown2 : Hid (w1.ownsRow w.heap.size 101 3 (.slice (some ⟨gg, 0, none⟩) (k + 1) cap) (k + 1) ((l.take (k + 1)).flatMap encE)) := by
        rw [List.take_add_one, HX.out]
        have := hown1
        simp [encE] at this ⊢
        exact this
      have hb2 : Hid (Below w.heap.size w w1) := (hb.drew.alloc hb.size _).grown hgrow (by have := hb.size; simp; omega) (fun g hg => (HO.out.lt g hg).1)
      clear hown1 hgrow
      go_wp2
      go_roundw
      case rel => exact ⟨k + 1, by omega, by go_num, hown2.out, hb2.out⟩
      case measure => simp [intOf] <;> omega
    · obtain rfl : k = n := by omega
      obtain ⟨A', c', rfl, hc'⟩ := own_form hown
      rw [List.take_of_length_le (by rw [HL.out]; exact Nat.le_refl _)] at hown
      have HR := Lib.hid (Rd.of_own encE_len hown HL.out); clear hown
      go_wp2
      go_ret
      exact ⟨A', c', rfl, HR.out, hb⟩
end Go.Proofs.Ytphdndiikikecaa

namespace Go.Proofs.Ytphdndiikikecaa
open Go.RowKit Go.Proofs
attribute [local go_sem ↓] Go.wp_at_zero Go.wp_at_succ

theorem leftL_take {l : List Evd} {j : Nat} {x : Evd} (h : l[j]? = some x) (k : Int) (r : Int × Int) : leftL (l.take (j + 1)) k r = stepE k (leftL (l.take j) k r) x := by
  rw [List.take_add_one, h]; exact leftL_snoc _ _ _ _

set_option maxRecDepth 100000 in
set_option maxHeartbeats 1000000 in
theorem Left_c {v : Vly} {l : List Evd} {PA SA LA : Option Addr} {pn pc sn sc ln lc k : Nat} {s : Sli} {w : World} (h : RdV w PA pn SA sn v) (hL : Rd encE 3 w LA ln l) (hln : ln ≤ 1000) (hs : v.sls[k]? = some s) :
    Calls Try.prog 49 #[.agg #[.slice PA pn pc, .slice SA sn sc, .int .i64 v.s0, .int .i64 v.s1, .int .i64 v.s2], .slice LA ln lc, .int .i64 (k : Int)] w fun e w' => e = .returned (.agg #[.int .i64 (leftL l (k : Int) (s.lo, s.hi)).1, .int .i64 (leftL l (k : Int) (s.lo, s.hi)).2]) ∧ Below w.heap.size w w' := by
  have hls := h.sls.len; have hll := hL.len
  have hkl := lt_of_get hs
  obtain ⟨b, o, x, hA, hblt, hx, h0, h1, h2, h3⟩ := h.sls.atS (show k < sn by omega)
  rw [hs] at hx; cases hx
  subst hA
  have HL := Lib.hid hL
  have HLL := Lib.hid hll
  have hkn : (k : Int) < (sn : Int) := by omega
  have hk0 : (0 : Int) ≤ (k : Int) := by omega
  clear h hL hs hls hll hkl
  go_enter Try.func49, Try.ntmps49
  go_wp2_with fail
  obtain ⟨VC, hVC⟩ : ∃ VC : Array Value, VC = #[.slice PA pn pc, .slice (some ⟨b, o, none⟩) sn sc, .int .i64 v.s0, .int .i64 v.s1, .int .i64 v.s2] := ⟨_, rfl⟩
  rw [← hVC]
  have hx1 := (Blk.new (w.alloc (.cells VC 26)) 60 #[.int .i64 0, .int .i64 0]).alloc (.cells #[.int .i64 s.lo, .int .i64 s.hi] 60)
  have hx2 := Blk.new ((w.alloc (.cells VC 26)).alloc (.cells #[.int .i64 0, .int .i64 0] 60)) 60 #[.int .i64 s.lo, .int .i64 s.hi]
  simp only [World.size_alloc] at hx1 hx2
  have HX1 := Lib.hid hx1; have HX2 := Lib.hid hx2
  have HB := Lib.hid ((((Below.refl _ w).alloc (Nat.le_refl _) (.cells VC 26)).alloc (by simp) (.cells #[.int .i64 0, .int .i64 0] 60)).alloc (by simp; omega) (.cells #[.int .i64 s.lo, .int .i64 s.hi] 60))
  clear hx1 hx2 h0 h1 h2 h3 hVC
  go_loopw [8] (fun i wr => ∃ j : Nat, j ≤ ln ∧ i = .int .i64 j ∧ Blk wr (w.heap.size + 1 + 1) 60 #[.int .i64 (leftL (l.take j) (k : Int) (s.lo, s.hi)).1, .int .i64 (leftL (l.take j) (k : Int) (s.lo, s.hi)).2] ∧ Blk wr (w.heap.size + 1) 60 #[.int .i64 0, .int .i64 0] ∧ Below w.heap.size w wr) (fun i _ => ln - (intOf i).toNat)
  case atStart => exact ⟨0, Nat.zero_le _, rfl, HX2.out, HX1.out, HB.out⟩
  case round =>
    clear HX1 HX2 HB
    obtain ⟨j, hj, rfl, hb2, hb1, hb⟩ := hrel
    have HB := Lib.hid hb; have H2 := Lib.hid hb2; have H1 := Lib.hid hb1
    obtain ⟨r, hr⟩ : ∃ r, r = leftL (l.take j) (k : Int) (s.lo, s.hi) := ⟨_, rfl⟩
    by_cases hlt : j < ln
    · obtain ⟨b3, o3, x, hA3, hb3, hx, h0, h1, h2⟩ := (HL.out.below hb).at3 hlt
      subst hA3
      have hstep := leftL_take hx (k : Int) (s.lo, s.hi)
      rw [← hr] at hstep H2 hb2
      have hjn : (j : Int) < (ln : Int) := by omega
      have hj0 : (0 : Int) ≤ (j : Int) := by omega
      have q0 := hb2.cell 0
      have q1 := hb2.cell 1
      have qf := hb2.frozen 0
      have qf1 := hb2.frozen 1
      have qs := hb2.lt
      simp at q0 q1
      by_cases hk : x.k = (k : Int)
      · have hst : stepE (k : Int) r x = (max r.1 x.lo, min r.2 x.hi) := by unfold stepE; rw [if_pos hk]
        rw [hst] at hstep
        have HS := Lib.hid hstep
        rw [hk] at h0
        have hne : w.heap.size + 1 + 1 ≠ w.heap.size + 1 := by omega
        have hset := ((show Blk wr.drew _ _ _ from H2.out).set_ 0 (.int .i64 (max r.1 x.lo))).set_ 1 (.int .i64 (min r.2 x.hi))
        have hfar := ((show Blk wr.drew _ _ _ from H1.out).far hne.symm (p := ⟨w.heap.size + 1 + 1, 0, none⟩) (.int .i64 (max r.1 x.lo))).far hne.symm (p := ⟨w.heap.size + 1 + 1, 1, none⟩) (.int .i64 (min r.2 x.hi))
        have hbl := (HB.out.drew.setCell (p := ⟨w.heap.size + 1 + 1, 0, none⟩) (by simp; omega) (.int .i64 (max r.1 x.lo))).setCell (p := ⟨w.heap.size + 1 + 1, 1, none⟩) (by simp; omega) (.int .i64 (min r.2 x.hi))
        have H3 := Lib.hid hset; have H4 := Lib.hid hfar; have H5 := Lib.hid hbl
        clear hstep hst hk hr hx hb2 hb1 hb hset hfar hbl
        go_wp2_with fail
        go_still_tail 19, (by kernel_rfl)
        change wpList _ _ _ _ _ wr.drew
        go_wp2_with fail
        go_roundw
        case rel => exact ⟨j + 1, by omega, by go_num, by rw [HS.out]; exact H3.out, H4.out, H5.out⟩
        case measure => simp [intOf] <;> omega
      · have hst : stepE (k : Int) r x = r := by unfold stepE; rw [if_neg hk]
        rw [hst] at hstep
        have HS := Lib.hid hstep
        have hd : (x.k == (k : Int)) = false := by rw [beq_eq_false_iff_ne]; exact hk
        clear hstep hst hr hx hb2 hb1 hb
        go_wp2_with fail
        go_roundw
        case rel => exact ⟨j + 1, by omega, by go_num, by rw [HS.out]; exact H2.out, H1.out, HB.out⟩
        case measure => simp [intOf] <;> omega
    · obtain rfl : j = ln := by omega
      have HR := Lib.hid (show r = leftL l (k : Int) (s.lo, s.hi) by rw [hr, List.take_of_length_le (by have := HLL.out; omega)])
      rw [show l.take j = l from List.take_of_length_le (by have := HLL.out; omega), ← HR.out] at H2 hb2
      have q0 := hb2.cell 0
      have q1 := hb2.cell 1
      have p0 := hb1.cell 0
      have p1 := hb1.cell 1
      have pf := hb1.frozen 0
      have pf1 := hb1.frozen 1
      have ps := hb1.lt
      simp at q0 q1 p0 p1
      clear hr hb2 hb1 hb
      go_wp2_with fail
      have hset := (H1.out.set_ 0 (.int .i64 r.1)).set_ 1 (.int .i64 r.2)
      have d0 := hset.cell 0
      have d1 := hset.cell 1
      simp at d0 d1
      refine bodyPost_ret (v := .agg #[.int .i64 r.1, .int .i64 r.2]) ?_ rfl ⟨by rw [HR.out], (HB.out.setCell (p := ⟨w.heap.size + 1, 0, none⟩) (by simp) (.int .i64 r.1)).setCell (p := ⟨w.heap.size + 1, 1, none⟩) (by simp) (.int .i64 r.2)⟩
      simp [results, Try.f49, go_sem, d0, d1]
end Go.Proofs.Ytphdndiikikecaa

namespace Go.Proofs.Ytphdndiikikecaa
open Go.RowKit Go.Proofs
attribute [local go_sem ↓] Go.wp_at_zero Go.wp_at_succ

set_option maxRecDepth 100000 in
set_option maxHeartbeats 4000000 in
theorem HearFault_c {v : Vly} {l : List Evd} {PA SA LA : Option Addr} {pn pc sn sc ln lc : Nat} {w : World} (h : RdV w PA pn SA sn v) (hL : Rd encE 3 w LA ln l) (hsn : sn ≤ 10) (hln : ln ≤ 1000) :
    Calls Try.prog 48 #[.agg #[.slice PA pn pc, .slice SA sn sc, .int .i64 v.s0, .int .i64 v.s1, .int .i64 v.s2], .slice LA ln lc] w fun e w' => e = .returned (.int .i64 (hearE v l)) ∧ Below w.heap.size w w' := by
  have hls := h.sls.len; have hll := hL.len
  have hb0 : Below w.heap.size w (w.alloc (.cells #[.slice PA pn pc, .slice SA sn sc, .int .i64 v.s0, .int .i64 v.s1, .int .i64 v.s2] 26)) := (Below.refl _ w).alloc (Nat.le_refl _) _
  have HB := Lib.hid hb0
  have HX := Lib.hid (Blk.new w 26 #[.slice PA pn pc, .slice SA sn sc, .int .i64 v.s0, .int .i64 v.s1, .int .i64 v.s2])
  have HV := Lib.hid h; have HL := Lib.hid hL; have HLL := Lib.hid hll; have HLS := Lib.hid hls
  by_cases h20 : 20 < l.length
  · have HE := Lib.hid (hearE_long (v := v) h20)
    have hg : (20 : Int) < (ln : Int) := by omega
    clear h hL hb0 hls hll h20
    go_enter Try.func48, Try.ntmps48
    go_wp2_with fail
    go_ret
    exact ⟨by rw [HE.out]; rfl, HB.out⟩
  · have hd20 : decide ((20 : Int) < (ln : Int)) = false := decide_eq_false (by omega)
    have H20 := Lib.hid h20
    obtain ⟨E, hE⟩ : ∃ E, E = hearE v l := ⟨_, rfl⟩
    have HE := Lib.hid hE
    rw [← hE]
    have hwsn : IntKind.i64.wrap ((sn : Int) - 1) = (sn : Int) - 1 := wi (by omega)
    clear h hL hb0 hls hll h20 hE
    go_enter Try.func48, Try.ntmps48
    go_wp2_with fail
    go_loopw [5] (fun i wr => ∃ j : Nat, j ≤ ln ∧ i = .int .i64 j ∧ (∀ (i : Nat) (x : Evd), i < j → l[i]? = some x → evOk sn x = true) ∧ Blk wr w.heap.size 26 #[.slice PA pn pc, .slice SA sn sc, .int .i64 v.s0, .int .i64 v.s1, .int .i64 v.s2] ∧ Below w.heap.size w wr) (fun i _ => ln - (intOf i).toNat)
    case atStart => exact ⟨0, Nat.zero_le _, rfl, fun i x hi => by omega, HX.out, HB.out⟩
    case round =>
      obtain ⟨j, hj, rfl, hup, hbx, hb⟩ := hrel
      have HB2 := Lib.hid hb; have HBX := Lib.hid hbx; have HU := Lib.hid hup
      have c1 := hbx.cell 1
      have hnlt := hbx.lt
      simp at c1
      by_cases hlt : j < ln
      · obtain ⟨b, o, x, hA, hblt, hx, h0, h1, h2⟩ := (HL.out.below hb).at3 hlt
        subst hA
        have hjn : (j : Int) < (ln : Int) := by omega
        have hj0 : (0 : Int) ≤ (j : Int) := by omega
        have HXX := Lib.hid hx
        have hok : evOk sn x = (inB x.k 0 ((sn : Int) - 1) && upB x.lo x.hi 12) := rfl
        have HIN := Lib.hid (fun W => In_c x.k 0 ((sn : Int) - 1) W)
        have HS := Lib.hid (fun W (hW : Below wr.heap.size wr W) => show W.cell? ⟨w.heap.size, 1, none⟩ = some (.slice SA sn sc) ∧ W.cell? ⟨b, o + j * 3, none⟩ = some (.int .i64 x.k) ∧ W.cell? ⟨b, o + j * 3 + 1, none⟩ = some (.int .i64 x.lo) ∧ W.cell? ⟨b, o + j * 3 + 2, none⟩ = some (.int .i64 x.hi) from
          ⟨(hW.cell (p := ⟨w.heap.size, 1, none⟩) hnlt).trans c1, (hW.cell (p := ⟨b, _, none⟩) hblt).trans h0, (hW.cell (p := ⟨b, _, none⟩) hblt).trans h1, (hW.cell (p := ⟨b, _, none⟩) hblt).trans h2⟩)
        clear hup hbx hb hx
        cases hin : inB x.k 0 ((sn : Int) - 1)
        · simp only [hin] at HIN
          rw [hin, Bool.false_and] at hok
          have HEQ := Lib.hid (show E = 2 by rw [HE.out, hearE_odd H20.out (allB_not.2 ⟨j, x, HXX.out, by rw [HLS.out]; exact hok⟩)])
          clear hin hok
          go_wp2_with fail
          go_quiet ((go_at_call 26; (first | exact quiet_left (HIN.out _) | exact quiet_add_left (HIN.out _))))
          go_wp2_with fail
          go_ret
          exact ⟨by rw [HEQ.out]; rfl, below_drewN HB2.out _⟩
        · simp only [hin] at HIN
          rw [hin, Bool.true_and] at hok
          cases hup : upB x.lo x.hi 12
          case false =>
              rw [hup] at hok
              have HOK := Lib.hid hok
              have HUT := Lib.hid (fun W => upTo_c x.lo x.hi 12 W)
              simp only [hup] at HUT
              clear hin hok hup
              go_wp2_with fail
              go_region_held3 (fun w' => w'.cell? ⟨w.heap.size, 1, none⟩ = some (.slice SA sn sc) ∧ w'.cell? ⟨b, o + j * 3, none⟩ = some (.int .i64 x.k) ∧ w'.cell? ⟨b, o + j * 3 + 1, none⟩ = some (.int .i64 x.lo) ∧ w'.cell? ⟨b, o + j * 3 + 2, none⟩ = some (.int .i64 x.hi))
                (first | exact HS.out _ (Below.refl _ _).drew | exact HS.out _ (Below.refl _ _) | exact HS.out _ hb5 | assumption)
                (first
                  | (go_at_call 26; refine (HIN.out _).mono ?_; rintro e w4 ⟨rfl, rfl⟩)
                  | (go_at_call 68; refine (HUT.out _).mono ?_; rintro e w5 ⟨rfl, hbc⟩; have hb5 := (Below.refl wr.heap.size wr).drew.trans hbc))
              all_goals
                have HEQ := Lib.hid (show E = 2 by rw [HE.out, hearE_odd H20.out (allB_not.2 ⟨j, x, HXX.out, by rw [HLS.out]; exact HOK.out⟩)])
                go_wp2_with fail
                go_ret
                exact ⟨by rw [HEQ.out]; rfl, below_tr HB2.out hb5⟩
          case true =>
              rw [hup] at hok
              have HOK := Lib.hid hok
              have HUT := Lib.hid (fun W => upTo_c x.lo x.hi 12 W)
              simp only [hup] at HUT
              clear hin hok hup
              go_wp2_with fail
              go_region_held3 (fun w' => w'.cell? ⟨w.heap.size, 1, none⟩ = some (.slice SA sn sc) ∧ w'.cell? ⟨b, o + j * 3, none⟩ = some (.int .i64 x.k) ∧ w'.cell? ⟨b, o + j * 3 + 1, none⟩ = some (.int .i64 x.lo) ∧ w'.cell? ⟨b, o + j * 3 + 2, none⟩ = some (.int .i64 x.hi))
                (first | exact HS.out _ (Below.refl _ _).drew | exact HS.out _ (Below.refl _ _) | exact HS.out _ hb5 | assumption)
                (first
                  | (go_at_call 26; refine (HIN.out _).mono ?_; rintro e w4 ⟨rfl, rfl⟩)
                  | (go_at_call 68; refine (HUT.out _).mono ?_; rintro e w5 ⟨rfl, hbc⟩; have hb5 := (Below.refl wr.heap.size wr).drew.trans hbc))
              all_goals
                have HBX5 := Lib.hid (HBX.out.below hb5 hnlt)
                have HB5 := Lib.hid (below_tr HB2.out hb5)
                clear hb5 hbc
                go_wp2_with fail
                go_roundw
                case rel => exact ⟨j + 1, by omega, by go_num, fun i y hi hy => by
                  by_cases hij : i = j
                  · subst hij; rw [HXX.out] at hy; cases hy; exact HOK.out
                  · exact HU.out i y (by omega) hy, HBX5.out, HB5.out⟩
                case measure => simp [intOf] <;> omega
      · obtain rfl : j = ln := by omega
        have HAL := Lib.hid (show allB (evOk v.sls.length) l = true from allB_iff.2 fun i x hx => by rw [HLS.out]; exact HU.out i x (by have := lt_of_get hx; have := HLL.out; omega) hx)
        clear hup hbx hb
        go_wp2_with fail
        go_loopw [6] (fun i wr => ∃ k : Nat, k ≤ sn ∧ i = .int .i64 k ∧ (∀ (i : Nat) (r : Int × Int), i < k → (leftsL v l)[i]? = some r → upR r = true) ∧ Blk wr w.heap.size 26 #[.slice PA pn pc, .slice SA sn sc, .int .i64 v.s0, .int .i64 v.s1, .int .i64 v.s2] ∧ Below w.heap.size w wr) (fun i _ => sn - (intOf i).toNat)
        case atStart => exact ⟨0, Nat.zero_le _, rfl, fun i x hi => by omega, HBX.out, HB2.out⟩
        case round =>
          clear HB2 HBX HU c1 hnlt
          obtain ⟨k, hk, rfl, hup, hbx, hb⟩ := hrel
          have HB2 := Lib.hid hb; have HBX := Lib.hid hbx; have HU := Lib.hid hup
          have c0 := hbx.cell 0
          have c1 := hbx.cell 1
          have c2 := hbx.cell 2
          have c3 := hbx.cell 3
          have c4 := hbx.cell 4
          have hnlt := hbx.lt
          simp at c0 c1 c2 c3 c4
          by_cases hlt : k < sn
          · obtain ⟨s, hs⟩ : ∃ s, v.sls[k]? = some s := ⟨_, List.getElem?_eq_getElem (by have := HLS.out; omega)⟩
            have hget := leftsL_get (l := l) hs
            have HLF := Lib.hid (Left_c (pc := pc) (sc := sc) (lc := lc) (HV.out.below hb) (HL.out.below hb) hln hs)
            obtain ⟨r, hr⟩ : ∃ r, r = leftL l (k : Int) (s.lo, s.hi) := ⟨_, rfl⟩
            rw [← hr] at hget HLF
            have HG := Lib.hid hget
            have hkn : (k : Int) < (sn : Int) := by omega
            clear hup hbx hb hs hget hr
            go_wp2_with fail
            refine HLF.out.mono ?_
            rintro e w5 ⟨rfl, hb5⟩
            have hbx5 := HBX.out.below hb5 hnlt
            have HX5 := Lib.hid (hbx5.alloc (.cells #[.int .i64 r.1, .int .i64 r.2] 60))
            have HB5 := Lib.hid (below_tr HB2.out (hb5.alloc hb5.size (.cells #[.int .i64 r.1, .int .i64 r.2] 60)))
            clear hb5 hbx5
            by_cases hc : r.1 ≤ r.2
            · have hd : decide (r.2 < r.1) = false := decide_eq_false (by omega)
              have HC := Lib.hid hc
              clear hc
              go_wp2_with fail
              go_roundw
              case rel => exact ⟨k + 1, by omega, by go_num, fun i y hi hy => by
                by_cases hij : i = k
                · subst hij; rw [HG.out] at hy; cases hy; exact decide_eq_true HC.out
                · exact HU.out i y (by omega) hy, HX5.out, HB5.out⟩
              case measure => simp [intOf] <;> omega
            · have hd : decide (r.2 < r.1) = true := decide_eq_true (by omega)
              have HEQ := Lib.hid (show E = 9 by rw [HE.out, hearE_fail H20.out HAL.out (allB_not.2 ⟨k, r, HG.out, decide_eq_false hc⟩)])
              clear hc
              go_wp2_with fail
              go_ret
              exact ⟨by rw [HEQ.out]; rfl, HB5.out⟩
          · obtain rfl : k = sn := by omega
            have HEQ := Lib.hid (show E = 0 by rw [HE.out, hearE_ok H20.out HAL.out (allB_iff.2 fun i r hr => HU.out i r (by have := lt_of_get hr; rw [leftsL_len] at this; have := HLS.out; omega) hr)])
            clear hup hbx hb
            go_wp2_with fail
            go_ret
            exact ⟨by rw [HEQ.out]; rfl, HB2.out⟩
end Go.Proofs.Ytphdndiikikecaa

namespace Go.Proofs.Ytphdndiikikecaa
open Go.RowKit Go.Proofs
attribute [local go_sem ↓] Go.wp_at_zero Go.wp_at_succ

theorem VAlike.lefts {v v' : Vly} (h : VAlike v v') (l : List Evd) : leftsL v' l = leftsL v l := by
  refine List.ext_getElem? fun k => ?_
  cases hs : v.sls[k]? with
  | none =>
    have h1 := h.len
    rw [List.getElem?_eq_none_iff] at hs
    rw [List.getElem?_eq_none (by rw [leftsL_len]; omega), List.getElem?_eq_none (by rw [leftsL_len]; omega)]
  | some s =>
    obtain ⟨s', hs', hc⟩ := core_get h.sls hs
    rw [leftsL_get hs, leftsL_get hs']
    simp only [core, Prod.mk.injEq] at hc
    rw [hc.2.2.1, hc.2.2.2]
theorem VAlike.hearE {v v' : Vly} (h : VAlike v v') (l : List Evd) : hearE v' l = hearE v l := by
  unfold Proofs.Ytphdndiikikecaa.hearE
  rw [h.lefts, h.len]

theorem Hear_e {v v' : Vly} {l : List Evd} {PA SA LA : Option Addr} {pn pc sn sc ln lc : Nat} {w : World} (hok : VOk v) (hal : VAlike v v') (h : RdV w PA pn SA sn v') (hL : Rd encE 3 w LA ln l) (hln : ln ≤ maxLen) (hE : hearE v l ≠ 0) :
    Calls Try.prog 46 #[.agg #[.slice PA pn pc, .slice SA sn sc, .int .i64 v'.s0, .int .i64 v'.s1, .int .i64 v'.s2], .slice LA ln lc] w
      fun e w' => e = .returned (.tuple #[.slice none 0 0, .int .i64 (hearE v l)]) ∧ Below w.heap.size w w' := by
  have hok' := hal.ok hok
  have hls := h.sls.len; have hll := hL.len
  have hlen := hal.len
  by_cases hno : 20 < l.length ∨ allB (evOk sn) l = false
  · refine (Hear_arg (pc := pc) (sc := sc) (lc := lc) h hok' hL hln hno).mono ?_
    rintro e w' ⟨rfl, hb⟩
    refine ⟨?_, hb⟩
    by_cases h20 : 20 < l.length
    · rw [if_pos h20, hearE_long h20]
    · rw [if_neg h20, hearE_odd h20 (by rw [← hlen, hls]; exact hno.resolve_left h20)]
  · have h20 : ¬ 20 < l.length := fun h => hno (.inl h)
    have hev : allB (evOk sn) l = true := by
      cases hh : allB (evOk sn) l
      · exact absurd (.inr hh) hno
      · rfl
    refine (Hear_c (pc := pc) (sc := sc) (lc := lc) h hok' hL (by omega) hev).mono ?_
    rintro e w' ⟨hP, hb⟩
    have hev' : allB (evOk v.sls.length) l = true := by rw [← hlen, hls]; exact hev
    rcases hP with ⟨A, c, hup, _, _⟩ | ⟨hup, rfl⟩
    · rw [hal.lefts] at hup
      exact absurd (hearE_ok h20 hev' hup) hE
    · rw [hal.lefts] at hup
      exact ⟨by rw [hearE_fail h20 hev' hup], hb⟩
theorem Hear_o {v v' : Vly} {l : List Evd} {PA SA LA : Option Addr} {pn pc sn sc ln lc : Nat} {w : World} (hok : VOk v) (hal : VAlike v v') (h : RdV w PA pn SA sn v') (hL : Rd encE 3 w LA ln l) (hE : hearE v l = 0) :
    Calls Try.prog 46 #[.agg #[.slice PA pn pc, .slice SA sn sc, .int .i64 v'.s0, .int .i64 v'.s1, .int .i64 v'.s2], .slice LA ln lc] w
      fun e w' => ∃ A c, e = .returned (.tuple #[.slice A sn c, .int .i64 0]) ∧ Rd enc2 2 w' A sn (leftsL v l) ∧ Below w.heap.size w w' := by
  have hok' := hal.ok hok
  have hls := h.sls.len; have hll := hL.len
  have hlen := hal.len
  have h20 : ¬ 20 < l.length := fun hh => by rw [hearE_long hh] at hE; omega
  have hev' : allB (evOk v.sls.length) l = true := by
    cases hh : allB (evOk v.sls.length) l
    · rw [hearE_odd h20 hh] at hE; omega
    · rfl
  have hup : allB upR (leftsL v l) = true := by
    cases hh : allB upR (leftsL v l)
    · rw [hearE_fail h20 hev' hh] at hE; omega
    · rfl
  refine (Hear_c (pc := pc) (sc := sc) (lc := lc) h hok' hL (by omega) (by rw [← hls, hlen]; exact hev')).mono ?_
  rintro e w' ⟨hP, hb⟩
  rcases hP with ⟨A, c, _, rfl, hr⟩ | ⟨hup', _⟩
  · rw [hal.lefts] at hr
    exact ⟨A, c, rfl, hr, hb⟩
  · rw [hal.lefts, hup] at hup'; cases hup'

set_option maxRecDepth 100000 in
set_option maxHeartbeats 4000000 in
theorem ZoneHears_w {v : Vly} {l : List Evd} {PA SA LA : Option Addr} {pn pc sn sc ln lc : Nat} {w : World} (h : RdV w PA pn SA sn v) (hpn : pn ≤ maxLen) (hsn : sn ≤ maxLen) (hL : Rd encE 3 w LA ln l) (hln : ln ≤ maxLen) :
    Calls Try.prog 14 #[.agg #[.slice PA pn pc, .slice SA sn sc, .int .i64 v.s0, .int .i64 v.s1, .int .i64 v.s2], .slice LA ln lc] w fun e w' => e = .returned (.bool true) ∧ Below w.heap.size w w' := by
  have hlp := h.pars.len; have hls := h.sls.len
  have HS0 := Lib.hid (SW.new w (vA PA pn pc SA sn sc v))
  have HTH := Lib.hid (Thin_c (pc := pc) (sc := sc) (h.below HS0.out.bel) hsn)
  have HV := Lib.hid h; have HL := Lib.hid hL
  unfold maxLen at hln
  by_cases hearly : thinB v = false ∨ 25 < ln
  · have hcases : thinB v = false ∨ (thinB v = true ∧ 25 < ln) := by
      cases hth : thinB v
      · exact .inl rfl
      · exact .inr ⟨rfl, hearly.resolve_left (by rw [hth]; simp)⟩
    clear h hL hearly
    rcases hcases with hth | ⟨hth, hgt⟩
    · rw [hth] at HTH
      clear hth
      go_enter Try.func14, Try.ntmps14
      go_wp2_with fail
      refine HTH.out.mono ?_
      rintro e w1 ⟨rfl, hb⟩
      have HB1 := Lib.hid (below_tr HS0.out.bel hb)
      clear hb
      go_wp2_with (go_at_call 18; refine (wakes_ok _).mono ?_; rintro e w2 ⟨rfl, hb2⟩)
      go_ret
      exact ⟨rfl, below_tr HB1.out hb2⟩
    · rw [hth] at HTH
      have hg : (25 : Int) < (ln : Int) := by omega
      clear hth
      go_enter Try.func14, Try.ntmps14
      go_wp2_with fail
      refine HTH.out.mono ?_
      rintro e w1 ⟨rfl, hb⟩
      have HB1 := Lib.hid (below_tr HS0.out.bel hb)
      clear hb
      go_wp2_with (go_at_call 18; refine (wakes_ok _).mono ?_; rintro e w2 ⟨rfl, hb2⟩)
      go_ret
      exact ⟨rfl, below_tr HB1.out hb2⟩
  · have hth : thinB v = true := by
      cases hth : thinB v
      · exact absurd (.inl hth) hearly
      · rfl
    have hle : ¬ (25 : Int) < (ln : Int) := fun hg => hearly (.inr (by omega))
    have hle2 : decide ((25 : Int) < (ln : Int)) = false := decide_eq_false hle
    have hln25 : ln ≤ 25 := by omega
    rw [hth] at HTH
    have ht := thinB_iff.1 hth
    have hpn15 : pn ≤ 15 := by omega
    have hsn12 : sn ≤ 12 := by omega
    have HWY := Lib.hid (fun (s : Sli) (hs : s ∈ v.sls) => show s.way.length ≤ 1000 from by have := ht.1 s hs; omega)
    have HLS := Lib.hid hls
    clear h hL hearly hth ht
    go_enter Try.func14, Try.ntmps14
    go_wp2_with fail
    refine HTH.out.mono ?_
    rintro e w1 ⟨rfl, hb⟩
    have HS1 := Lib.hid (HS0.out.below hb)
    obtain ⟨c0, c1, c2, c3, c4⟩ := HS1.out.cells
    have HVL := Lib.hid (Valley_c (pc := pc) (sc := sc) (HV.out.below HS1.out.bel) (by omega) (by omega) HWY.out)
    clear hb HTH HS0
    go_wp2_with fail
    refine HVL.out.mono ?_
    rintro e w2 ⟨A1, d1, A2, d2, v', rfl, hv', hal, hb⟩
    have HS2 := Lib.hid (HS1.out.below hb)
    have HV2 := Lib.hid hv'; have HAL := Lib.hid hal
    have HHD := Lib.hid (Heard_c (c := lc) (HL.out.below HS2.out.bel) (by omega))
    clear c0 c1 c2 c3 c4 hb hal hv' HVL HS1
    go_wp2_with fail
    refine HHD.out.mono ?_
    rintro e w3 ⟨A3, d3, rfl, hr3, hb⟩
    have HS3 := Lib.hid (HS2.out.below hb)
    have HV3 := Lib.hid (HV2.out.below hb)
    have HR3 := Lib.hid hr3
    clear hb hr3 HHD HS2 HV2
    by_cases herr : errV v = 0
    · have hok : VOk v := errV_zero.1 herr
      have HOK := Lib.hid hok
      have hsn10 : sn ≤ 10 := by have := hok.sn; omega
      obtain ⟨H, hH⟩ : ∃ H, H = hearE v l := ⟨_, rfl⟩
      have HH := Lib.hid hH
      have HFTW := Lib.hid (fun W (hW : Below w.heap.size w W) => fault_c (pc := pc) (sc := sc) (HV.out.below hW) (by unfold maxLen; omega) (by unfold maxLen; omega))
      rw [herr] at HFTW
      have HHFW := Lib.hid (fun W (hW : Below w.heap.size w W) => HearFault_c (pc := pc) (sc := sc) (lc := lc) (HV.out.below hW) (HL.out.below hW) hsn10 (by omega))
      rw [← hH] at HHFW
      by_cases hz : H = 0
      · subst hz
        have HHE := Lib.hid (Hear_o (pc := d1) (sc := d2) (lc := d3) hok HAL.out HV3.out HR3.out hH.symm)
        clear hok hH herr
        go_wp2_with fail
        refine HHE.out.mono ?_
        rintro e w4 ⟨A5, d5, rfl, hr5, hb⟩
        have HS4 := Lib.hid (HS3.out.below hb)
        have HR5 := Lib.hid hr5
        obtain ⟨c0, c1, c2, c3, c4⟩ := HS4.out.cells
        have HFT := Lib.hid (HFTW.out _ HS4.out.bel)
        clear hb hr5 HHE HS3
        go_wp2_with fail
        refine HFT.out.mono ?_
        rintro e w5 ⟨rfl, hb⟩
        have HS5 := Lib.hid (HS4.out.below hb)
        have HR6 := Lib.hid (HR5.out.below hb)
        have HHF := Lib.hid (HHFW.out _ HS5.out.bel)
        clear hb HFT HS4 HR5 c0 c1 c2 c3 c4
        obtain ⟨c0, c1, c2, c3, c4⟩ := HS5.out.cells
        go_wp2_with fail
        refine HHF.out.mono ?_
        rintro e w6 ⟨rfl, hb⟩
        have HS6 := Lib.hid (HS5.out.below hb)
        have HR7 := Lib.hid (HR6.out.below hb)
        clear hb HHF HS5 HR6 c0 c1 c2 c3 c4
        obtain ⟨c0, c1, c2, c3, c4⟩ := HS6.out.cells
        go_wp2_with fail
        go_loopw [8, 9] (fun i _ wr => ∃ k : Nat, k ≤ sn ∧ i = .int .i64 k ∧ Below w6.heap.size w6 wr) (fun i _ _ => sn - (intOf i).toNat)
        case atStart => exact ⟨0, Nat.zero_le _, rfl, Below.refl _ _⟩
        case round =>
          obtain ⟨k, hk, rfl, hb⟩ := hrel
          have HS7 := Lib.hid (HS6.out.below hb)
          clear c0 c1 c2 c3 c4
          obtain ⟨c0, c1, c2, c3, c4⟩ := HS7.out.cells
          by_cases hlt : k < sn
          · obtain ⟨s, hs⟩ : ∃ s, v.sls[k]? = some s := ⟨_, List.getElem?_eq_getElem (by have := HLS.out; omega)⟩
            have hget := leftsL_get (l := l) hs
            have HLF := Lib.hid (Left_c (pc := pc) (sc := sc) (lc := lc) (HV.out.below HS7.out.bel) (HL.out.below HS7.out.bel) (by omega) hs)
            obtain ⟨r, hr⟩ : ∃ r, r = leftL l (k : Int) (s.lo, s.hi) := ⟨_, rfl⟩
            rw [← hr] at hget HLF
            have HG := Lib.hid hget
            have HB7 := Lib.hid hb
            have hkn : (k : Int) < (sn : Int) := by omega
            have hk0 : (0 : Int) ≤ (k : Int) := by omega
            clear hb hs hget hr
            go_wp2_with fail
            refine HLF.out.mono ?_
            rintro e w8 ⟨rfl, hb8⟩
            have hb9 := hb8.alloc hb8.size (.cells #[.int .i64 r.1, .int .i64 r.2] 60)
            have hbb := below_tr HB7.out hb9
            obtain ⟨b, o, y, hA, hblt, hy, y0, y1⟩ := (HR7.out.below hbb).at2 hlt
            rw [HG.out] at hy; cases hy
            subst hA
            have HBB := Lib.hid hbb
            clear hb8 hb9 hbb HS7 c0 c1 c2 c3 c4
            go_wp2_with fail
            go_quiet (fail)
            go_wp2_with fail
            go_roundw
            case rel => exact ⟨k + 1, by omega, by go_num, below_drewN HBB.out _⟩
            case measure => simp [intOf] <;> omega
          · obtain rfl : k = sn := by omega
            have HBE := Lib.hid HS7.out.bel
            clear hb c0 c1 c2 c3 c4
            go_wp2_with (go_at_call 18; refine (wakes_ok _).mono ?_; rintro e w9 ⟨rfl, hb9⟩)
            go_ret
            exact ⟨rfl, below_tr HBE.out hb9⟩
      · have HHE := Lib.hid (Hear_e (pc := d1) (sc := d2) (lc := d3) hok HAL.out HV3.out HR3.out (by unfold maxLen; omega) (by rw [← hH]; exact hz))
        rw [← hH] at HHE
        have hE0 : (H == 0) = false := by rw [beq_eq_false_iff_ne]; exact hz
        have hE1 : (H == H) = true := by simp
        clear hok hH herr hz
        go_wp2_with fail
        refine HHE.out.mono ?_
        rintro e w4 ⟨rfl, hb⟩
        have HS4 := Lib.hid (HS3.out.below hb)
        obtain ⟨c0, c1, c2, c3, c4⟩ := HS4.out.cells
        have HFT := Lib.hid (HFTW.out _ HS4.out.bel)
        clear hb HHE HS3
        go_wp2_with fail
        refine HFT.out.mono ?_
        rintro e w5 ⟨rfl, hb⟩
        have HS5 := Lib.hid (HS4.out.below hb)
        have HHF := Lib.hid (HHFW.out _ HS5.out.bel)
        clear hb HFT HS4 c0 c1 c2 c3 c4
        obtain ⟨c0, c1, c2, c3, c4⟩ := HS5.out.cells
        go_wp2_with fail
        refine HHF.out.mono ?_
        rintro e w6 ⟨rfl, hb⟩
        have HB6 := Lib.hid (below_tr HS5.out.bel hb)
        clear hb HHF
        go_wp2_with (go_at_call 18; refine (wakes_ok _).mono ?_; rintro e w9 ⟨rfl, hb9⟩)
        go_ret
        exact ⟨rfl, below_tr HB6.out hb9⟩
    · have HBD := Lib.hid (Hear_bad (pc := d1) (sc := d2) (LA := A3) (ln := ln) (lc := d3) HV3.out (by unfold maxLen; omega) (by unfold maxLen; omega) (by rw [HAL.out.err]; exact herr))
      rw [HAL.out.err] at HBD
      obtain ⟨E, hE⟩ : ∃ E, E = errV v := ⟨_, rfl⟩
      rw [← hE] at HBD herr
      have HE := Lib.hid hE
      have hE0 : (E == 0) = false := by rw [beq_eq_false_iff_ne]; exact herr
      have hE1 : (E == E) = true := by simp
      clear herr hE
      go_wp2_with fail
      refine HBD.out.mono ?_
      rintro e w6 ⟨rfl, hb⟩
      have HS6 := Lib.hid (HS3.out.below hb)
      obtain ⟨c0, c1, c2, c3, c4⟩ := HS6.out.cells
      have HFT := Lib.hid (fault_c (pc := pc) (sc := sc) (HV.out.below HS6.out.bel) (by unfold maxLen; omega) (by unfold maxLen; omega))
      rw [← HE.out] at HFT
      clear hb HBD HS3
      go_wp2_with fail
      refine HFT.out.mono ?_
      rintro e w7 ⟨rfl, hb⟩
      have HB7 := Lib.hid (below_tr HS6.out.bel hb)
      clear hb HFT
      go_wp2_with (go_at_call 18; refine (wakes_ok _).mono ?_; rintro e w8 ⟨rfl, hb8⟩)
      go_ret
      exact ⟨rfl, below_tr HB7.out hb8⟩
end Go.Proofs.Ytphdndiikikecaa

namespace Go.Proofs.Ytphdndiikikecaa
open Go.RowKit Go.Proofs
attribute [local go_sem ↓] Go.wp_at_zero Go.wp_at_succ

theorem infoREv : (Try.prog.info? 95).map (fun i => (i.zero, i.size, i.bytes)) = some (some (.agg #[.int .i64 0, .int .i64 0, .int .i64 0]), 3, 24) := by kernel_rfl
theorem tmodn' (x n : Nat) : (x : Int).tmod (n : Int) = ((x % n : Nat) : Int) := by rw [Int.tmod_eq_emod_of_nonneg (by omega)]; exact (Int.natCast_emod x n).symm
theorem tdivn' (x n : Nat) : (x : Int).tdiv (n : Int) = ((x / n : Nat) : Int) := by rw [Int.tdiv_eq_ediv_of_nonneg (by omega)]; exact (Int.natCast_ediv x n).symm
theorem oneE (x : Evd) : ∀ u ∈ encE x, u.oneCell' = true := by intro u hu; simp [encE] at hu; rcases hu with rfl | rfl | rfl <;> rfl

/-- an append of evidence, in a region that draws its order -/
theorem step_app_ev {w : World} {ops : Array Oper} {o : Oper} {a : Act} {K : Act → World → Prop} {Q : Exit → Act → World → Prop} {E : Prop} (hgd : o.guard = none) (s x : Operand)
    (ho : o.op = .call { callee := .builtin .append, args := #[s, x], argTypes := #[86, 86] })
    (base : Nat) {v : Value} {n : Nat} {xs : List Value} (hs : a.eval s = v) (hown : w.ownsRow base 95 3 v n xs)
    {A : Option Addr} {m c : Nat} {l : List Evd} (hx : a.eval x = .slice A m c) (hr : Rd encE 3 w A m l) (h63 : n + m ≤ 1000) (hbase : base ≤ w.heap.size)
    (h : ∀ v' w', w'.ownsRow base 95 3 v' (n + m) (xs ++ l.flatMap encE) → w.grownBy w' v.ownBlock → (v'.ownBlock = v.ownBlock ∨ v'.ownBlock = some w.heap.size) → K (a.put o.dst v') w') :
    if Region.wanted o (yielded ops a.tmps) = true then Oper.wp Try.prog o a w K Q else E := by
  obtain ⟨j0, hi0, hz0, hz1, hz2⟩ := info_parts infoREv
  have hsize : j0.size = 3 := hz1
  rcases A with _ | ad
  · obtain ⟨rfl, rfl⟩ := hr.none_zero
    have hrun := run_append_nilc (P := Try.prog) (w := w) (ty := o.type) Try.underlying86 hi0 hown c
    exact step_append_run hgd s x _ ho _ _ _ _ hs hx hrun (h v w (by simpa using hown) (World.grownBy.refl w _) (.inl rfl))
  · have hl : (l.flatMap encE).length = m * 3 := by rw [flatMap_len encE_len, hr.1]
    obtain ⟨v', w', hrun, h2, h3, _, h5⟩ := run_append_own_at (P := Try.prog) w base 86 o.type 95 j0 _ 3 24 Try.underlying86 hi0 hz0 hsize hz2 rfl (by decide) v n xs hown ad m c (l.flatMap encE) hl (hr.news encE_len) (fun u hu => by
      obtain ⟨x, _, hx⟩ := List.mem_flatMap.1 hu
      exact oneE x u hx) (by unfold maxLen; omega) (by omega) hbase
    exact step_append_run hgd s x _ ho _ _ _ _ hs hx hrun (h v' w' h2 h3 h5)

theorem told_rows {v : Vly} {r : List (Int × Int)} {i : Nat} (hi : i < v.pars.length) (h : dTo v.sls (endsT v false) (i : Int) v.sls.length ≤ dTo (toldV v r).sls (endsT (toldV v r) false) (i : Int) (toldV v r).sls.length ∧ dTo (toldV v r).sls (endsT (toldV v r) true) (i : Int) (toldV v r).sls.length ≤ dTo v.sls (endsT v true) (i : Int) v.sls.length) :
    ∃ dl dh zl zh el eh yl yh : Int, (dgs v)[i]? = some (dl, dh) ∧ (zns v)[i]? = some (zl, zh) ∧ (dgs (toldV v r))[i]? = some (el, eh) ∧ (zns (toldV v r))[i]? = some (yl, yh) ∧ dl ≤ el ∧ eh ≤ dh ∧ zl ≤ yl ∧ yh ≤ zh := by
  have hz : ∀ d, zoneOf (toldV v r) d = zoneOf v d := fun _ => rfl
  exact ⟨_, _, _, _, _, _, _, _, ztd_get hi, ztz_get hi, ztd_get (v := toldV v r) hi, ztz_get (v := toldV v r) hi, h.1, h.2, by rw [hz]; exact zoneOf_mono h.1, by rw [hz]; exact zoneOf_mono h.2⟩

set_option maxRecDepth 100000 in
set_option maxHeartbeats 4000000 in
theorem ZoneEvidence_w {v : Vly} {wo wd : List UInt8} {by8 : Int} {PA SA WA DA : Option Addr} {pn pc sn sc wn wcc dn dc : Nat} {w : World} (h : RdV w PA pn SA sn v) (hpn : pn ≤ maxLen) (hsn : sn ≤ maxLen) (hW : Rd encB 1 w WA wn wo) (hwn : wn ≤ maxLen) (hD : Rd encB 1 w DA dn wd) (hby : 0 ≤ by8 ∧ by8 ≤ 255) :
    Calls Try.prog 15 #[.agg #[.slice PA pn pc, .slice SA sn sc, .int .i64 v.s0, .int .i64 v.s1, .int .i64 v.s2], .slice WA wn wcc, .slice DA dn dc, .int .u8 by8] w fun e w' => e = .returned (.bool true) ∧ Below w.heap.size w w' := by
  obtain ⟨j0, hi0, hz0, hz1, hz2⟩ := info_parts infoREv
  have JI := Lib.hid hi0; have JZ0 := Lib.hid hz0; have JZ1 := Lib.hid hz1; have JZ2 := Lib.hid hz2
  clear hi0 hz0 hz1 hz2
  have hlp := h.pars.len; have hls := h.sls.len
  have HS0 := Lib.hid (SW.new w (vA PA pn pc SA sn sc v))
  have HRY := Lib.hid (ready_c (pc := pc) (sc := sc) (h.below HS0.out.bel) hpn hsn)
  have HV := Lib.hid h; have HWO := Lib.hid hW; have HDO := Lib.hid hD
  cases hrd : readyB v
  · rw [hrd] at HRY
    clear hrd h hW hD
    go_enter Try.func15, Try.ntmps15
    go_wp2_with fail
    refine HRY.out.mono ?_
    rintro e w1 ⟨rfl, hb⟩
    have HB1 := Lib.hid (below_tr HS0.out.bel hb)
    clear hb
    go_wp2_with (go_at_call 18; refine (wakes_ok _).mono ?_; rintro e w2 ⟨rfl, hb2⟩)
    go_ret
    exact ⟨rfl, below_tr HB1.out hb2⟩
  · rw [hrd] at HRY
    obtain ⟨hth, hok⟩ := readyB_iff.1 hrd
    by_cases hearly : sn = 0 ∨ 20 < dn
    · clear hrd h hW hD hth hok
      go_enter Try.func15, Try.ntmps15
      go_wp2_with fail
      refine HRY.out.mono ?_
      rintro e w1 ⟨rfl, hb⟩
      have HS1 := Lib.hid (HS0.out.below hb)
      obtain ⟨c0, c1, c2, c3, c4⟩ := HS1.out.cells
      have HB1 := Lib.hid HS1.out.bel
      clear hb HRY HS0
      by_cases h0 : sn = 0
      · subst h0
        go_wp2_with (go_at_call 18; refine (wakes_ok _).mono ?_; rintro e w2 ⟨rfl, hb2⟩)
        go_ret
        exact ⟨rfl, below_tr HB1.out hb2⟩
      · have hd : 20 < dn := by omega
        have hd' : (20 : Int) < (dn : Int) := by omega
        have h0' : ¬ (sn : Int) = 0 := by omega
        have h0'' : ((sn : Int) == 0) = false := by simpa using h0
        go_wp2_with (go_at_call 18; refine (wakes_ok _).mono ?_; rintro e w2 ⟨rfl, hb2⟩)
        go_ret
        exact ⟨rfl, below_tr HB1.out hb2⟩
    · have htt := thinB_iff.1 hth
      have hsn1 : 1 ≤ sn := by omega
      have hdn : dn ≤ 20 := by omega
      have hsn10 : sn ≤ 10 := by have := hok.sn; omega
      have hpb : 1 ≤ pn ∧ pn ≤ 12 := by have := hok.pn; omega
      have HWY := Lib.hid (fun (s : Sli) (hs : s ∈ v.sls) => show s.way.length ≤ 1000 from by have := htt.1 s hs; omega)
      have HOK := Lib.hid hok
      have HLP := Lib.hid hlp; have HLS := Lib.hid hls
      have HVW := Lib.hid (fun W (hW : Below w.heap.size w W) => ValleyN_c (pc := pc) (sc := sc) (HV.out.below hW) (by omega) (by omega) HWY.out)
      have HPK := Lib.hid (fun W (hW : Below w.heap.size w W) => Picked_c (pc := pc) (sc := sc) (wc := wcc) HOK.out (HV.out.below hW) (HWO.out.below hW) hwn)
      have hg1 : ¬ (sn : Int) = 0 := by omega
      have hg2 : ((sn : Int) == 0) = false := by simp; omega
      have hg3 : ¬ (20 : Int) < (dn : Int) := by omega
      have hg4 : decide ((20 : Int) < (dn : Int)) = false := decide_eq_false hg3
      clear h hW hD hrd hok hth htt hearly hlp hls
      go_enter Try.func15, Try.ntmps15
      go_wp2_with fail
      refine HRY.out.mono ?_
      rintro e w1 ⟨rfl, hb⟩
      have HS1 := Lib.hid (HS0.out.below hb)
      obtain ⟨c0, c1, c2, c3, c4⟩ := HS1.out.cells
      have HPC := Lib.hid (HPK.out _ HS1.out.bel)
      clear hb HRY HS0 HPK
      go_wp2_with fail
      refine HPC.out.mono ?_
      rintro e w2 ⟨tr, TA, tc, rfl, rp, hf, hb⟩
      have HS2 := Lib.hid (HS1.out.below hb)
      have HF := Lib.hid hf; have HT := Lib.hid rp
      clear hb hf rp HPC c0 c1 c2 c3 c4 HS1
      go_wp2_with fail
      go_loopw [10, 11, 12, 13] (fun o i _ _ wr => ∃ k : Nat, k ≤ dn ∧ i = .int .i64 k ∧ wr.ownsRow w2.heap.size 95 3 o k ((evsL tr (wd.take k)).flatMap encE) ∧ Below w2.heap.size w2 wr) (fun _ i _ _ _ => dn - (intOf i).toNat)
      case atStart => exact ⟨0, Nat.zero_le _, rfl, World.ownsRow_nil _ _ _ _, Below.refl _ _⟩
      case round =>
        as_aux_lemma =>
        obtain ⟨k, hk, rfl, hown, hb⟩ := hrel
        have HB := Lib.hid hb; have HO := Lib.hid hown
        by_cases hlt : k < dn
        ·
          -- [A
          obtain ⟨b, o, x, hA, hbl, hx, e0⟩ := (HDO.out.below (below_tr HS2.out.bel hb)).atB hlt
          subst hA
          have htl := HF.out.1
          have hls := HLS.out
          have hq := Nat.mod_lt x.toNat (show 0 < sn by omega)
          obtain ⟨b2, o2, m, hA2, hbl2, hm, e1⟩ := (HT.out.below hb).at1 hq
          subst hA2
          have h12 := truth12 HOK.out HF.out hm
          have hx8 := x.toNat_lt
          have hw1 : IntKind.i64.wrap (x.toNat : Int) = (x.toNat : Int) := wi (by omega)
          have hm1 := tmodn' x.toNat sn
          have hm2 := tdivn' x.toNat sn
          have hdd : x.toNat / sn ≤ x.toNat := Nat.div_le_self _ _
          have hev : evOf tr x = ⟨((x.toNat % sn : Nat) : Int), max 0 (m - ((x.toNat / sn % 3 : Nat) : Int)), min 12 (m + ((x.toNat / sn / 3 % 3 : Nat) : Int))⟩ := by
            unfold evOf
            rw [htl, hls, List.getD_eq_getElem?_getD, hm]; rfl
          have HEV := Lib.hid hev
          have HX := Lib.hid hx
          clear hx hm hev htl hls hown
          generalize hQ : x.toNat % sn = Q at *
          generalize hDq : x.toNat / sn = D at *
          have hw2 : IntKind.i64.wrap (Q : Int) = (Q : Int) := wi (by omega)
          have hw3 : IntKind.i64.wrap (D : Int) = (D : Int) := wi (by omega)
          have hm3 : (D : Int).tmod 3 = ((D % 3 : Nat) : Int) := tmodn' D 3
          have hm4 : (D : Int).tdiv 3 = ((D / 3 : Nat) : Int) := tdivn' D 3
          have hm5 : ((D / 3 : Nat) : Int).tmod 3 = ((D / 3 % 3 : Nat) : Int) := tmodn' (D / 3) 3
          obtain ⟨a3, ha3⟩ : ∃ a3 : Nat, a3 = D % 3 := ⟨_, rfl⟩
          obtain ⟨d3, hd3⟩ : ∃ d3 : Nat, d3 = D / 3 := ⟨_, rfl⟩
          obtain ⟨b3, hb3⟩ : ∃ b3 : Nat, b3 = d3 % 3 := ⟨_, rfl⟩
          rw [← hd3, ← hb3] at hm5
          rw [← hd3] at hm4
          rw [← ha3] at hm3
          rw [← ha3, ← hd3, ← hb3] at HEV
          have hw4 : IntKind.i64.wrap (a3 : Int) = (a3 : Int) := wi (by omega)
          have hw5 : IntKind.i64.wrap (d3 : Int) = (d3 : Int) := wi (by omega)
          have hw6 : IntKind.i64.wrap (b3 : Int) = (b3 : Int) := wi (by omega)
          have hw7 : IntKind.i64.wrap (m - (a3 : Int)) = m - (a3 : Int) := wi (by omega)
          have hw8 : IntKind.i64.wrap (m + (b3 : Int)) = m + (b3 : Int) := wi (by omega)
          have hkn : (k : Int) < (dn : Int) := by omega
          have hk0 : (0 : Int) ≤ (k : Int) := by omega
          have hqn : (Q : Int) < (sn : Int) := by omega
          have hq0 : (0 : Int) ≤ (Q : Int) := by omega
          clear hQ hDq ha3 hd3 hb3 hq hdd hb
          go_wp2_with fail
          go_quiet (fail)
          obtain ⟨W9, hW9⟩ : ∃ W9, W9 = wr.drewN nq := ⟨_, rfl⟩
          have hb9 : Below wr.heap.size wr W9 := by rw [hW9]; exact below_drewN (Below.refl _ _) _
          have f1 := (hb9.cell (p := ⟨b2, o2 + Q, none⟩) hbl2).trans e1
          have HO9 := Lib.hid (own_mono HO.out hb9)
          have HB9 := Lib.hid (below_tr HB.out hb9)
          have hbl9 := Nat.lt_of_lt_of_le hbl2 hb9.size
          have hne : u10.ownBlock ≠ some b2 := fun e => by have h1 := (HO9.out.lt b2 e).1; have h2 := HT.out.2 (by omega); obtain ⟨_, _, e2, hl, _⟩ := h2; cases e2; omega
          rw [← hW9]
          clear hW9 hb9 e0 e1 HO HB
          go_wp2_with fail
          go_region_held3 (fun w' => w'.cell? ⟨b2, o2 + Q, none⟩ = some (.int .i64 m))
            (first
              | go_keep
              | (rw [hgrow.cell_far _ (by simp; omega) (Ne.symm hne)]; exact (World.cell?_alloc_lt _ _ _ hbl9).trans f1))
            ((refine step_append_lies _ (by rfl) _ _ _ (by rfl) w2.heap.size 95 j0 _ 3 24 Try.underlying86 JI.out JZ0.out JZ1.out JZ2.out rfl (by omega) _ k ((evsL tr (wd.take k)).flatMap encE) (by rfl) ((HO9.out.alloc _).drew) ⟨W9.heap.size, 0, none⟩ 1 1 [.int .i64 (Q : Int), .int .i64 (max 0 (m - (a3 : Int))), .int .i64 (min 12 (m + (b3 : Int)))] (by rfl) (by rfl) (World.news_of_block (cs := #[.int .i64 (Q : Int), .int .i64 (max 0 (m - (a3 : Int))), .int .i64 (min 12 (m + (b3 : Int)))]) (t := 95) (fr := (0, 0)) (heap_alloc_new W9 _)) (by simp [Value.oneCell']) (by omega) (by unfold maxLen; omega) (by omega) (by have := HB9.out.size; simp; omega) (W9.heap.size + 1) (by simp) ?_; intro gg cap wx1 hown1 hgrow hat hlt1))
          all_goals
            have hown2 : Hid (wx1.ownsRow w2.heap.size 95 3 (.slice (some ⟨gg, 0, none⟩) (k + 1) cap) (k + 1) ((evsL tr (wd.take (k + 1))).flatMap encE)) := by
              rw [evsL_take_succ HX.out, List.flatMap_append, HEV.out]
              exact hown1
            have hb2 : Hid (Below w2.heap.size w2 wx1) := (HB9.out.drew.alloc HB9.out.size _).grown hgrow (by have := HB9.out.size; simp; omega) (fun g hg => (HO9.out.lt g hg).1)
            clear hown1 hgrow
            go_wp2_with fail
            go_roundw
            case rel => exact ⟨k + 1, by omega, by go_num, hown2.out, hb2.out⟩
            case measure => simp [intOf] <;> omega
          -- A]
        · obtain rfl : k = dn := by omega
          obtain ⟨LA, lc, rfl, hlc⟩ := own_form hown
          rw [List.take_of_length_le (by rw [HDO.out.len]; exact Nat.le_refl _)] at hown
          have HL := Lib.hid (Rd.of_own encE_len hown (by rw [evsL_len, HDO.out.len]))
          obtain ⟨W3, hW3⟩ : ∃ W3, W3 = wr := ⟨_, rfl⟩
          rw [← hW3] at hb HL HB ⊢
          have HS3 := Lib.hid (HS2.out.below hb)
          have HT3 := Lib.hid (HT.out.below hb)
          clear hown HO hb HB hW3 HT HS2
          go_upto_if 92 with fail
          go_cut [14] (fun a wx => ∃ t : Nat, t ≤ k ∧ a = .int .i64 t ∧ wx = W3)
          case first =>
            as_aux_lemma =>
              by_cases hk0 : k = 0
              · subst hk0
                go_wp2_with fail
                go_meet
                exact ⟨0, Nat.le_refl _, rfl, rfl⟩
              · have hkp : (0 : Int) < (k : Int) := by omega
                obtain ⟨B, rfl⟩ : ∃ B : Nat, by8 = (B : Int) := ⟨by8.toNat, by omega⟩
                have hw1 : IntKind.i64.wrap (B : Int) = (B : Int) := wi (by omega)
                have hm1 := tmodn' B k
                have hlt := Nat.mod_lt B (show 0 < k by omega)
                obtain ⟨t, ht⟩ : ∃ t, t = B % k := ⟨_, rfl⟩
                rw [← ht] at hm1 hlt
                have hw2 : IntKind.i64.wrap (t : Int) = (t : Int) := wi (by omega)
                have hk1 : ¬ (k : Int) = 0 := by omega
                have hk2 : ((k : Int) == 0) = false := by simp; omega
                clear ht
                go_wp2_with fail
                go_meet
                exact ⟨t, by omega, rfl, rfl⟩
          case rest =>
            as_aux_lemma =>
            obtain ⟨t, ht, rfl, rfl⟩ := hcut
            obtain ⟨c0, c1, c2, c3, c4⟩ := HS3.out.cells
            have HVL := Lib.hid (HVW.out _ HS3.out.bel)
            have HP0 : 0 < v.sls.length := by have := HLS.out; omega
            have HP := Lib.hid HP0
            clear HP0
            go_wp2_with fail
            refine HVL.out.mono ?_
            rintro e w4 ⟨A1, d1, A2, d2, v', rfl, hv', hal, hb, _⟩
            have HS4 := Lib.hid (HS3.out.below hb)
            have HT4 := Lib.hid (HT3.out.below hb)
            have HL4 := Lib.hid (HL.out.below hb)
            have HHD := Lib.hid (Heard_c (c := lc) HL4.out (by omega))
            have HV4 := Lib.hid hv'; have HAL := Lib.hid hal
            clear hb hv' hal HVL c0 c1 c2 c3 c4 HS3 HT3 HL
            go_wp2_with fail
            refine HHD.out.mono ?_
            rintro e w5 ⟨A3, d3, rfl, hl5, hb⟩
            have HS5 := Lib.hid (HS4.out.below hb)
            have HT5 := Lib.hid (HT4.out.below hb)
            have HL5 := Lib.hid (HL4.out.below hb)
            have HHR := Lib.hid (Hear_o (pc := d1) (sc := d2) (lc := d3) HOK.out HAL.out (HV4.out.below hb) hl5 (evs_ok HOK.out HP.out HF.out (fun e he => evsL_mem he) (by rw [evsL_len, HDO.out.len]; exact hdn)))
            clear hb hl5 HHD HS4 HT4 HL4 HV4 HAL
            go_wp2_with fail
            refine HHR.out.mono ?_
            rintro e w6 ⟨A4, d4, rfl, hr6, hb⟩
            have HS6 := Lib.hid (HS5.out.below hb)
            have HT6 := Lib.hid (HT5.out.below hb)
            have HL6 := Lib.hid (HL5.out.below hb)
            have HR6 := Lib.hid hr6
            clear hb hr6 HHR HS5 HT5 HL5
            go_upto_region 14 with fail
            obtain ⟨B5, hcut5, hrd5⟩ := cut_from (t := 86) (e := 95) (size := 3) Try.underlying86 Try.sizeOf95 LA (len := k) (cap := lc) (lo := t) w6 ht hlc
            have hcut6 := cut_to_gen (t := 86) (e := 95) (size := 3) Try.underlying86 Try.sizeOf95 LA (n := k) (c := lc) (k := t) (by omega)
            have HX5 := Lib.hid (hrd5 encE (evsL tr wd) HL6.out)
            have HX6 := Lib.hid (rd_take HL6.out ht)
            obtain ⟨ht1, ht2, ht3⟩ := evs_turn (v := v) tr wd t
            rw [HDO.out.len] at ht2
            have HRO := Lib.hid ht3
            have HEO := Lib.hid (evs_ok HOK.out HP.out HF.out ht1 (by rw [ht2]; exact hdn))
            have HTL := Lib.hid ht2
            clear hrd5 ht1 ht2 ht3
            have HE0 : Hid (((w6.alloc (.cells #[] 95)).drew).ownsRow w6.heap.size 95 3 (.slice (some ⟨w6.heap.size, 0, none⟩) 0 0) 0 []) := own_empty w6 95 3
            have HX5a := Lib.hid (HX5.out.below ((Below.refl _ w6).alloc (Nat.le_refl _) (.cells #[] 95)).drew)
            obtain ⟨c0, c1, c2, c3, c4⟩ := HS6.out.cells
            go_cut [17, 18] (fun a b wx => b = .int .i64 0 ∧ ∃ A7 d7, a = .slice A7 sn d7 ∧ Rd enc2 2 wx A7 sn (leftsL v (evsL tr wd)) ∧ Below w6.heap.size w6 wx ∧ SW w w.heap.size (vA PA pn pc SA sn sc v) wx)
            case first =>
              as_aux_lemma =>
                -- [B
                go_region_held3 (fun w' => w'.cell? ⟨w.heap.size, 0, none⟩ = some (.slice PA pn pc) ∧ w'.cell? ⟨w.heap.size, 1, none⟩ = some (.slice SA sn sc) ∧ w'.cell? ⟨w.heap.size, 2, none⟩ = some (.int .i64 v.s0) ∧ w'.cell? ⟨w.heap.size, 3, none⟩ = some (.int .i64 v.s1) ∧ w'.cell? ⟨w.heap.size, 4, none⟩ = some (.int .i64 v.s2))
                  (first | exact HS6.out.drew.cells | exact HS6.out.cells | exact hs7.1.cells | exact (HS6.out.drew.below ((Below.refl _ _).alloc (Nat.le_refl _) _)).cells | exact (hs7.1.below ((Below.refl _ _).alloc (Nat.le_refl _) _)).cells | assumption)
                  (first
                    | (go_at_call 20; go_must (with_reducible refine (HVW.out _ (by first | exact hs7.1.bel | exact HS6.out.drew.bel | exact HS6.out.bel | exact (HS6.out.bel.alloc HS6.out.bel.size _).drew | exact HS6.out.bel.alloc HS6.out.bel.size _)).mono ?_; rintro e w7 ⟨A7, d7, A8, d8, v7, rfl, rv, hal, hb7, frv⟩; (try have hne1 := fun g hg => Or.inl (b := w7.heap.size ≤ g) (hlt1 g hg)); (try (with_reducible have hown0 := own_mono HE0.out hb7)); (try (with_reducible replace hown1 := own_mono hown1 hb7)); (try (with_reducible replace hrl := hrl.below hb7)); (try (with_reducible replace hrk := hrk.below hb7)); (first | replace hs7 := And.intro (hs7.1.below hb7) (below_tr hs7.2 hb7) | have hs7 := And.intro (HS6.out.drew.below hb7) (below_tr (Below.refl _ w6).drew hb7) | have hs7 := And.intro ((HS6.out.below ((Below.refl _ w6).alloc (Nat.le_refl _) _)).drew.below hb7) (below_tr ((Below.refl _ w6).alloc (Nat.le_refl _) _).drew hb7))))
                    | ((fail_if_success have := hown1); (with_reducible show ite _ (Oper.wp _ _ _ (World.alloc w7 _) _ _) _); refine step_app_ev (by rfl) (.tmp 109) (.tmp 112) (by rfl) w6.heap.size (by rfl) (own_low' (own_empty w7 95 3) hs7.2.size) (by rfl) (HX5.out.below (hs7.2.alloc hs7.2.size _)) (by omega) (by have := hs7.2.size; simp; omega) ?_; intro vx w8 hown1 hgrow1 hloc1; rw [Nat.zero_add, List.nil_append] at hown1; have hb8 : Below w7.heap.size w7 w8 := copy_below rfl hgrow1; have hne1 : ∀ g, vx.ownBlock = some g → g < w6.heap.size ∨ w7.heap.size ≤ g := (fun g hg => by rcases hloc1 with h | h <;> (rw [h] at hg; cases hg; simp)); replace rv := rv.below hb8; replace hs7 := And.intro (hs7.1.below hb8) (below_tr hs7.2 hb8))
                    | ((fail_if_success have := hown1); (with_reducible show ite _ (Oper.wp _ _ _ (World.drew (World.alloc w6 _)) _ _) _); refine step_app_ev (by rfl) (.tmp 109) (.tmp 112) (by rfl) w6.heap.size (by rfl) HE0.out (by rfl) HX5a.out (by omega) (by simp; try omega) ?_; intro vx w8 hown1 hgrow1 hloc1; rw [Nat.zero_add, List.nil_append] at hown1; have hb8 : Below w6.heap.size w6 w8 := (((Below.refl _ w6).alloc (Nat.le_refl _) _).drew).grown hgrow1 (by simp [World.drew]; try omega) (fun b hb => by cases hb; simp); have hs7 := And.intro (HS6.out.below hb8) hb8; have hlt1 := fun g hg => (hown1.lt g hg).2)
                    | ((fail_if_success have := hown1); (with_reducible show ite _ (Oper.wp _ _ _ w7 _ _) _); refine step_app_ev (by rfl) (.tmp 109) (.tmp 112) (by rfl) w6.heap.size (by rfl) hown0 (by rfl) (HX5.out.below hs7.2) (by omega) hs7.2.size ?_; intro vx w8 hown1 hgrow1 hloc1; rw [Nat.zero_add, List.nil_append] at hown1; have hb8 : Below w6.heap.size w6 w8 := hs7.2.grown hgrow1 hs7.2.size (fun b hb => by cases hb; simp); have hne1 : ∀ g, vx.ownBlock = some g → g < (w6.alloc (.cells #[] 95)).drew.heap.size ∨ w7.heap.size ≤ g := (fun g hg => by rcases hloc1 with h | h <;> (rw [h] at hg; cases hg; simp [World.drew])); replace rv := rv.grown frv hgrow1 (fun g hg => by cases hg; simp [World.drew]); replace hs7 := And.intro (HS6.out.below hb8) hb8)
                    | ((have hown1' := hown1); clear hown1'; refine step_app_ev (by rfl) (.tmp 113) (.tmp 116) (by rfl) w6.heap.size (by rfl) hown1 (by rfl) (HX6.out.below hs7.2) (by omega) hs7.2.size ?_; intro vy w9 hown2 hgrow2 _; rw [show k - t + t = k from by omega, ← List.flatMap_append] at hown2; obtain ⟨A9, c9, rfl, hc9⟩ := own_form hown2; have hrl := Rd.of_own encE_len hown2 HTL.out; have hb9 : Below w6.heap.size w6 w9 := hs7.2.grown hgrow2 hs7.2.size (fun g hg => (hown1.lt g hg).1); (try replace rv := rv.grown frv hgrow2 hne1); replace hs7 := And.intro (HS6.out.below hb9) hb9; clear hown1)
                    | (go_at_call 47; go_must (with_reducible refine (Heard_c hrl (by omega)).mono ?_; rintro e w10 ⟨A10, d10, rfl, hrk, hb10⟩; (try replace rv := rv.below hb10); replace hs7 := And.intro (hs7.1.below hb10) (below_tr hs7.2 hb10)))
                    | (go_at_call 46; go_must (with_reducible refine (Hear_o HOK.out hal rv hrk HEO.out).mono ?_; rintro e w11 ⟨A11, d11, rfl, hrz, hb11⟩; replace hs7 := And.intro (hs7.1.below hb11) (below_tr hs7.2 hb11))))
                all_goals
                  go_wp2_with fail
                  go_meet
                  exact ⟨rfl, _, _, rfl, (by rw [← HRO.out]; exact hrz), hs7.2, hs7.1⟩
                -- B]
            case rest =>
              as_aux_lemma =>
              obtain ⟨rfl, A7, d7, rfl, hr7, hb7, hsw⟩ := hcut
              obtain ⟨W7, hW7⟩ : ∃ W7, W7 = wc := ⟨_, rfl⟩
              rw [← hW7] at hr7 hb7 hsw ⊢
              have HS7 := Lib.hid hsw
              have HR7 := Lib.hid (HR6.out.below hb7); have HQ7 := Lib.hid hr7; have HT7 := Lib.hid (HT6.out.below hb7)
              clear hW7 hr7 hb7 hsw HS6 HR6 HT6 HL6 HX5 HX6 HX5a HRO HEO HTL HE0 c0 c1 c2 c3 c4 hcut5 hcut6
              go_wp2_with fail
              go_loopw [19] (fun i wr => ∃ j : Nat, j ≤ sn ∧ i = .int .i64 j ∧ Below W7.heap.size W7 wr) (fun i _ => sn - (intOf i).toNat)
              case atStart => exact ⟨0, Nat.zero_le _, rfl, Below.refl _ _⟩
              case round =>
                as_aux_lemma =>
                obtain ⟨j, hj, rfl, hb⟩ := hrel
                have HB := Lib.hid hb
                by_cases hlt : j < sn
                ·
                  -- [C
                  obtain ⟨b1, o1, x, hA1, hl1, hx, a1, a1'⟩ := (HR7.out.below hb).at2 hlt
                  obtain ⟨b2, o2, y, hA2, hl2, hy, a2, a2'⟩ := (HQ7.out.below hb).at2 hlt
                  obtain ⟨b3, o3, m, hA3, hl3, hm, a3⟩ := (HT7.out.below hb).at1 hlt
                  obtain ⟨b4, o4, s, hA4, hl4, hs, e0, e1, e2, e3⟩ := ((HV.out.below (below_tr HS7.out.bel hb)).sls).atS hlt
                  subst hA1 hA2 hA3 hA4
                  rw [hx] at hy; cases hy
                  have hk1 := evs_left HOK.out HP.out HF.out (fun e he => evsL_mem he) hm hx
                  have hk2 := leftsL_bd hs hx
                  have hc1 := (HS7.out.below hb).cells.2.1
                  have hcl := (HS7.out.below hb).2.lt
                  clear hx hm hs hb
                  obtain ⟨x1, x2⟩ := x
                  simp only at a1 a1' a2 a2' hk1 hk2
                  have n1 : decide (m < x1) = false := decide_eq_false (by omega)
                  have n2 : decide (x2 < m) = false := decide_eq_false (by omega)
                  have n3 : decide (x1 < s.lo) = false := decide_eq_false (by omega)
                  have n4 : decide (s.hi < x2) = false := decide_eq_false (by omega)
                  have hjn : (j : Int) < (sn : Int) := by omega
                  have hj0 : (0 : Int) ≤ (j : Int) := by omega
                  go_wp2_with fail
                  go_quiet (fail)
                  go_wp2_with fail
                  go_roundw
                  case rel => exact ⟨j + 1, by omega, by go_num, below_drewN HB.out _⟩
                  case measure => simp [intOf] <;> omega
                  -- C]
                · obtain rfl : j = sn := by omega
                  obtain ⟨W8, hW8⟩ : ∃ W8, W8 = wr := ⟨_, rfl⟩
                  rw [← hW8] at hb HB ⊢
                  have HS8 := Lib.hid (HS7.out.below hb)
                  have HR8 := Lib.hid (HR7.out.below hb)
                  clear hb HB hW8 HS7 HR7 HQ7 HT7
                  obtain ⟨c0, c1, c2, c3, c4⟩ := HS8.out.cells
                  have HVL := Lib.hid (HVW.out _ HS8.out.bel)
                  go_wp2_with fail
                  refine HVL.out.mono ?_
                  rintro e w9 ⟨A9, d9, A10, d10, v9, rfl, hv9, hal9, hb, _⟩
                  have HS9 := Lib.hid (HS8.out.below hb)
                  have HR9 := Lib.hid (HR8.out.below hb)
                  have HZN := Lib.hid (ZonesB_c (pc := d9) (sc := d10) HOK.out hal9 hv9)
                  clear hb hv9 hal9 HVL c0 c1 c2 c3 c4 HS8 HR8
                  go_wp2_with fail
                  refine HZN.out.mono ?_
                  rintro e w10 ⟨B1, g1, B2, g2, rfl, hr1, hr2, hb⟩
                  have HS10 := Lib.hid (HS9.out.below hb)
                  have HR10 := Lib.hid (HR9.out.below hb)
                  have HD1 := Lib.hid hr1; have HD2 := Lib.hid hr2
                  clear hb hr1 hr2 HZN HS9 HR9
                  obtain ⟨c0, c1, c2, c3, c4⟩ := HS10.out.cells
                  have HTD := Lib.hid (told_c (pc := pc) (sc := sc) (bc := d4) (HV.out.below HS10.out.bel) HR10.out ⟨hsn1, hsn10⟩)
                  have hvr : ∀ (k : Nat) (s : Sli) (x : Int × Int), v.sls[k]? = some s → (leftsL v (evsL tr wd))[k]? = some x → s.lo ≤ x.1 ∧ x.2 ≤ s.hi := fun k s x h1 h2 => leftsL_bd h1 h2
                  have htok : VOk (toldV v (leftsL v (evsL tr wd))) := toldV_ok HOK.out (leftsL_len _ _) hvr (allB_iff.2 fun i r hr => by
                    have hi : i < tr.length := by
                      have := lt_of_get hr
                      rw [leftsL_len, ← HF.out.1] at this; exact this
                    have := evs_left HOK.out HP.out HF.out (fun e he => evsL_mem he) (List.getElem?_eq_getElem hi) hr
                    simp [upR]; omega)
                  have HTO := Lib.hid htok
                  have HTW : Hid (∀ s ∈ (toldV v (leftsL v (evsL tr wd))).sls, s.way.length ≤ 1000) := fun s hs => by
                    obtain ⟨i, hi⟩ := List.getElem?_of_mem hs
                    have hl : i < v.sls.length := by
                      have := lt_of_get hi
                      rw [toldV_len] at this; exact this
                    have hsi := List.getElem?_eq_getElem hl
                    have hxi := List.getElem?_eq_getElem (show i < (leftsL v (evsL tr wd)).length by rw [leftsL_len]; exact hl)
                    rw [toldV_get hsi hxi] at hi
                    cases hi
                    exact HWY.out (v.sls[i]) (List.getElem_mem hl)
                  have HAT := Lib.hid (fun i (hi : i < v.pars.length) => told_at HOK.out (leftsL_len _ _) hvr hi)
                  clear htok hvr
                  go_wp2_with fail
                  refine HTD.out.mono ?_
                  rintro e w11 ⟨A11, d11, rfl, hv11, hb⟩
                  have HVL := Lib.hid (Valley_c (pc := pc) (sc := d11) hv11 (by omega) (by omega) HTW.out)
                  have HB11 := Lib.hid hb
                  clear hb hv11 HTD c0 c1 c2 c3 c4
                  go_wp2_with fail
                  refine HVL.out.mono ?_
                  rintro e w12 ⟨A12, d12, A13, d13, v12, rfl, hv12, hal12, hb⟩
                  have HB12 := Lib.hid (below_tr HB11.out hb)
                  have HZN := Lib.hid (ZonesB_c (pc := d12) (sc := d13) HTO.out hal12 hv12)
                  clear hb hv12 hal12 HVL HB11
                  go_wp2_with fail
                  refine HZN.out.mono ?_
                  rintro e w13 ⟨C1, g3, C2, g4, rfl, hr1, hr2, hb⟩
                  have HB13 := Lib.hid (below_tr HB12.out hb)
                  have HE1 := Lib.hid hr1; have HE2 := Lib.hid hr2
                  have HD3 := Lib.hid (HD1.out.below HB13.out); have HD4 := Lib.hid (HD2.out.below HB13.out)
                  have HBZ := Lib.hid (below_tr HS10.out.bel HB13.out)
                  clear hb hr1 hr2 HZN HB12 HD1 HD2 HS10 HR10 HB13
                  go_wp2_with fail
                  go_loopw [26] (fun i wr => ∃ q : Nat, q ≤ pn ∧ i = .int .i64 q ∧ Below w13.heap.size w13 wr) (fun i _ => pn - (intOf i).toNat)
                  case atStart => exact ⟨0, Nat.zero_le _, rfl, Below.refl _ _⟩
                  case round =>
                    as_aux_lemma =>
                    obtain ⟨q, hq, rfl, hb⟩ := hrel
                    have HB := Lib.hid hb
                    by_cases hlt : q < pn
                    · obtain ⟨dl, dh, zl, zh, el, eh, yl, yh, t1, t2, t3, t4, t5, t6, t7, t8⟩ := told_rows (v := v) (r := leftsL v (evsL tr wd)) (i := q) (by have := HLP.out; omega) (HAT.out q (by have := HLP.out; omega))
                      obtain ⟨b1, o1, y1, hA1, hl1, hy1, a1, a1'⟩ := (HD3.out.below hb).at2 hlt
                      obtain ⟨b2, o2, y2, hA2, hl2, hy2, a2, a2'⟩ := (HD4.out.below hb).at2 hlt
                      obtain ⟨b3, o3, y3, hA3, hl3, hy3, a3, a3'⟩ := (HE1.out.below hb).at2 hlt
                      obtain ⟨b4, o4, y4, hA4, hl4, hy4, a4, a4'⟩ := (HE2.out.below hb).at2 hlt
                      subst hA1 hA2 hA3 hA4
                      rw [t1] at hy1; cases hy1
                      rw [t2] at hy2; cases hy2
                      rw [t3] at hy3; cases hy3
                      rw [t4] at hy4; cases hy4
                      simp only at a1 a1' a2 a2' a3 a3' a4 a4'
                      clear t1 t2 t3 t4 hb
                      have n1 : decide (el < dl) = false := decide_eq_false (by omega)
                      have n2 : decide (dh < eh) = false := decide_eq_false (by omega)
                      have n3 : decide (yl < zl) = false := decide_eq_false (by omega)
                      have n4 : decide (zh < yh) = false := decide_eq_false (by omega)
                      have hkn : (q : Int) < (pn : Int) := by omega
                      have hk0 : (0 : Int) ≤ (q : Int) := by omega
                      go_wp2_with fail
                      go_quiet (fail)
                      go_wp2_with fail
                      go_roundw
                      case rel => exact ⟨q + 1, by omega, by go_num, below_drewN HB.out _⟩
                      case measure => simp [intOf] <;> omega
                    · obtain rfl : q = pn := by omega
                      clear hb
                      have HBE := Lib.hid (below_tr HBZ.out HB.out)
                      go_wp2_with (go_at_call 18; refine (wakes_ok _).mono ?_; rintro e wz ⟨rfl, hbz⟩)
                      go_ret
                      exact ⟨rfl, below_tr HBE.out hbz⟩
#print axioms ZoneEvidence_w
end Go.Proofs.Ytphdndiikikecaa
