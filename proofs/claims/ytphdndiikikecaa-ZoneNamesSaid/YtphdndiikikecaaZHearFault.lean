/- THE CONTRACT of the reference's HearFault. -/
import Derived.Test.YtphdndiikikecaaZLeft
import Derived.BigQuiet
import Derived.Deep.RegionHeld3
set_option linter.unusedVariables false
set_option linter.unusedSimpArgs false
namespace Go.Proofs.Ytphdndiikikecaa
open Go.RowKit Go.Proofs
attribute [local go_sem ↓] Go.wp_at_zero Go.wp_at_succ

set_option maxRecDepth 100000 in
set_option maxHeartbeats 4000000 in
theorem HearFault_c {v : Vly} {l : List Evd} {PA SA LA : Option Addr} {pn pc sn sc ln lc : Nat} {w : World} (h : RdV w PA pn SA sn v) (hL : Rd encE 3 w LA ln l) (hsn : sn ≤ 10) (hln : ln ≤ 1000) :
    Calls Try.prog 48 #[.agg #[.slice PA pn pc, .slice SA sn sc, .int .i64 v.s0, .int .i64 v.s1, .int .i64 v.s2], .slice LA ln lc] w fun e w' => e = .returned (.int .i64 (hearE v l)) ∧ Below w.heap.size w w' := by
  have hls := h.sls.len; have hll := hL.len
  have hb0 : Below w.heap.size w (w.alloc (.cells #[.slice PA pn pc, .slice SA sn sc, .int .i64 v.s0, .int .i64 v.s1, .int .i64 v.s2] 26)) := (Below.refl _ w).alloc (Nat.le_refl _) _
  have HB := Lib.hid hb0
  have HX := Lib.hid (Blk.new w 26 #[.slice PA pn pc, .slice SA sn sc, .int .i64 v.s0, .int .i64 v.s1, .int .i64 v.s2])
  have HV := Lib.hid h; have HL := Lib.hid hL; have HLL := Lib.hid hll; have HLS := Lib.hid hls
  by_cases h20 : 20 < l.length
  · have HE := Lib.hid (hearE_long (v := v) h20)
    have hg : (20 : Int) < (ln : Int) := by omega
    clear h hL hb0 hls hll h20
    go_enter Try.func48, Try.ntmps48
    go_wp2_with fail
    go_ret
    exact ⟨by rw [HE.out]; rfl, HB.out⟩
  · have hd20 : decide ((20 : Int) < (ln : Int)) = false := decide_eq_false (by omega)
    have H20 := Lib.hid h20
    obtain ⟨E, hE⟩ : ∃ E, E = hearE v l := ⟨_, rfl⟩
    have HE := Lib.hid hE
    rw [← hE]
    have hwsn : IntKind.i64.wrap ((sn : Int) - 1) = (sn : Int) - 1 := wi (by omega)
    clear h hL hb0 hls hll h20 hE
    go_enter Try.func48, Try.ntmps48
    go_wp2_with fail
    go_loopw [5] (fun i wr => ∃ j : Nat, j ≤ ln ∧ i = .int .i64 j ∧ (∀ (i : Nat) (x : Evd), i < j → l[i]? = some x → evOk sn x = true) ∧ Blk wr w.heap.size 26 #[.slice PA pn pc, .slice SA sn sc, .int .i64 v.s0, .int .i64 v.s1, .int .i64 v.s2] ∧ Below w.heap.size w wr) (fun i _ => ln - (intOf i).toNat)
    case atStart => exact ⟨0, Nat.zero_le _, rfl, fun i x hi => by omega, HX.out, HB.out⟩
    case round =>
      obtain ⟨j, hj, rfl, hup, hbx, hb⟩ := hrel
      have HB2 := Lib.hid hb; have HBX := Lib.hid hbx; have HU := Lib.hid hup
      have c1 := hbx.cell 1
      have hnlt := hbx.lt
      simp at c1
      by_cases hlt : j < ln
      · obtain ⟨b, o, x, hA, hblt, hx, h0, h1, h2⟩ := (HL.out.below hb).at3 hlt
        subst hA
        have hjn : (j : Int) < (ln : Int) := by omega
        have hj0 : (0 : Int) ≤ (j : Int) := by omega
        have HXX := Lib.hid hx
        have hok : evOk sn x = (inB x.k 0 ((sn : Int) - 1) && upB x.lo x.hi 12) := rfl
        have HIN := Lib.hid (fun W => In_c x.k 0 ((sn : Int) - 1) W)
        have HS := Lib.hid (fun W (hW : Below wr.heap.size wr W) => show W.cell? ⟨w.heap.size, 1, none⟩ = some (.slice SA sn sc) ∧ W.cell? ⟨b, o + j * 3, none⟩ = some (.int .i64 x.k) ∧ W.cell? ⟨b, o + j * 3 + 1, none⟩ = some (.int .i64 x.lo) ∧ W.cell? ⟨b, o + j * 3 + 2, none⟩ = some (.int .i64 x.hi) from
          ⟨(hW.cell (p := ⟨w.heap.size, 1, none⟩) hnlt).trans c1, (hW.cell (p := ⟨b, _, none⟩) hblt).trans h0, (hW.cell (p := ⟨b, _, none⟩) hblt).trans h1, (hW.cell (p := ⟨b, _, none⟩) hblt).trans h2⟩)
        clear hup hbx hb hx
        cases hin : inB x.k 0 ((sn : Int) - 1)
        · simp only [hin] at HIN
          rw [hin, Bool.false_and] at hok
          have HEQ := Lib.hid (show E = 2 by rw [HE.out, hearE_odd H20.out (allB_not.2 ⟨j, x, HXX.out, by rw [HLS.out]; exact hok⟩)])
          clear hin hok
          go_wp2_with fail
          go_quiet ((go_at_call 26; (first | exact quiet_left (HIN.out _) | exact quiet_add_left (HIN.out _))))
          go_wp2_with fail
          go_ret
          exact ⟨by rw [HEQ.out]; rfl, below_drewN HB2.out _⟩
        · simp only [hin] at HIN
          rw [hin, Bool.true_and] at hok
          cases hup : upB x.lo x.hi 12
          case false =>
              rw [hup] at hok
              have HOK := Lib.hid hok
              have HUT := Lib.hid (fun W => upTo_c x.lo x.hi 12 W)
              simp only [hup] at HUT
              clear hin hok hup
              go_wp2_with fail
              go_region_held3 (fun w' => w'.cell? ⟨w.heap.size, 1, none⟩ = some (.slice SA sn sc) ∧ w'.cell? ⟨b, o + j * 3, none⟩ = some (.int .i64 x.k) ∧ w'.cell? ⟨b, o + j * 3 + 1, none⟩ = some (.int .i64 x.lo) ∧ w'.cell? ⟨b, o + j * 3 + 2, none⟩ = some (.int .i64 x.hi))
                (first | exact HS.out _ (Below.refl _ _).drew | exact HS.out _ (Below.refl _ _) | exact HS.out _ hb5 | assumption)
                (first
                  | (go_at_call 26; refine (HIN.out _).mono ?_; rintro e w4 ⟨rfl, rfl⟩)
                  | (go_at_call 68; refine (HUT.out _).mono ?_; rintro e w5 ⟨rfl, hbc⟩; have hb5 := (Below.refl wr.heap.size wr).drew.trans hbc))
              all_goals
                have HEQ := Lib.hid (show E = 2 by rw [HE.out, hearE_odd H20.out (allB_not.2 ⟨j, x, HXX.out, by rw [HLS.out]; exact HOK.out⟩)])
                go_wp2_with fail
                go_ret
                exact ⟨by rw [HEQ.out]; rfl, below_tr HB2.out hb5⟩
          case true =>
              rw [hup] at hok
              have HOK := Lib.hid hok
              have HUT := Lib.hid (fun W => upTo_c x.lo x.hi 12 W)
              simp only [hup] at HUT
              clear hin hok hup
              go_wp2_with fail
              go_region_held3 (fun w' => w'.cell? ⟨w.heap.size, 1, none⟩ = some (.slice SA sn sc) ∧ w'.cell? ⟨b, o + j * 3, none⟩ = some (.int .i64 x.k) ∧ w'.cell? ⟨b, o + j * 3 + 1, none⟩ = some (.int .i64 x.lo) ∧ w'.cell? ⟨b, o + j * 3 + 2, none⟩ = some (.int .i64 x.hi))
                (first | exact HS.out _ (Below.refl _ _).drew | exact HS.out _ (Below.refl _ _) | exact HS.out _ hb5 | assumption)
                (first
                  | (go_at_call 26; refine (HIN.out _).mono ?_; rintro e w4 ⟨rfl, rfl⟩)
                  | (go_at_call 68; refine (HUT.out _).mono ?_; rintro e w5 ⟨rfl, hbc⟩; have hb5 := (Below.refl wr.heap.size wr).drew.trans hbc))
              all_goals
                have HBX5 := Lib.hid (HBX.out.below hb5 hnlt)
                have HB5 := Lib.hid (below_tr HB2.out hb5)
                clear hb5 hbc
                go_wp2_with fail
                go_roundw
                case rel => exact ⟨j + 1, by omega, by go_num, fun i y hi hy => by
                  by_cases hij : i = j
                  · subst hij; rw [HXX.out] at hy; cases hy; exact HOK.out
                  · exact HU.out i y (by omega) hy, HBX5.out, HB5.out⟩
                case measure => simp [intOf] <;> omega
      · obtain rfl : j = ln := by omega
        have HAL := Lib.hid (show allB (evOk v.sls.length) l = true from allB_iff.2 fun i x hx => by rw [HLS.out]; exact HU.out i x (by have := lt_of_get hx; have := HLL.out; omega) hx)
        clear hup hbx hb
        go_wp2_with fail
        go_loopw [6] (fun i wr => ∃ k : Nat, k ≤ sn ∧ i = .int .i64 k ∧ (∀ (i : Nat) (r : Int × Int), i < k → (leftsL v l)[i]? = some r → upR r = true) ∧ Blk wr w.heap.size 26 #[.slice PA pn pc, .slice SA sn sc, .int .i64 v.s0, .int .i64 v.s1, .int .i64 v.s2] ∧ Below w.heap.size w wr) (fun i _ => sn - (intOf i).toNat)
        case atStart => exact ⟨0, Nat.zero_le _, rfl, fun i x hi => by omega, HBX.out, HB2.out⟩
        case round =>
          clear HB2 HBX HU c1 hnlt
          obtain ⟨k, hk, rfl, hup, hbx, hb⟩ := hrel
          have HB2 := Lib.hid hb; have HBX := Lib.hid hbx; have HU := Lib.hid hup
          have c0 := hbx.cell 0
          have c1 := hbx.cell 1
          have c2 := hbx.cell 2
          have c3 := hbx.cell 3
          have c4 := hbx.cell 4
          have hnlt := hbx.lt
          simp at c0 c1 c2 c3 c4
          by_cases hlt : k < sn
          · obtain ⟨s, hs⟩ : ∃ s, v.sls[k]? = some s := ⟨_, List.getElem?_eq_getElem (by have := HLS.out; omega)⟩
            have hget := leftsL_get (l := l) hs
            have HLF := Lib.hid (Left_c (pc := pc) (sc := sc) (lc := lc) (HV.out.below hb) (HL.out.below hb) hln hs)
            obtain ⟨r, hr⟩ : ∃ r, r = leftL l (k : Int) (s.lo, s.hi) := ⟨_, rfl⟩
            rw [← hr] at hget HLF
            have HG := Lib.hid hget
            have hkn : (k : Int) < (sn : Int) := by omega
            clear hup hbx hb hs hget hr
            go_wp2_with fail
            refine HLF.out.mono ?_
            rintro e w5 ⟨rfl, hb5⟩
            have hbx5 := HBX.out.below hb5 hnlt
            have HX5 := Lib.hid (hbx5.alloc (.cells #[.int .i64 r.1, .int .i64 r.2] 60))
            have HB5 := Lib.hid (below_tr HB2.out (hb5.alloc hb5.size (.cells #[.int .i64 r.1, .int .i64 r.2] 60)))
            clear hb5 hbx5
            by_cases hc : r.1 ≤ r.2
            · have hd : decide (r.2 < r.1) = false := decide_eq_false (by omega)
              have HC := Lib.hid hc
              clear hc
              go_wp2_with fail
              go_roundw
              case rel => exact ⟨k + 1, by omega, by go_num, fun i y hi hy => by
                by_cases hij : i = k
                · subst hij; rw [HG.out] at hy; cases hy; exact decide_eq_true HC.out
                · exact HU.out i y (by omega) hy, HX5.out, HB5.out⟩
              case measure => simp [intOf] <;> omega
            · have hd : decide (r.2 < r.1) = true := decide_eq_true (by omega)
              have HEQ := Lib.hid (show E = 9 by rw [HE.out, hearE_fail H20.out HAL.out (allB_not.2 ⟨k, r, HG.out, decide_eq_false hc⟩)])
              clear hc
              go_wp2_with fail
              go_ret
              exact ⟨by rw [HEQ.out]; rfl, HB5.out⟩
          · obtain rfl : k = sn := by omega
            have HEQ := Lib.hid (show E = 0 by rw [HE.out, hearE_ok H20.out HAL.out (allB_iff.2 fun i r hr => HU.out i r (by have := lt_of_get hr; rw [leftsL_len] at this; have := HLS.out; omega) hr)])
            clear hup hbx hb
            go_wp2_with fail
            go_ret
            exact ⟨by rw [HEQ.out]; rfl, HB2.out⟩
end Go.Proofs.Ytphdndiikikecaa
