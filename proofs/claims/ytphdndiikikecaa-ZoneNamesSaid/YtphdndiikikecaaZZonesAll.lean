/- THE CONTRACT of zone.Zones. -/
import Derived.Test.YtphdndiikikecaaZDang
import Derived.Test.YtphdndiikikecaaZEnd
import Derived.Test.YtphdndiikikecaaZZones
import Derived.Deep.RegionHeld3
import Derived.Deep.DeepCutAuto
set_option linter.unusedVariables false
set_option linter.unusedSimpArgs false
namespace Go.Proofs.Ytphdndiikikecaa
open Go.RowKit Go.Proofs
attribute [local go_sem ↓] Go.wp_at_zero Go.wp_at_succ

abbrev vA (PA : Option Addr) (pn pc : Nat) (SA : Option Addr) (sn sc : Nat) (v : Vly) : Array Value := #[.slice PA pn pc, .slice SA sn sc, .int .i64 v.s0, .int .i64 v.s1, .int .i64 v.s2]
/-- what a world keeps: all that lay in w2, the box of the valley -/
def SV (w2 : World) (g : Nat) (cs : Array Value) (W : World) : Prop := Below w2.heap.size w2 W ∧ Blk W g 36 cs
theorem SV.drew {w2 : World} {g : Nat} {cs : Array Value} {W : World} (h : SV w2 g cs W) : SV w2 g cs W.drew := ⟨h.1.drew, h.2⟩
theorem SV.below {w2 : World} {g : Nat} {cs : Array Value} {W W' : World} (h : SV w2 g cs W) (hb : Below W.heap.size W W') : SV w2 g cs W' := ⟨below_tr h.1 hb, h.2.below hb h.2.lt⟩
theorem SV.cells {w2 : World} {g : Nat} {PA SA : Option Addr} {pn pc sn sc : Nat} {v : Vly} {W : World} (h : SV w2 g (vA PA pn pc SA sn sc v) W) :
    W.cell? ⟨g, 0, none⟩ = some (.slice PA pn pc) ∧ W.cell? ⟨g, 1, none⟩ = some (.slice SA sn sc) ∧ W.cell? ⟨g, 2, none⟩ = some (.int .i64 v.s0) ∧ W.cell? ⟨g, 3, none⟩ = some (.int .i64 v.s1) ∧ W.cell? ⟨g, 4, none⟩ = some (.int .i64 v.s2) := by
  refine ⟨?_, ?_, ?_, ?_, ?_⟩
  · rw [h.2.cell 0]; rfl
  · rw [h.2.cell 1]; rfl
  · rw [h.2.cell 2]; rfl
  · rw [h.2.cell 3]; rfl
  · rw [h.2.cell 4]; rfl

set_option maxRecDepth 100000 in
set_option maxHeartbeats 400000 in
theorem Zones_bad {v : Vly} {PA SA : Option Addr} {pn pc sn sc : Nat} {w : World} (h : RdV w PA pn SA sn v) (hpn : pn ≤ maxLen) (hsn : sn ≤ maxLen) (hbad : errV v ≠ 0) :
    Calls Try.prog 19 #[.agg #[.slice PA pn pc, .slice SA sn sc, .int .i64 v.s0, .int .i64 v.s1, .int .i64 v.s2]] w
      fun e w' => e = .returned (.tuple #[.slice none 0 0, .slice none 0 0, .int .i64 (errV v)]) ∧ Below w.heap.size w w' := by
  have hne : (errV v == 0) = false := by simpa using hbad
  have hb0 : Below w.heap.size w (w.alloc (.cells (vA PA pn pc SA sn sc v) 36)) := (Below.refl _ w).alloc (Nat.le_refl _) _
  have HC := Lib.hid (checkV_c (pc := pc) (sc := sc) (h.below hb0) hpn hsn)
  obtain ⟨E, hE⟩ : ∃ E, E = errV v := ⟨_, rfl⟩
  rw [← hE] at HC hne hbad ⊢
  have HB := Lib.hid hb0
  clear h hE hb0
  go_enter Try.func19, Try.ntmps19
  go_wp2_with fail
  refine HC.out.mono ?_
  rintro e w2 ⟨rfl, hb⟩
  have HB2 := Lib.hid (below_tr HB.out hb)
  clear hb
  go_wp2_with fail
  go_ret3
  exact ⟨rfl, HB2.out⟩

set_option maxRecDepth 100000 in
set_option maxHeartbeats 4000000 in
theorem Zones_c {v : Vly} {PA SA : Option Addr} {pn pc sn sc : Nat} {w : World} (h : RdV w PA pn SA sn v) (hok : VOk v) :
    Calls Try.prog 19 #[.agg #[.slice PA pn pc, .slice SA sn sc, .int .i64 v.s0, .int .i64 v.s1, .int .i64 v.s2]] w
      fun e w' => ∃ A1 c1 A2 c2, e = .returned (.tuple #[.slice A1 pn c1, .slice A2 pn c2, .int .i64 0]) ∧ pn ≤ c1 ∧ pn ≤ c2 ∧ Rd enc2 2 w' A1 pn ((dangs v (endsT v false)).zip (dangs v (endsT v true))) ∧
        Rd enc2 2 w' A2 pn (((dangs v (endsT v false)).map (zoneOf v)).zip ((dangs v (endsT v true)).map (zoneOf v))) ∧ Below w.heap.size w w' := by
  have hlp := h.pars.len; have hls := h.sls.len
  have hpn := hok.pn; have hsn := hok.sn
  have hb0 : Below w.heap.size w (w.alloc (.cells (vA PA pn pc SA sn sc v) 36)) := (Below.refl _ w).alloc (Nat.le_refl _) _
  have HC := Lib.hid (checkV_c (pc := pc) (sc := sc) (h.below hb0) (by unfold maxLen; omega) (by unfold maxLen; omega))
  rw [errV_zero.2 hok] at HC
  have HB := Lib.hid hb0
  have HX := Lib.hid (Blk.new w 36 (vA PA pn pc SA sn sc v))
  have HV := Lib.hid h
  have HOK := Lib.hid hok
  clear h hb0 hok
  go_enter Try.func19, Try.ntmps19
  go_wp2_with fail
  refine HC.out.mono ?_
  rintro e w2 ⟨rfl, hb⟩
  have HX2 := Lib.hid (HX.out.below hb (by simp))
  have HB2 := Lib.hid (below_tr HB.out hb)
  have HS2 := Lib.hid (show SV w2 w.heap.size (vA PA pn pc SA sn sc v) w2 from ⟨Below.refl _ _, HX2.out⟩)
  have hcells := HS2.out.cells
  clear hb HX HC
  go_upto_region 4 with fail
  have HEL := Lib.hid (fun W (hW : SV w2 w.heap.size (vA PA pn pc SA sn sc v) W) => end_low_c (pc := pc) (sc := sc) (HV.out.below (below_tr HB2.out hW.1)) (by omega))
  have HEH := Lib.hid (fun W (hW : SV w2 w.heap.size (vA PA pn pc SA sn sc v) W) => end_high_c (pc := pc) (sc := sc) (HV.out.below (below_tr HB2.out hW.1)) (by omega))
  have HDL := Lib.hid (fun W TA tc (hT : Rd enc1 1 W TA sn (endsT v false)) (hW : SV w2 w.heap.size (vA PA pn pc SA sn sc v) W) => dangers_c (pc := pc) (sc := sc) (tc := tc) HOK.out (endsT_fits HOK.out false) (HV.out.below (below_tr HB2.out hW.1)) hT)
  have HDH := Lib.hid (fun W TA tc (hT : Rd enc1 1 W TA sn (endsT v true)) (hW : SV w2 w.heap.size (vA PA pn pc SA sn sc v) W) => dangers_c (pc := pc) (sc := sc) (tc := tc) HOK.out (endsT_fits HOK.out true) (HV.out.below (below_tr HB2.out hW.1)) hT)
  go_cut [6, 7] (fun a b wx => ∃ g1 g2, a = .slice (some ⟨g1, 0, none⟩) pn pn ∧ b = .slice (some ⟨g2, 0, none⟩) pn pn ∧ Blk wx g1 3 (intsA (dangs v (endsT v false))) ∧ Blk wx g2 3 (intsA (dangs v (endsT v true))) ∧ SV w2 w.heap.size (vA PA pn pc SA sn sc v) wx)
  case first =>
    go_region_held3 (fun w' => SV w2 w.heap.size (vA PA pn pc SA sn sc v) w' ∧ w'.cell? ⟨w.heap.size, 0, none⟩ = some (.slice PA pn pc) ∧ w'.cell? ⟨w.heap.size, 1, none⟩ = some (.slice SA sn sc) ∧ w'.cell? ⟨w.heap.size, 2, none⟩ = some (.int .i64 v.s0) ∧ w'.cell? ⟨w.heap.size, 3, none⟩ = some (.int .i64 v.s1) ∧ w'.cell? ⟨w.heap.size, 4, none⟩ = some (.int .i64 v.s2))
      (first | exact ⟨HS2.out.drew, HS2.out.drew.cells⟩ | exact ⟨HS2.out, HS2.out.cells⟩ | exact ⟨hs5, hs5.cells⟩ | assumption)
      (first
        | (go_at_call 53; with_reducible refine (HEL.out _ (by first | exact hs5 | exact HS2.out.drew | exact HS2.out)).mono ?_; rintro e w5 ⟨TL, tcl, rfl, hl5, rl, hb5⟩; (try replace rh := rh.below hb5); (try replace gh := Blk.below gh hb5 gh.lt); (first | replace hs5 := hs5.below hb5 | have hs5 := HS2.out.drew.below hb5))
        | (go_at_call 53; with_reducible refine (HEH.out _ (by first | exact hs5 | exact HS2.out.drew | exact HS2.out)).mono ?_; rintro e w5 ⟨TH, tch, rfl, hl5, rh, hb5⟩; (try replace rl := rl.below hb5); (try replace gl := Blk.below gl hb5 gl.lt); (first | replace hs5 := hs5.below hb5 | have hs5 := HS2.out.drew.below hb5))
        | (go_at_call 55; with_reducible refine (HDL.out _ _ _ rl hs5).mono ?_; rintro e w5 ⟨gL, rfl, hl5, gl, hb5⟩; (try replace rh := rh.below hb5); (try replace gh := Blk.below gh hb5 gh.lt); replace hs5 := hs5.below hb5)
        | (go_at_call 55; with_reducible refine (HDH.out _ _ _ rh hs5).mono ?_; rintro e w5 ⟨gH, rfl, hl5, gh, hb5⟩; (try replace rl := rl.below hb5); (try replace gl := Blk.below gl hb5 gl.lt); replace hs5 := hs5.below hb5))
    all_goals
      go_wp2_with fail
      go_meet
      exact ⟨gL, gH, rfl, rfl, gl, gh, hs5⟩
  case rest =>
    obtain ⟨g1, g2, rfl, rfl, hg1, hg2, hs⟩ := hcut
    have hlL : (dangs v (endsT v false)).length = pn := by rw [dangs_len, hlp]
    have hlH : (dangs v (endsT v true)).length = pn := by rw [dangs_len, hlp]
    obtain ⟨dl, hdl⟩ : ∃ dl, dl = dangs v (endsT v false) := ⟨_, rfl⟩
    obtain ⟨dh, hdh⟩ : ∃ dh, dh = dangs v (endsT v true) := ⟨_, rfl⟩
    rw [← hdl, ← hdh] at *
    have R1 := Lib.hid (Rd.of_blk hg1 hlL)
    have R2 := Lib.hid (Rd.of_blk hg2 hlH)
    have HS := Lib.hid hs
    have HL := Lib.hid hlL; have HH := Lib.hid hlH
    obtain ⟨w5, hw5⟩ : ∃ w5, w5 = wc := ⟨_, rfl⟩
    have HB5 := Lib.hid (below_tr HB2.out hs.1)
    clear hg1 hg2 hlL hlH hdl hdh hs HEL HEH HDL HDH
    have hcells := HS.out.cells
    have HRG := Lib.hid (fun W (hW : SV wc w.heap.size (vA PA pn pc SA sn sc v) W) => rangesZ_c (c := pn) (c0 := pn) (R1.out.below hW.1) (R2.out.below hW.1) (by omega))
    have HZ1 := Lib.hid (fun W (hW : SV wc w.heap.size (vA PA pn pc SA sn sc v) W) => zones_c PA SA pn pc sn sc v (c := pn) (R1.out.below hW.1) (by omega))
    have HZ2 := Lib.hid (fun W (hW : SV wc w.heap.size (vA PA pn pc SA sn sc v) W) => zones_c PA SA pn pc sn sc v (c := pn) (R2.out.below hW.1) (by omega))
    have HS0 := Lib.hid (show SV wc w.heap.size (vA PA pn pc SA sn sc v) wc from ⟨Below.refl _ _, HS.out.2⟩)
    go_wp2_with fail
    go_region_held3 (fun w' => SV wc w.heap.size (vA PA pn pc SA sn sc v) w' ∧ w'.cell? ⟨w.heap.size, 0, none⟩ = some (.slice PA pn pc) ∧ w'.cell? ⟨w.heap.size, 1, none⟩ = some (.slice SA sn sc) ∧ w'.cell? ⟨w.heap.size, 2, none⟩ = some (.int .i64 v.s0) ∧ w'.cell? ⟨w.heap.size, 3, none⟩ = some (.int .i64 v.s1) ∧ w'.cell? ⟨w.heap.size, 4, none⟩ = some (.int .i64 v.s2))
      (first | exact ⟨HS0.out.drew, HS0.out.drew.cells⟩ | exact ⟨HS0.out, HS0.out.cells⟩ | exact ⟨hs5, hs5.cells⟩ | assumption)
      (first
        | (go_at_call 57; with_reducible refine (HRG.out _ (by first | exact hs5 | exact HS0.out.drew | exact HS0.out)).mono ?_; rintro e w6 ⟨B1, c1, rfl, hc1, rr, hb5⟩; (first | replace hs5 := hs5.below hb5 | have hs5 := HS0.out.drew.below hb5))
        | (go_at_call 58; with_reducible refine (HZ1.out _ hs5).mono ?_; rintro e w6 ⟨A7, c7, rfl, hc7, rz1, hb5⟩; replace rr := rr.below hb5; replace hs5 := hs5.below hb5)
        | (go_at_call 58; with_reducible refine (HZ2.out _ hs5).mono ?_; rintro e w6 ⟨A8, c8, rfl, hc8, rz2, hb5⟩; replace rr := rr.below hb5; replace rz1 := rz1.below hb5; replace hs5 := hs5.below hb5)
        | (go_at_call 57; refine (rangesZ_c (c := c7) (c0 := c8) rz1 rz2 (by omega)).mono ?_; rintro e w6 ⟨B2, c2, rfl, hc2, rr2, hb5⟩; replace rr := rr.below hb5; replace hs5 := hs5.below hb5))
    all_goals
      go_wp2_with fail
      go_ret3
      exact ⟨B1, c1, B2, c2, rfl, hc1, hc2, rr, rr2, HB5.out.trans (hs5.1.mono HB5.out.size)⟩
end Go.Proofs.Ytphdndiikikecaa
