/- THE CONTRACT of the law's dangers. -/
import Derived.Test.YtphdndiikikecaaZRef4
import Derived.Deep.DeepCutAuto
namespace Go.Proofs.Ytphdndiikikecaa
open Go.RowKit Go.Proofs
attribute [local go_sem ↓] Go.wp_at_zero Go.wp_at_succ

theorem JJ.free {w : World} {s : Nat} {t : TypeId} {cs : Array Value} {base : Nat} {n z : Int} {va vb : Value} {ka kb : Nat} {la lb : List Int} {W : World} (h : JJ w s t cs base n z none none va vb ka kb la lb W) (n' z' : Int) : JJ w s t cs base n' z' none none va vb ka kb la lb W := by
  obtain ⟨h1, h2, h3, h4, h5, h6, _, _⟩ := h
  exact ⟨h1, h2, h3, h4, h5, h6, (fun g hg => by cases hg), (fun g hg => by cases hg)⟩
theorem dangs_take {v : Vly} {tr : List Int} {k : Nat} (hk : k < v.pars.length) : (dangs v tr).take (k + 1) = (dangs v tr).take k ++ [dTo v.sls tr (k : Int) v.sls.length] := by
  rw [List.take_add_one]
  have : (dangs v tr)[k]? = some (dTo v.sls tr (k : Int) v.sls.length) := by simp [dangs, hk]
  rw [this]; rfl
set_option maxRecDepth 100000 in
set_option maxHeartbeats 2000000 in
theorem dangersL_c {v : Vly} {tr : List Int} {PA SA TA : Option Addr} {pn pc sn sc tn tc : Nat} {w : World} (hok : VOk v) (hfit : Fits v tr) (h : RdV w PA pn SA sn v) (hT : Rd enc1 1 w TA tn tr) :
    Calls Try.prog 22 #[.agg #[.slice PA pn pc, .slice SA sn sc, .int .i64 v.s0, .int .i64 v.s1, .int .i64 v.s2], .slice TA tn tc] w fun e w' => ∃ A1 c1 A2 c2, e = .returned (.tuple #[.slice A1 pn c1, .slice A2 pn c2]) ∧ Rd enc1 1 w' A1 pn (dangs v tr) ∧ Rd enc1 1 w' A2 pn ((dangs v tr).map (zoneOf v)) ∧ Below w.heap.size w w' := by
  have hlp := h.pars.len
  have hpn := hok.pn
  have hst := (stepsOk_iff.1 hok.steps)
  have hb0 : Below w.heap.size w (w.alloc (.cells (vA PA pn pc SA sn sc v) 26)) := (Below.refl _ w).alloc (Nat.le_refl _) _
  have HB := Lib.hid hb0
  have HX := Lib.hid (Blk.new w 26 (vA PA pn pc SA sn sc v))
  have HDG := Lib.hid (fun (k : Nat) W (hW : Below w.heap.size w W) => Danger_c (pc := pc) (sc := sc) (tc := tc) (k : Int) hok hfit (h.below hW) (hT.below hW))
  have HZN := Lib.hid (fun (d : Int) W => refZone_c PA SA pn pc sn sc (v := v) d (w := W) ⟨hst.2.1, hst.2.2.1⟩)
  have HTK := Lib.hid (fun k (hk : k < pn) => dangs_take (v := v) (tr := tr) (k := k) (by omega))
  obtain ⟨D, hD⟩ : ∃ D, D = dangs v tr := ⟨_, rfl⟩
  have HDL := Lib.hid (show D.length = pn by rw [hD, dangs_len, hlp])
  rw [← hD] at HTK ⊢
  clear h hT hok hfit hb0 hD hst
  go_enter Try.func22, Try.ntmps22
  go_wp2_with fail
  go_loopw [6, 7, 8] (fun o p i wr => ∃ k : Nat, k ≤ pn ∧ i = .int .i64 k ∧ JJ w w.heap.size 26 (vA PA pn pc SA sn sc v) (w.heap.size + 1) 0 0 none none o p k k (D.take k) ((D.take k).map (zoneOf v)) wr) (fun _ _ i _ => pn - (intOf i).toNat)
  case atStart => exact ⟨0, Nat.zero_le _, rfl, World.ownsRow_nil _ _ _ _, World.ownsRow_nil _ _ _ _, (fun g hg => by cases hg), HX.out, HB.out, ⟨by simp, by omega, Nat.le_refl _, by omega, by omega⟩, (fun g hg => by cases hg), (fun g hg => by cases hg)⟩
  case round =>
    obtain ⟨k, hk, rfl, hjj⟩ := hrel
    have HJ := Lib.hid hjj
    obtain ⟨c0, c1, c2, c3, c4⟩ := hjj.cells
    by_cases hlt : k < pn
    · have hkn : (k : Int) < (pn : Int) := by omega
      have hk0 : (0 : Int) ≤ (k : Int) := by omega
      have HD1 := Lib.hid (HDG.out k wr hjj.2.2.2.2.1)
      have HTA := Lib.hid (HTK.out k hlt)
      obtain ⟨d, hd⟩ : ∃ d, d = dTo v.sls tr (k : Int) v.sls.length := ⟨_, rfl⟩
      rw [← hd] at HD1 HTA
      obtain ⟨z, hz⟩ : ∃ z, z = zoneOf v d := ⟨_, rfl⟩
      have HZ1 := Lib.hid (HZN.out d)
      rw [← hz] at HZ1
      have HZE := Lib.hid hz
      clear hjj hd hz
      go_wp2_with fail
      refine HD1.out.mono ?_
      rintro e w2 ⟨rfl, hb2⟩
      have hj2 := (HJ.out.below hb2).free d z
      have jj := hj2
      have hc := hj2.cells
      obtain ⟨c0, c1, c2, c3, c4⟩ := hc
      clear hb2 hj2 HJ HD1
      go_upto_region 6 with fail
      go_region_held3 (fun w' => w'.cell? ⟨w.heap.size, 0, none⟩ = some (.slice PA pn pc) ∧ w'.cell? ⟨w.heap.size, 1, none⟩ = some (.slice SA sn sc) ∧ w'.cell? ⟨w.heap.size, 2, none⟩ = some (.int .i64 v.s0) ∧ w'.cell? ⟨w.heap.size, 3, none⟩ = some (.int .i64 v.s1) ∧ w'.cell? ⟨w.heap.size, 4, none⟩ = some (.int .i64 v.s2))
        (first | exact jj.cells | exact jj.b1.cells | exact jj.b2.cells | exact jj.b1.b2.cells | exact jj.b2.b1.cells | assumption)
        (first
          | (go_at_call 60; refine (HZ1.out _).mono ?_; rintro e w3 ⟨rfl, hbz⟩; (first | (have jj := jj.drew.below hbz) | (have jj := jj.below hbz) | (have jj := jj.b1.drew.below hbz) | (have jj := jj.b1.below hbz)))
          | (refine JJ.step1 (by rfl) (.tmp 21) (.tmp 23) (by rfl) (by first | with_reducible exact jj | with_reducible exact jj.b1 | with_reducible exact jj.b1.drew | with_reducible exact jj.b1.b2 | with_reducible exact jj.b2.b1 | with_reducible exact jj.b1.b2.drew | with_reducible exact jj.b2.b1.drew | with_reducible exact jj.b2) (by omega) (by rfl) (by rfl) ?_; intro va3 w4 jj)
          | (refine JJ.step2 (by rfl) (.tmp 25) (.tmp 29) (by rfl) (by first | with_reducible exact jj | with_reducible exact jj.b2 | with_reducible exact jj.b2.drew | with_reducible exact jj.b1.b2 | with_reducible exact jj.b2.b1 | with_reducible exact jj.b1.b2.drew | with_reducible exact jj.b2.b1.drew | with_reducible exact jj.b1) (by omega) (by rfl) (by rfl) ?_; intro vb3 w4 jj))
      all_goals
        have jf := jj.free 0 0
        have HJF := Lib.hid (show JJ w w.heap.size 26 (vA PA pn pc SA sn sc v) (w.heap.size + 1) 0 0 none none va3 vb3 (k + 1) (k + 1) (D.take (k + 1)) ((D.take (k + 1)).map (zoneOf v)) w4 by
          rw [HTA.out, List.map_append]
          rw [HZE.out] at jf
          exact jf)
        clear jf jj c0 c1 c2 c3 c4
        go_wp2_with fail
        go_roundw
        case rel => exact ⟨k + 1, by omega, by go_num, HJF.out⟩
        case measure => simp [intOf] <;> omega
    · obtain rfl : k = pn := by omega
      have h1 := hjj.1; have h2 := hjj.2.1; have h3 := hjj.2.2.2.2.1
      rw [List.take_of_length_le (by rw [HDL.out]; exact Nat.le_refl _)] at h1 h2
      obtain ⟨A1, c1, rfl, _, hr1⟩ := Rd.of_own2 h1 HDL.out
      obtain ⟨A2, c2, rfl, _, hr2⟩ := Rd.of_own2 h2 (by rw [List.length_map, HDL.out])
      have HR1 := Lib.hid hr1; have HR2 := Lib.hid hr2; have HB3 := Lib.hid h3
      clear h1 h2 h3 hr1 hr2 hjj
      go_wp2_with fail
      go_ret2
      exact ⟨A1, c1, A2, c2, rfl, HR1.out, HR2.out, HB3.out⟩
end Go.Proofs.Ytphdndiikikecaa
