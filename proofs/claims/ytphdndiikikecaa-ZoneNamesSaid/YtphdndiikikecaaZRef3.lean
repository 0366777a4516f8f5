/- CONTRACTS of the reference's Danger and of the law's dangers. -/
import Derived.Test.YtphdndiikikecaaZRef2
import Derived.Deep.RegionHeld3
set_option linter.unusedVariables false
set_option linter.unusedSimpArgs false
namespace Go.Proofs.Ytphdndiikikecaa
open Go.RowKit Go.Proofs
attribute [local go_sem ↓] Go.wp_at_zero Go.wp_at_succ

set_option maxRecDepth 100000 in
set_option maxHeartbeats 1000000 in
theorem Danger_c {v : Vly} {tr : List Int} {PA SA TA : Option Addr} {pn pc sn sc tn tc : Nat} (p : Int) {w : World} (hok : VOk v) (hfit : Fits v tr) (h : RdV w PA pn SA sn v) (hT : Rd enc1 1 w TA tn tr) :
    Calls Try.prog 59 #[.agg #[.slice PA pn pc, .slice SA sn sc, .int .i64 v.s0, .int .i64 v.s1, .int .i64 v.s2], .slice TA tn tc, .int .i64 p] w fun e w' => e = .returned (.int .i64 (dTo v.sls tr p v.sls.length)) ∧ Below w.heap.size w w' := by
  have hls := h.sls.len
  have htl := hT.len
  have hft := hfit.1
  have htn : tn = sn := by omega
  subst htn
  have hsn := hok.sn
  have hb0 : Below w.heap.size w (w.alloc (.cells #[.slice PA pn pc, .slice SA tn sc, .int .i64 v.s0, .int .i64 v.s1, .int .i64 v.s2] 26)) := (Below.refl _ w).alloc (Nat.le_refl _) _
  have HB := Lib.hid hb0
  have HX := Lib.hid (Blk.new w 26 #[.slice PA pn pc, .slice SA tn sc, .int .i64 v.s0, .int .i64 v.s1, .int .i64 v.s2])
  have HV := Lib.hid h; have HT := Lib.hid hT; have HOK := Lib.hid hok; have HF := Lib.hid hfit
  have HBD := Lib.hid (fun k => dTo_bd (sls := v.sls) (tr := tr) (fun k s hs => by have := (hok.slide hs).2.2.1; omega) p k)
  have HD := Lib.hid (fun k => show dTo v.sls tr p (k + 1) = dTo v.sls tr p k + dAt v.sls tr p k from rfl)
  have HDA := Lib.hid (fun (k : Nat) (s : Sli) (m : Int) (hs : v.sls[k]? = some s) (hm : tr[k]? = some m) => dAt_of (p := p) hs hm)
  rw [hls]
  clear h hT hok hfit hb0
  go_enter Try.func59, Try.ntmps59
  go_wp2_with fail
  go_loopw [7, 8] (fun o i wr => ∃ k : Nat, k ≤ tn ∧ i = .int .i64 k ∧ o = .int .i64 (dTo v.sls tr p k) ∧ Blk wr w.heap.size 26 #[.slice PA pn pc, .slice SA tn sc, .int .i64 v.s0, .int .i64 v.s1, .int .i64 v.s2] ∧ Below w.heap.size w wr) (fun _ i _ => tn - (intOf i).toNat)
  case atStart => exact ⟨0, Nat.zero_le _, rfl, rfl, HX.out, HB.out⟩
  case round =>
    obtain ⟨k, hk, rfl, rfl, hbx, hb⟩ := hrel
    have HBX := Lib.hid hbx; have HB2 := Lib.hid hb
    by_cases hlt : k < tn
    · obtain ⟨b, o, x, hA, hblt, hx, h0, h1, h2, h3⟩ := (HV.out.sls.below hb).atS hlt
      obtain ⟨b', o', m, hA', hblt', hm, h4⟩ := (HT.out.below hb).at1 hlt
      subst hA hA'
      have hfm := HF.out.2 k x m hx hm
      have hsl := HOK.out.slide hx
      obtain ⟨M, rfl⟩ : ∃ M : Nat, m = (M : Int) := ⟨m.toNat, by omega⟩
      have hway := (HV.out.below hb).way k x hx
      have hd1 := HD.out k
      rw [HDA.out k x M hx hm] at hd1
      have hxn : x.n ≤ 1000000 := by have := hway.1.len; have := wayTo_len hsl.1; have := HOK.out.pn; omega
      have hM : M ≤ 1000000 := by have := hway.1.len; omega
      have hnlt := hbx.lt
      have c1 := hbx.cell 1
      simp at c1
      have hS : ∀ W, Below wr.heap.size wr W → W.cell? ⟨w.heap.size, 1, none⟩ = some (.slice (some ⟨b, o, none⟩) tn sc) ∧ (W.cell? ⟨b, o + k * 4, none⟩ = some (.slice x.A x.n x.c) ∧ W.cell? ⟨b, o + k * 4 + 1, none⟩ = some (.int .i64 x.rate) ∧ W.cell? ⟨b, o + k * 4 + 2, none⟩ = some (.int .i64 x.lo) ∧ W.cell? ⟨b, o + k * 4 + 3, none⟩ = some (.int .i64 x.hi)) ∧ W.cell? ⟨b', o' + k, none⟩ = some (.int .i64 (M : Int)) := fun W hW =>
        ⟨(hW.cell (p := ⟨w.heap.size, 1, none⟩) hnlt).trans c1, ⟨(hW.cell (p := ⟨b, _, none⟩) hblt).trans h0, (hW.cell (p := ⟨b, _, none⟩) hblt).trans h1, (hW.cell (p := ⟨b, _, none⟩) hblt).trans h2, (hW.cell (p := ⟨b, _, none⟩) hblt).trans h3⟩, (hW.cell (p := ⟨b', _, none⟩) hblt').trans h4⟩
      have HSS := Lib.hid hS
      have HHT := Lib.hid (fun W (hW : Below wr.heap.size wr W) => Hits_c (c := x.c) (m := M) x.rate x.lo x.hi p (hway.1.below hW) hxn hM)
      have hbd := HBD.out k
      have hbd1 := HBD.out (k + 1)
      have hkn : (k : Int) < (tn : Int) := by omega
      have hk0 : (0 : Int) ≤ (k : Int) := by omega
      have hhit : hitBy x (M : Int).toNat p = if p ∈ x.way.take M then x.rate else 0 := rfl
      rw [hhit] at hd1
      rw [hd1] at hbd1
      have HD1 := Lib.hid hd1
      generalize dTo v.sls tr p k = z at hbd hbd1 HD1 ⊢
      have hreg : True := trivial
      clear hbx hb hx hm hway hd1 hS hhit
      by_cases hin : p ∈ x.way.take M
      · rw [if_pos hin] at HD1 hbd1
        have hdt : decide (p ∈ x.way.take M) = true := decide_eq_true hin
        rw [hdt] at HHT
        have hw1 : IntKind.i64.wrap (z + x.rate) = z + x.rate := wi (by omega)
        clear hin hdt
        go_wp2_with fail
        go_region_held3 (fun w' => w'.cell? ⟨w.heap.size, 1, none⟩ = some (.slice (some ⟨b, o, none⟩) tn sc) ∧ (w'.cell? ⟨b, o + k * 4, none⟩ = some (.slice x.A x.n x.c) ∧ w'.cell? ⟨b, o + k * 4 + 1, none⟩ = some (.int .i64 x.rate) ∧ w'.cell? ⟨b, o + k * 4 + 2, none⟩ = some (.int .i64 x.lo) ∧ w'.cell? ⟨b, o + k * 4 + 3, none⟩ = some (.int .i64 x.hi)) ∧ w'.cell? ⟨b', o' + k, none⟩ = some (.int .i64 (M : Int)))
          (first | exact HSS.out _ (Below.refl _ _).drew | exact HSS.out _ (Below.refl _ _) | exact HSS.out _ hb5 | assumption)
          ((go_at_call 77; refine (HHT.out _ (Below.refl _ _).drew).mono ?_; rintro e w5 ⟨rfl, hbc⟩; have hb5 := (Below.refl wr.heap.size wr).drew.trans hbc))
        all_goals
          have S5 := HSS.out _ hb5
          obtain ⟨s1, ⟨_, s2, _, _⟩, _⟩ := S5
          have HBX5 := Lib.hid (HBX.out.below hb5 hnlt)
          have HB5 := Lib.hid (below_tr HB2.out hb5)
          clear hb5 hbc
          go_wp2_with fail
          go_roundw
          case rel => exact ⟨k + 1, by omega, by go_num, by rw [HD1.out], HBX5.out, HB5.out⟩
          case measure => simp [intOf] <;> omega
      · rw [if_neg hin, Int.add_zero] at HD1 hbd1
        have hdt : decide (p ∈ x.way.take M) = false := decide_eq_false hin
        rw [hdt] at HHT
        clear hin hdt
        go_wp2_with fail
        go_region_held3 (fun w' => w'.cell? ⟨w.heap.size, 1, none⟩ = some (.slice (some ⟨b, o, none⟩) tn sc) ∧ (w'.cell? ⟨b, o + k * 4, none⟩ = some (.slice x.A x.n x.c) ∧ w'.cell? ⟨b, o + k * 4 + 1, none⟩ = some (.int .i64 x.rate) ∧ w'.cell? ⟨b, o + k * 4 + 2, none⟩ = some (.int .i64 x.lo) ∧ w'.cell? ⟨b, o + k * 4 + 3, none⟩ = some (.int .i64 x.hi)) ∧ w'.cell? ⟨b', o' + k, none⟩ = some (.int .i64 (M : Int)))
          (first | exact HSS.out _ (Below.refl _ _).drew | exact HSS.out _ (Below.refl _ _) | exact HSS.out _ hb5 | assumption)
          ((go_at_call 77; refine (HHT.out _ (Below.refl _ _).drew).mono ?_; rintro e w5 ⟨rfl, hbc⟩; have hb5 := (Below.refl wr.heap.size wr).drew.trans hbc))
        all_goals
          have HBX5 := Lib.hid (HBX.out.below hb5 hnlt)
          have HB5 := Lib.hid (below_tr HB2.out hb5)
          clear hb5 hbc
          go_wp2_with fail
          go_roundw
          case rel => exact ⟨k + 1, by omega, by go_num, by rw [HD1.out], HBX5.out, HB5.out⟩
          case measure => simp [intOf] <;> omega
    · obtain rfl : k = tn := by omega
      clear hbx hb
      go_wp2_with fail
      go_ret
      exact ⟨rfl, HB2.out⟩
end Go.Proofs.Ytphdndiikikecaa
