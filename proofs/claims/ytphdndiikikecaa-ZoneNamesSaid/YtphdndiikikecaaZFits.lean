/- THE EXAMPLES that each law of package zone asks. -/
import Derived.Test.YtphdndiikikecaaZGlen
import Derived.Test.YtphdndiikikecaaZZonesAll
import Derived.BigQuiet
set_option linter.unusedVariables false
set_option linter.unusedSimpArgs false
namespace Go.Proofs.Ytphdndiikikecaa
open Go.RowKit Go.Proofs
attribute [local go_sem ↓] Go.wp_at_zero Go.wp_at_succ

theorem glen_err (a b c : Nat) : errV (glenV a b c) = 0 := by kernel_rfl
theorem glen_ok (a b c : Nat) : VOk (glenV a b c) := errV_zero.1 (glen_err a b c)
theorem glen_low (a b c : Nat) : dangs (glenV a b c) (endsT (glenV a b c) false) = [0, 0, 30, 0] := by kernel_rfl
theorem glen_high (a b c : Nat) : dangs (glenV a b c) (endsT (glenV a b c) true) = [25, 55, 30, 200] := by kernel_rfl
theorem glen_zl (a b c : Nat) : [0, 0, 30, 0].map (zoneOf (glenV a b c)) = [0, 0, 1, 0] := by kernel_rfl
theorem glen_zh (a b c : Nat) : [25, 55, 30, 200].map (zoneOf (glenV a b c)) = [1, 2, 1, 3] := by kernel_rfl
theorem glen_w (a b c : Nat) : wtsL (glenV a b c) = [2500, 11000, 0, 60000] := by kernel_rfl
theorem glen_sh : shareL 1000 [2500, 11000, 0, 60000] = [34, 150, 0, 816] := by kernel_rfl
theorem glen_s0 : ¬ sumL [2500, 11000, 0, 60000] = 0 := by decide
theorem glen_g (a b c : Nat) : gainsL (glenV a b c) = [125, 550, 120, 4000] := by kernel_rfl
theorem glen_p (a b c : Nat) : pricesL (glenV a b c) = [80, 150, 100, 400] := by kernel_rfl
theorem glen_b : (bestB [125, 550, 120, 4000] [80, 150, 100, 400] 500).gain = 4125 ∧ (bestB [125, 550, 120, 4000] [80, 150, 100, 400] 500).set = [0, 3] := ⟨by kernel_rfl, by kernel_rfl⟩
theorem rd_lit4 (W : World) (a b c d : Int) {g : Nat} (hg : g = W.heap.size) : Rd enc1 1 (W.alloc (.cells #[.int .i64 a, .int .i64 b, .int .i64 c, .int .i64 d] 3)) (some ⟨g, 0, none⟩) 4 [a, b, c, d] := by
  subst hg; exact Rd.of_blkE enc1_len (Blk.new W _ _) (by simp [enc1]) rfl
theorem ranges4 {L : List (Int × Int)} {A : Option Addr} {cp : Nat} (a b c d e f g h : Int) (W : World) {p q : Nat} (hp : p = W.heap.size) (hq : q = W.heap.size + 1) (hr : Rd enc2 2 W A 4 L) :
    Calls Try.prog 24 #[.slice A 4 cp, .slice (some ⟨p, 0, none⟩) 4 4, .slice (some ⟨q, 0, none⟩) 4 4] ((W.alloc (.cells #[.int .i64 a, .int .i64 b, .int .i64 c, .int .i64 d] 3)).alloc (.cells #[.int .i64 e, .int .i64 f, .int .i64 g, .int .i64 h] 3))
      fun x w' => x = .returned (.bool (rngB L [a, b, c, d] [e, f, g, h])) ∧ Below W.heap.size W w' := by
  have hb1 : Below W.heap.size W (W.alloc (.cells #[.int .i64 a, .int .i64 b, .int .i64 c, .int .i64 d] 3)) := (Below.refl _ W).alloc (Nat.le_refl _) _
  have hb2 := hb1.alloc hb1.size (.cells #[.int .i64 e, .int .i64 f, .int .i64 g, .int .i64 h] 3)
  refine (rangesL_c (hr.below hb2) ((rd_lit4 W a b c d hp).below ((Below.refl _ _).alloc (Nat.le_refl _) _)) (rd_lit4 _ e f g h (by rw [hq]; simp)) (by omega)).mono ?_
  rintro x w' ⟨rfl, hb⟩
  exact ⟨rfl, hb2.trans (hb.mono hb2.size)⟩
theorem ints4 {L : List Int} {A : Option Addr} {n cp : Nat} (a b c d : Int) (W : World) {p : Nat} (hp : p = W.heap.size) (hr : Rd enc1 1 W A n L) (hn : n ≤ 1000) :
    Calls Try.prog 29 #[.slice A n cp, .slice (some ⟨p, 0, none⟩) 4 4] (W.alloc (.cells #[.int .i64 a, .int .i64 b, .int .i64 c, .int .i64 d] 3))
      fun x w' => x = .returned (.bool (decide (L = [a, b, c, d]))) ∧ Below W.heap.size W w' := by
  have hb1 : Below W.heap.size W (W.alloc (.cells #[.int .i64 a, .int .i64 b, .int .i64 c, .int .i64 d] 3)) := (Below.refl _ W).alloc (Nat.le_refl _) _
  refine (ints_c (hr.below hb1) (rd_lit4 W a b c d hp) (by omega)).mono ?_
  rintro x w' ⟨rfl, hb⟩
  exact ⟨rfl, hb1.trans (hb.mono hb1.size)⟩
theorem ints2 {L : List Int} {A : Option Addr} {n cp : Nat} (a b : Int) (W : World) {p : Nat} (hp : p = W.heap.size) (hr : Rd enc1 1 W A n L) (hn : n ≤ 1000) :
    Calls Try.prog 29 #[.slice A n cp, .slice (some ⟨p, 0, none⟩) 2 2] (W.alloc (.cells #[.int .i64 a, .int .i64 b] 3))
      fun x w' => x = .returned (.bool (decide (L = [a, b]))) ∧ Below W.heap.size W w' := by
  have hb1 : Below W.heap.size W (W.alloc (.cells #[.int .i64 a, .int .i64 b] 3)) := (Below.refl _ W).alloc (Nat.le_refl _) _
  refine (ints_c (hr.below hb1) (rd_two W a b hp) (by omega)).mono ?_
  rintro x w' ⟨rfl, hb⟩
  exact ⟨rfl, hb1.trans (hb.mono hb1.size)⟩
abbrev LZ1 : List (Int × Int) := [(0, 25), (0, 55), (30, 30), (0, 200)]
abbrev LZ2 : List (Int × Int) := [(0, 1), (0, 2), (1, 1), (0, 3)]
theorem rng1 : rngB LZ1 [0, 0, 30, 0] [25, 55, 30, 200] = true := by decide
theorem rng2 : rngB LZ2 [0, 0, 1, 0] [1, 2, 1, 3] = true := by decide
theorem glenZones {a b c p q : Nat} {w : World} (h : RdV w (some ⟨p, 0, none⟩) 4 (some ⟨q, 0, none⟩) 3 (glenV a b c)) :
    Calls Try.prog 19 #[.agg #[.slice (some ⟨p, 0, none⟩) 4 4, .slice (some ⟨q, 0, none⟩) 3 3, .int .i64 10, .int .i64 50, .int .i64 200]] w
      fun e w' => ∃ A1 c1 A2 c2, e = .returned (.tuple #[.slice A1 4 c1, .slice A2 4 c2, .int .i64 0]) ∧ Rd enc2 2 w' A1 4 LZ1 ∧ Rd enc2 2 w' A2 4 LZ2 ∧ Below w.heap.size w w' := by
  refine (Zones_c (pc := 4) (sc := 3) h (glen_ok a b c)).mono ?_
  rintro e w' ⟨A1, c1, A2, c2, rfl, _, _, h1, h2, hb⟩
  rw [glen_low, glen_high] at h1 h2
  rw [glen_zl, glen_zh] at h2
  exact ⟨A1, c1, A2, c2, rfl, h1, h2, hb⟩
theorem glenPrem {a b c p q : Nat} {w : World} (h : RdV w (some ⟨p, 0, none⟩) 4 (some ⟨q, 0, none⟩) 3 (glenV a b c)) :
    Calls Try.prog 25 #[.agg #[.slice (some ⟨p, 0, none⟩) 4 4, .slice (some ⟨q, 0, none⟩) 3 3, .int .i64 10, .int .i64 50, .int .i64 200], .int .i64 1000] w
      fun e w' => ∃ A1 c1, e = .returned (.tuple #[.slice A1 4 c1, .int .i64 0]) ∧ Rd enc1 1 w' A1 4 [34, 150, 0, 816] ∧ Below w.heap.size w w' := by
  refine (Premiums_ok (pc := 4) (sc := 3) (coins := 1000) h (glen_ok a b c) rfl).mono ?_
  rintro e w' ⟨hp, hb⟩
  unfold PremP at hp
  rw [glen_w, if_neg glen_s0, glen_sh] at hp
  obtain ⟨u, rfl, hown⟩ := hp
  obtain ⟨A, c, rfl, _, hr⟩ := Rd.of_own2 hown rfl
  exact ⟨A, c, rfl, hr, hb⟩
theorem glenBuy {a b c p q : Nat} {w : World} (h : RdV w (some ⟨p, 0, none⟩) 4 (some ⟨q, 0, none⟩) 3 (glenV a b c)) :
    Calls Try.prog 33 #[.agg #[.slice (some ⟨p, 0, none⟩) 4 4, .slice (some ⟨q, 0, none⟩) 3 3, .int .i64 10, .int .i64 50, .int .i64 200], .int .i64 500] w
      fun e w' => ∃ A1 c1, e = .returned (.tuple #[.slice A1 2 c1, .int .i64 4125, .int .i64 0]) ∧ Rd enc1 1 w' A1 2 [0, 3] ∧ Below w.heap.size w w' := by
  refine (Buy_ok (pc := 4) (sc := 3) (B := 500) h (glen_ok a b c) rfl).mono ?_
  rintro e w' ⟨A, n, c', rfl, _, hr, hb⟩
  rw [glen_g, glen_p, glen_b.1, glen_b.2] at *
  have hn := hr.len
  simp at hn
  subst hn
  exact ⟨A, c', rfl, hr, hb⟩

set_option maxRecDepth 100000 in
set_option maxHeartbeats 2000000 in
theorem wakes_ok (w : World) : Calls Try.prog 18 #[] w fun e w' => e = .returned (.bool true) ∧ Below w.heap.size w w' := by
  go_enter Try.func18, Try.ntmps18
  go_wp2_with fail
  refine (glen_c _).mono ?_
  rintro e w1 ⟨p, q, a, b, c, rfl, hv, hb1⟩
  have HB1 := Lib.hid hb1
  have HZ := Lib.hid (glenZones hv)
  clear hb1 hv
  go_wp2_with fail
  refine HZ.out.mono ?_
  rintro e w2 ⟨A1, c1, A2, c2, rfl, h1, h2, hb⟩
  have HB2 := Lib.hid (below_tr HB1.out hb)
  have HR1 := Lib.hid h1; have HR2 := Lib.hid h2
  clear hb h1 h2 HB1 HZ
  go_wp2_with fail
  refine (glen_c _).mono ?_
  rintro e w3 ⟨p, q, a, b, c, rfl, hv, hb⟩
  have HB3 := Lib.hid (below_tr HB2.out hb)
  have HR3 := Lib.hid (HR1.out.below hb); have HR4 := Lib.hid (HR2.out.below hb)
  have HP := Lib.hid (glenPrem hv)
  clear hb hv HR1 HR2 HB2
  go_wp2_with fail
  refine HP.out.mono ?_
  rintro e w4 ⟨A3, c3, rfl, h3, hb⟩
  have HB4 := Lib.hid (below_tr HB3.out hb)
  have HR5 := Lib.hid (HR3.out.below hb); have HR6 := Lib.hid (HR4.out.below hb); have HS5 := Lib.hid h3
  clear hb h3 HR3 HR4 HB3 HP
  go_wp2_with fail
  refine (glen_c _).mono ?_
  rintro e w5 ⟨p, q, a, b, c, rfl, hv, hb⟩
  have HB5 := Lib.hid (below_tr HB4.out hb)
  have HR7 := Lib.hid (HR5.out.below hb); have HR8 := Lib.hid (HR6.out.below hb); have HS7 := Lib.hid (HS5.out.below hb)
  have HBY := Lib.hid (glenBuy hv)
  clear hb hv HR5 HR6 HB4 HS5
  go_wp2_with fail
  refine HBY.out.mono ?_
  rintro e w6 ⟨A4, c4, rfl, h4, hb⟩
  have HB6 := Lib.hid (below_tr HB5.out hb)
  have HR9 := Lib.hid (HR7.out.below hb); have HRA := Lib.hid (HR8.out.below hb); have HS9 := Lib.hid (HS7.out.below hb); have HT9 := Lib.hid h4
  clear hb h4 HR7 HR8 HB5 HS7 HBY
  go_wp2_with fail
  refine (ranges4 0 0 30 0 25 55 30 200 w6 rfl rfl HR9.out).mono ?_
  rw [rng1]
  rintro e w7 ⟨rfl, hb⟩
  have HB7 := Lib.hid (below_tr HB6.out hb)
  have HRB := Lib.hid (HRA.out.below hb); have HSA := Lib.hid (HS9.out.below hb); have HTA := Lib.hid (HT9.out.below hb)
  clear hb HR9 HRA HS9 HT9 HB6
  go_wp2_with fail
  refine (ranges4 0 0 1 0 1 2 1 3 w7 rfl rfl HRB.out).mono ?_
  rw [rng2]
  rintro e w8 ⟨rfl, hb⟩
  have HB8 := Lib.hid (below_tr HB7.out hb)
  have HSB := Lib.hid (HSA.out.below hb); have HTB := Lib.hid (HTA.out.below hb)
  clear hb HRB HSA HTA HB7
  go_wp2_with fail
  refine (ints4 34 150 0 816 w8 rfl HSB.out (by omega)).mono ?_
  rw [decide_eq_true rfl]
  rintro e w9 ⟨rfl, hb⟩
  have HB9 := Lib.hid (below_tr HB8.out hb)
  have HTC := Lib.hid (HTB.out.below hb)
  clear hb HSB HTB HB8
  go_wp2_with fail
  refine (ints2 0 3 w9 rfl HTC.out (by omega)).mono ?_
  rw [decide_eq_true rfl]
  rintro e wA ⟨rfl, hb⟩
  have HBA := Lib.hid (below_tr HB9.out hb)
  clear hb HTC HB9
  go_wp2_with fail
  go_ret
  exact ⟨rfl, HBA.out⟩
end Go.Proofs.Ytphdndiikikecaa

namespace Go.Proofs.Ytphdndiikikecaa
open Go.RowKit Go.Proofs
attribute [local go_sem ↓] Go.wp_at_zero Go.wp_at_succ

def fitTo (v : Vly) (tr : List Int) (k : Nat) : Prop := ∀ (j : Nat) (s : Sli) (m : Int), j < k → v.sls[j]? = some s → tr[j]? = some m → s.lo ≤ m ∧ m ≤ s.hi
theorem fitTo_succ {v : Vly} {tr : List Int} {k : Nat} {s : Sli} {m : Int} (h : fitTo v tr k) (hs : v.sls[k]? = some s) (hm : tr[k]? = some m) (hb : s.lo ≤ m ∧ m ≤ s.hi) : fitTo v tr (k + 1) := fun j s' m' hj hs' hm' => by
  by_cases hjk : j = k
  · subst hjk; rw [hs] at hs'; rw [hm] at hm'; cases hs'; cases hm'; exact hb
  · exact h j s' m' (by omega) hs' hm'
theorem fitTo_all {v : Vly} {tr : List Int} (hl : tr.length = v.sls.length) (h : fitTo v tr v.sls.length) : Fits v tr := ⟨hl, fun k s m hs hm => h k s m (lt_of_get hs) hs hm⟩

set_option maxRecDepth 100000 in
set_option maxHeartbeats 1000000 in
theorem Fits_c {v : Vly} {tr : List Int} {PA SA TA : Option Addr} {pn pc sn sc tn tc : Nat} {w : World} (h : RdV w PA pn SA sn v) (hT : Rd enc1 1 w TA tn tr) (hsn : sn ≤ maxLen) (htn : tn ≤ maxLen) :
    Calls Try.prog 42 #[.agg #[.slice PA pn pc, .slice SA sn sc, .int .i64 v.s0, .int .i64 v.s1, .int .i64 v.s2], .slice TA tn tc] w fun e w' => ∃ b, e = .returned (.bool b) ∧ (b = true ↔ Fits v tr) ∧ Below w.heap.size w w' := by
  have hls := h.sls.len
  have htl := hT.len
  have hb0 : Below w.heap.size w (w.alloc (.cells #[.slice PA pn pc, .slice SA sn sc, .int .i64 v.s0, .int .i64 v.s1, .int .i64 v.s2] 26)) := (Below.refl _ w).alloc (Nat.le_refl _) _
  have HB := Lib.hid hb0
  have HX := Lib.hid (Blk.new w 26 #[.slice PA pn pc, .slice SA sn sc, .int .i64 v.s0, .int .i64 v.s1, .int .i64 v.s2])
  have HV := Lib.hid h; have HT := Lib.hid hT
  unfold maxLen at hsn htn
  by_cases hlen : tn = sn
  · subst hlen
    have HL := Lib.hid (show tr.length = v.sls.length by omega)
    have HLS := Lib.hid hls
    clear h hT hb0 hls htl
    go_enter Try.func42, Try.ntmps42
    go_wp2_with fail
    go_loopw [5] (fun i wr => ∃ k : Nat, k ≤ tn ∧ i = .int .i64 k ∧ fitTo v tr k ∧ Blk wr w.heap.size 26 #[.slice PA pn pc, .slice SA tn sc, .int .i64 v.s0, .int .i64 v.s1, .int .i64 v.s2] ∧ Below w.heap.size w wr) (fun i _ => tn - (intOf i).toNat)
    case atStart => exact ⟨0, Nat.zero_le _, rfl, fun j s m hj => by omega, HX.out, HB.out⟩
    case round =>
      obtain ⟨k, hk, rfl, hft, hbx, hb⟩ := hrel
      have HBX := Lib.hid hbx; have HB2 := Lib.hid hb; have HF := Lib.hid hft
      by_cases hlt : k < tn
      · obtain ⟨b, o, x, hA, hblt, hx, h0, h1, h2, h3⟩ := (HV.out.sls.below hb).atS hlt
        obtain ⟨b', o', m, hA', hblt', hm, h4⟩ := (HT.out.below hb).at1 hlt
        subst hA hA'
        have c1 := hbx.cell 1
        simp at c1
        have hkn : (k : Int) < (tn : Int) := by omega
        have hk0 : (0 : Int) ≤ (k : Int) := by omega
        have HIN := Lib.hid (fun W => In_c m x.lo x.hi W)
        have HSX := Lib.hid hx; have HSM := Lib.hid hm
        clear hx hm hbx hb hft
        cases hin : inB m x.lo x.hi
        · simp only [hin] at HIN
          have hno := inB_not.1 hin
          have HNO := Lib.hid (show ¬ Fits v tr from fun hf => by have := hf.2 k x m HSX.out HSM.out; omega)
          clear hin hno
          go_wp2_with fail
          go_quiet ((go_at_call 26; (first | exact quiet_left (HIN.out _) | exact quiet_add_left (HIN.out _))))
          go_wp2_with fail
          go_ret
          exact ⟨false, rfl, ⟨(fun h => by cases h), fun h => absurd h HNO.out⟩, below_drewN HB2.out _⟩
        · simp only [hin] at HIN
          have HNX := Lib.hid (fitTo_succ HF.out HSX.out HSM.out (inB_iff.1 hin))
          clear hin
          go_wp2_with fail
          go_quiet ((go_at_call 26; (first | exact quiet_left (HIN.out _) | exact quiet_add_left (HIN.out _))))
          go_wp2_with fail
          go_roundw
          case rel => exact ⟨k + 1, by omega, by go_num, HNX.out, Blk.drewN HBX.out _, below_drewN HB2.out _⟩
          case measure => simp [intOf] <;> omega
      · obtain rfl : k = tn := by omega
        have c1 := hbx.cell 1
        simp at c1
        have HFA := Lib.hid (fitTo_all HL.out (by rw [HLS.out]; exact hft))
        clear hbx hb hft
        go_wp2_with fail
        go_ret
        exact ⟨true, rfl, ⟨fun _ => HFA.out, fun _ => rfl⟩, HB2.out⟩
  · have HNO := Lib.hid (show ¬ Fits v tr from fun hf => by have := hf.1; omega)
    have hne : ¬ (tn : Int) = (sn : Int) := by omega
    have hne2 : ((tn : Int) == (sn : Int)) = false := by rw [beq_eq_false_iff_ne]; omega
    clear h hT hb0 hls htl
    go_enter Try.func42, Try.ntmps42
    go_wp2_with fail
    go_ret
    exact ⟨false, rfl, ⟨(fun h => by cases h), fun h => absurd h HNO.out⟩, HB.out⟩
end Go.Proofs.Ytphdndiikikecaa
