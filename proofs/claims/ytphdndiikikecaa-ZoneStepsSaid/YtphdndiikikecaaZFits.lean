/- CONTRACT of the reference's Fits. -/
import Derived.Test.YtphdndiikikecaaZZonesAll
import Derived.BigQuiet
namespace Go.Proofs.Ytphdndiikikecaa
open Go.RowKit Go.Proofs
attribute [local go_sem ↓] Go.wp_at_zero Go.wp_at_succ

def fitTo (v : Vly) (tr : List Int) (k : Nat) : Prop := ∀ (j : Nat) (s : Sli) (m : Int), j < k → v.sls[j]? = some s → tr[j]? = some m → s.lo ≤ m ∧ m ≤ s.hi
theorem fitTo_succ {v : Vly} {tr : List Int} {k : Nat} {s : Sli} {m : Int} (h : fitTo v tr k) (hs : v.sls[k]? = some s) (hm : tr[k]? = some m) (hb : s.lo ≤ m ∧ m ≤ s.hi) : fitTo v tr (k + 1) := fun j s' m' hj hs' hm' => by
  by_cases hjk : j = k
  · subst hjk; rw [hs] at hs'; rw [hm] at hm'; cases hs'; cases hm'; exact hb
  · exact h j s' m' (by omega) hs' hm'
theorem fitTo_all {v : Vly} {tr : List Int} (hl : tr.length = v.sls.length) (h : fitTo v tr v.sls.length) : Fits v tr := ⟨hl, fun k s m hs hm => h k s m (lt_of_get hs) hs hm⟩

set_option maxRecDepth 100000 in
set_option maxHeartbeats 1000000 in
theorem Fits_c {v : Vly} {tr : List Int} {PA SA TA : Option Addr} {pn pc sn sc tn tc : Nat} {w : World} (h : RdV w PA pn SA sn v) (hT : Rd enc1 1 w TA tn tr) (hsn : sn ≤ maxLen) (htn : tn ≤ maxLen) :
    Calls Try.prog 42 #[.agg #[.slice PA pn pc, .slice SA sn sc, .int .i64 v.s0, .int .i64 v.s1, .int .i64 v.s2], .slice TA tn tc] w fun e w' => ∃ b, e = .returned (.bool b) ∧ (b = true ↔ Fits v tr) ∧ Below w.heap.size w w' := by
  have hls := h.sls.len
  have htl := hT.len
  have hb0 : Below w.heap.size w (w.alloc (.cells #[.slice PA pn pc, .slice SA sn sc, .int .i64 v.s0, .int .i64 v.s1, .int .i64 v.s2] 26)) := (Below.refl _ w).alloc (Nat.le_refl _) _
  have HB := Lib.hid hb0
  have HX := Lib.hid (Blk.new w 26 #[.slice PA pn pc, .slice SA sn sc, .int .i64 v.s0, .int .i64 v.s1, .int .i64 v.s2])
  have HV := Lib.hid h; have HT := Lib.hid hT
  unfold maxLen at hsn htn
  by_cases hlen : tn = sn
  · subst hlen
    have HL := Lib.hid (show tr.length = v.sls.length by omega)
    have HLS := Lib.hid hls
    clear h hT hb0 hls htl
    go_enter Try.func42, Try.ntmps42
    go_wp2_with fail
    go_loopw [5] (fun i wr => ∃ k : Nat, k ≤ tn ∧ i = .int .i64 k ∧ fitTo v tr k ∧ Blk wr w.heap.size 26 #[.slice PA pn pc, .slice SA tn sc, .int .i64 v.s0, .int .i64 v.s1, .int .i64 v.s2] ∧ Below w.heap.size w wr) (fun i _ => tn - (intOf i).toNat)
    case atStart => exact ⟨0, Nat.zero_le _, rfl, fun j s m hj => by omega, HX.out, HB.out⟩
    case round =>
      obtain ⟨k, hk, rfl, hft, hbx, hb⟩ := hrel
      have HBX := Lib.hid hbx; have HB2 := Lib.hid hb; have HF := Lib.hid hft
      by_cases hlt : k < tn
      · obtain ⟨b, o, x, hA, hblt, hx, h0, h1, h2, h3⟩ := (HV.out.sls.below hb).atS hlt
        obtain ⟨b', o', m, hA', hblt', hm, h4⟩ := (HT.out.below hb).at1 hlt
        subst hA hA'
        have c1 := hbx.cell 1
        simp at c1
        have hkn : (k : Int) < (tn : Int) := by omega
        have hk0 : (0 : Int) ≤ (k : Int) := by omega
        have HIN := Lib.hid (fun W => In_c m x.lo x.hi W)
        have HSX := Lib.hid hx; have HSM := Lib.hid hm
        clear hx hm hbx hb hft
        cases hin : inB m x.lo x.hi
        · simp only [hin] at HIN
          have hno := inB_not.1 hin
          have HNO := Lib.hid (show ¬ Fits v tr from fun hf => by have := hf.2 k x m HSX.out HSM.out; omega)
          clear hin hno
          go_wp2_with fail
          go_quiet ((go_at_call 26; (first | exact quiet_left (HIN.out _) | exact quiet_add_left (HIN.out _))))
          go_wp2_with fail
          go_ret
          exact ⟨false, rfl, ⟨(fun h => by cases h), fun h => absurd h HNO.out⟩, below_drewN HB2.out _⟩
        · simp only [hin] at HIN
          have HNX := Lib.hid (fitTo_succ HF.out HSX.out HSM.out (inB_iff.1 hin))
          clear hin
          go_wp2_with fail
          go_quiet ((go_at_call 26; (first | exact quiet_left (HIN.out _) | exact quiet_add_left (HIN.out _))))
          go_wp2_with fail
          go_roundw
          case rel => exact ⟨k + 1, by omega, by go_num, HNX.out, Blk.drewN HBX.out _, below_drewN HB2.out _⟩
          case measure => simp [intOf] <;> omega
      · obtain rfl : k = tn := by omega
        have c1 := hbx.cell 1
        simp at c1
        have HFA := Lib.hid (fitTo_all HL.out (by rw [HLS.out]; exact hft))
        clear hbx hb hft
        go_wp2_with fail
        go_ret
        exact ⟨true, rfl, ⟨fun _ => HFA.out, fun _ => rfl⟩, HB2.out⟩
  · have HNO := Lib.hid (show ¬ Fits v tr from fun hf => by have := hf.1; omega)
    have hne : ¬ (tn : Int) = (sn : Int) := by omega
    have hne2 : ((tn : Int) == (sn : Int)) = false := by rw [beq_eq_false_iff_ne]; omega
    clear h hT hb0 hls htl
    go_enter Try.func42, Try.ntmps42
    go_wp2_with fail
    go_ret
    exact ⟨false, rfl, ⟨(fun h => by cases h), fun h => absurd h HNO.out⟩, HB.out⟩
end Go.Proofs.Ytphdndiikikecaa
