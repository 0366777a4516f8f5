/- THE CONTRACT of the law's Thin. -/
import Derived.Test.YtphdndiikikecaaZRef5
namespace Go.Proofs.Ytphdndiikikecaa
open Go.RowKit Go.Proofs

/-- at most 15 parcels, 12 slides with a way of 15 -/
def thinB (v : Vly) : Bool := v.sls.all (fun s => decide (s.way.length ≤ 15)) && (decide (v.pars.length ≤ 15) && decide (v.sls.length ≤ 12))
theorem thinB_iff {v : Vly} : thinB v = true ↔ (∀ s ∈ v.sls, s.way.length ≤ 15) ∧ v.pars.length ≤ 15 ∧ v.sls.length ≤ 12 := by simp [thinB]
set_option maxRecDepth 100000 in
set_option maxHeartbeats 1000000 in
theorem Thin_c {v : Vly} {PA SA : Option Addr} {pn pc sn sc : Nat} {w : World} (h : RdV w PA pn SA sn v) (hsn : sn ≤ maxLen) :
    Calls Try.prog 17 #[.agg #[.slice PA pn pc, .slice SA sn sc, .int .i64 v.s0, .int .i64 v.s1, .int .i64 v.s2]] w fun e w' => e = .returned (.bool (thinB v)) ∧ Below w.heap.size w w' := by
  have HLP := Lib.hid h.pars.len; have HLS := Lib.hid h.sls.len
  have HV := Lib.hid h
  unfold maxLen at hsn
  obtain ⟨R, hR⟩ : ∃ R, R = thinB v := ⟨_, rfl⟩
  rw [← hR]
  have HR := Lib.hid hR
  have hb0 : Below w.heap.size w (w.alloc (.cells (vA PA pn pc SA sn sc v) 26)) := (Below.refl _ w).alloc (Nat.le_refl _) _
  have HB := Lib.hid hb0
  have HX := Lib.hid (Blk.new w 26 (vA PA pn pc SA sn sc v))
  clear h hR hb0
  go_enter Try.func17, Try.ntmps17
  go_wp2_with fail
  go_loopw [3] (fun i wr => ∃ k : Nat, k ≤ sn ∧ k ≤ 13 ∧ i = .int .i64 k ∧ (∀ (j : Nat) (s : Sli), j < k → v.sls[j]? = some s → s.way.length ≤ 15) ∧ wr = w.alloc (.cells (vA PA pn pc SA sn sc v) 26)) (fun i _ => sn - (intOf i).toNat)
  case atStart => exact ⟨0, Nat.zero_le _, by omega, rfl, fun j s hj => absurd hj (by omega), rfl⟩
  case round =>
    obtain ⟨k, hk, hk13, rfl, hall, rfl⟩ := hrel
    have HA := Lib.hid hall; clear hall
    by_cases hlt : k < sn
    · have hkn : (k : Int) < (sn : Int) := by omega
      by_cases h12 : 12 < k
      · have h12' : (12 : Int) < (k : Int) := by omega
        have hf : thinB v = false := by
          rw [← Bool.not_eq_true, thinB_iff]; intro hh; have := HLS.out; omega
        have HF := Lib.hid hf; clear hf
        go_wp2_with fail
        go_ret
        exact ⟨ret_bool (by rw [HR.out, HF.out]), HB.out⟩
      · have h12' : ¬ (12 : Int) < (k : Int) := by omega
        obtain ⟨b, o, x, hA, hblt, hx, h0, h1, h2, h3⟩ := (HV.out.below HB.out).sls.atS hlt
        subst hA
        have hk0 : (0 : Int) ≤ (k : Int) := by omega
        have hxl := (HV.out.way k x hx).1.len
        have HXX := Lib.hid hx
        have HXL := Lib.hid hxl
        clear hx hxl
        by_cases h15 : 15 < x.n
        · have h15' : (15 : Int) < (x.n : Int) := by omega
          have hf : thinB v = false := by
            rw [← Bool.not_eq_true, thinB_iff]; intro hh
            have := hh.1 x (List.mem_of_getElem? HXX.out)
            have := HXL.out; omega
          have HF := Lib.hid hf; clear hf
          go_wp2_with fail
          go_ret
          exact ⟨ret_bool (by rw [HR.out, HF.out]), HB.out⟩
        · have h15' : ¬ (15 : Int) < (x.n : Int) := by omega
          have HA2 := Lib.hid (show ∀ (j : Nat) (s : Sli), j < k + 1 → v.sls[j]? = some s → s.way.length ≤ 15 from fun j s hj hs => by
            rcases Nat.lt_or_ge j k with h' | h'
            · exact HA.out j s h' hs
            · obtain rfl : j = k := by omega
              rw [HXX.out] at hs; cases hs; have := HXL.out; omega)
          go_wp2_with fail
          go_roundw
          case rel => exact ⟨k + 1, by omega, by omega, by go_num, HA2.out, trivial⟩
          case measure => simp [intOf] <;> omega
    · obtain rfl : k = sn := by omega
      have hfin : thinB v = (decide (pn ≤ 15) && decide (k ≤ 12)) := by
        unfold thinB
        rw [HLP.out, HLS.out, List.all_eq_true.2 (fun s hs => by
          obtain ⟨j, hj⟩ := List.getElem?_of_mem hs
          have := HA.out j s (by have := lt_of_get hj; have := HLS.out; omega) hj
          simpa using this)]
        rfl
      have HFN := Lib.hid hfin; clear hfin
      by_cases hp : pn ≤ 15
      · have hp' : (pn : Int) ≤ 15 := by omega
        by_cases hs12 : k ≤ 12
        · have hs' : (k : Int) ≤ 12 := by omega
          have HF2 := Lib.hid (show thinB v = true by rw [HFN.out, decide_eq_true hp, decide_eq_true hs12]; rfl)
          go_wp2_with fail
          go_ret
          exact ⟨ret_bool (by rw [HR.out, HF2.out]), HB.out⟩
        · have hs' : ¬ (k : Int) ≤ 12 := by omega
          have HF2 := Lib.hid (show thinB v = false by rw [HFN.out, decide_eq_false hs12, Bool.and_false])
          go_wp2_with fail
          go_ret
          exact ⟨ret_bool (by rw [HR.out, HF2.out]), HB.out⟩
      · have hp' : ¬ (pn : Int) ≤ 15 := by omega
        have HF2 := Lib.hid (show thinB v = false by rw [HFN.out, decide_eq_false hp]; rfl)
        go_wp2_with fail
        go_ret
        exact ⟨ret_bool (by rw [HR.out, HF2.out]), HB.out⟩
end Go.Proofs.Ytphdndiikikecaa
