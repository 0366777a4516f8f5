/- THE CONTRACT of the reference's Fault where it answers early. -/
import Derived.Test.YtphdndiikikecaaZVal
import Derived.Deep.DeepCutAuto
set_option linter.unusedVariables false
set_option linter.unusedSimpArgs false
namespace Go.Proofs.Ytphdndiikikecaa
open Go.RowKit Go.Proofs
attribute [local go_sem ↓] Go.wp_at_zero Go.wp_at_succ

theorem errV_one {v : Vly} (h : v.sls.length ≤ 10) (hb : (inB v.pars.length 1 12 && allB parOk v.pars && allB (sliOk v.pars.length) v.sls && stepsOk v.s0 v.s1 v.s2) = false) : errV v = 1 := by rw [errV_of h, hb]; rfl
theorem errV_nil {v : Vly} (h : v.sls.length ≤ 10) (h1 : inB v.pars.length 1 12 = true) (h2 : allB parOk v.pars = true) (h3 : allB (sliOk v.pars.length) v.sls = true) (h4 : stepsOk v.s0 v.s1 v.s2 = true) : errV v = 0 := by rw [errV_of h, h1, h2, h3, h4]; rfl
theorem errV_par {v : Vly} (h : v.sls.length ≤ 10) {i : Nat} {p : Par} (hp : v.pars[i]? = some p) (hb : parOk p = false) : errV v = 1 := errV_one h (by rw [allB_not.2 ⟨i, p, hp, hb⟩]; simp)
theorem errV_sli {v : Vly} (h : v.sls.length ≤ 10) {i : Nat} {s : Sli} (hp : v.sls[i]? = some s) (hb : sliOk v.pars.length s = false) : errV v = 1 := errV_one h (by rw [allB_not.2 ⟨i, s, hp, hb⟩]; simp)

set_option maxRecDepth 100000 in
set_option maxHeartbeats 2000000 in
theorem Fault_early {v : Vly} {PA SA : Option Addr} {pn pc sn sc : Nat} {w : World} (h : RdV w PA pn SA sn v) (hpn : pn ≤ maxLen) (hsn : sn ≤ maxLen) (hbad : 10 < sn ∨ inB (pn : Int) 1 12 = false ∨ stepsOk v.s0 v.s1 v.s2 = false) :
    Calls Try.prog 34 #[.agg #[.slice PA pn pc, .slice SA sn sc, .int .i64 v.s0, .int .i64 v.s1, .int .i64 v.s2]] w fun e w' => e = .returned (.int .i64 (errV v)) ∧ Below w.heap.size w w' := by
  have hlp := h.pars.len; have hls := h.sls.len
  have HV := Lib.hid h
  unfold maxLen at hsn hpn
  obtain ⟨R, hR⟩ : ∃ R, R = errV v := ⟨_, rfl⟩
  rw [← hR]
  have HR := Lib.hid hR
  have hb0 : Below w.heap.size w (w.alloc (.cells (vA PA pn pc SA sn sc v) 26)) := (Below.refl _ w).alloc (Nat.le_refl _) _
  have HB := Lib.hid hb0
  have HX := Lib.hid (Blk.new w 26 (vA PA pn pc SA sn sc v))
  clear h hR hb0
  by_cases h10 : 10 < sn
  · have h10' : (10 : Int) < (sn : Int) := by omega
    have HF := Lib.hid (errV_big (v := v) (by omega))
    go_enter Try.func34, Try.ntmps34
    go_wp2_with fail
    go_ret
    exact ⟨ret_int (by rw [HR.out, HF.out]), HB.out⟩
  · have h10' : ¬ (10 : Int) < (sn : Int) := by omega
    have hsl : v.sls.length ≤ 10 := by omega
    have HIN := Lib.hid (fun W => In_c (pn : Int) 1 12 W)
    cases hin : inB (pn : Int) 1 12
    · rw [hin] at HIN
      have HF := Lib.hid (errV_one hsl (by rw [hlp, hin]; rfl))
      clear hin
      go_enter Try.func34, Try.ntmps34
      go_wp2_with (go_at_call 26; refine (HIN.out _).mono ?_; rintro e w' ⟨rfl, rfl⟩)
      go_ret
      exact ⟨ret_int (by rw [HR.out, HF.out]), HB.out⟩
    · rw [hin] at HIN
      have hpn12 := inB_iff.1 hin
      cases hst : stepsOk v.s0 v.s1 v.s2
      · have HF := Lib.hid (errV_one hsl (by rw [hst]; simp))
        have hno : v.s0 < 1 ∨ (1 ≤ v.s0 ∧ v.s1 ≤ v.s0) ∨ (1 ≤ v.s0 ∧ v.s0 < v.s1 ∧ v.s2 ≤ v.s1) ∨ (1 ≤ v.s0 ∧ v.s0 < v.s1 ∧ v.s1 < v.s2 ∧ 10000 < v.s2) := by
          have : ¬ (1 ≤ v.s0 ∧ v.s0 < v.s1 ∧ v.s1 < v.s2 ∧ v.s2 ≤ 10000) := by rw [← stepsOk_iff, hst]; simp
          omega
        clear hin hst
        rcases hno with g1 | ⟨g1, g2⟩ | ⟨g1, g2, g3⟩ | ⟨g1, g2, g3, g4⟩
        · go_enter Try.func34, Try.ntmps34
          go_wp2_with (go_at_call 26; refine (HIN.out _).mono ?_; rintro e w' ⟨rfl, rfl⟩)
          go_ret
          exact ⟨ret_int (by rw [HR.out, HF.out]), HB.out⟩
        · have k1 : ¬ v.s0 < 1 := by omega
          go_enter Try.func34, Try.ntmps34
          go_wp2_with (go_at_call 26; refine (HIN.out _).mono ?_; rintro e w' ⟨rfl, rfl⟩)
          go_ret
          exact ⟨ret_int (by rw [HR.out, HF.out]), HB.out⟩
        · have k1 : ¬ v.s0 < 1 := by omega
          have k2 : ¬ v.s1 ≤ v.s0 := by omega
          go_enter Try.func34, Try.ntmps34
          go_wp2_with (go_at_call 26; refine (HIN.out _).mono ?_; rintro e w' ⟨rfl, rfl⟩)
          go_ret
          exact ⟨ret_int (by rw [HR.out, HF.out]), HB.out⟩
        · have k1 : ¬ v.s0 < 1 := by omega
          have k2 : ¬ v.s1 ≤ v.s0 := by omega
          have k3 : ¬ v.s2 ≤ v.s1 := by omega
          go_enter Try.func34, Try.ntmps34
          go_wp2_with (go_at_call 26; refine (HIN.out _).mono ?_; rintro e w' ⟨rfl, rfl⟩)
          go_ret
          exact ⟨ret_int (by rw [HR.out, HF.out]), HB.out⟩
      · rcases hbad with h1 | h1 | h1
        · omega
        · rw [hin] at h1; cases h1
        · rw [hst] at h1; cases h1

end Go.Proofs.Ytphdndiikikecaa
