/- THE CONTRACT of the law's Thin. -/
import Derived.Test.YtphdndiikikecaaZRef5
import Derived.Deep.RegionHeld3
set_option linter.unusedVariables false
set_option linter.unusedSimpArgs false
namespace Go.Proofs.Ytphdndiikikecaa
open Go.RowKit Go.Proofs

/-- at most 15 parcels, 12 slides with a way of 15 -/
def thinB (v : Vly) : Bool := v.sls.all (fun s => decide (s.way.length ≤ 15)) && (decide (v.pars.length ≤ 15) && decide (v.sls.length ≤ 12))
theorem thinB_iff {v : Vly} : thinB v = true ↔ (∀ s ∈ v.sls, s.way.length ≤ 15) ∧ v.pars.length ≤ 15 ∧ v.sls.length ≤ 12 := by simp [thinB]
set_option maxRecDepth 100000 in
set_option maxHeartbeats 1000000 in
theorem Thin_c {v : Vly} {PA SA : Option Addr} {pn pc sn sc : Nat} {w : World} (h : RdV w PA pn SA sn v) (hsn : sn ≤ maxLen) :
    Calls Try.prog 17 #[.agg #[.slice PA pn pc, .slice SA sn sc, .int .i64 v.s0, .int .i64 v.s1, .int .i64 v.s2]] w fun e w' => e = .returned (.bool (thinB v)) ∧ Below w.heap.size w w' := by
  have HLP := Lib.hid h.pars.len; have HLS := Lib.hid h.sls.len
  have HV := Lib.hid h
  unfold maxLen at hsn
  obtain ⟨R, hR⟩ : ∃ R, R = thinB v := ⟨_, rfl⟩
  rw [← hR]
  have HR := Lib.hid hR
  have hb0 : Below w.heap.size w (w.alloc (.cells (vA PA pn pc SA sn sc v) 26)) := (Below.refl _ w).alloc (Nat.le_refl _) _
  have HB := Lib.hid hb0
  have HX := Lib.hid (Blk.new w 26 (vA PA pn pc SA sn sc v))
  clear h hR hb0
  go_enter Try.func17, Try.ntmps17
  go_wp2_with fail
  go_loopw [3] (fun i wr => ∃ k : Nat, k ≤ sn ∧ k ≤ 13 ∧ i = .int .i64 k ∧ (∀ (j : Nat) (s : Sli), j < k → v.sls[j]? = some s → s.way.length ≤ 15) ∧ wr = w.alloc (.cells (vA PA pn pc SA sn sc v) 26)) (fun i _ => sn - (intOf i).toNat)
  case atStart => exact ⟨0, Nat.zero_le _, by omega, rfl, fun j s hj => absurd hj (by omega), rfl⟩
  case round =>
    obtain ⟨k, hk, hk13, rfl, hall, rfl⟩ := hrel
    have HA := Lib.hid hall; clear hall
    by_cases hlt : k < sn
    · have hkn : (k : Int) < (sn : Int) := by omega
      by_cases h12 : 12 < k
      · have h12' : (12 : Int) < (k : Int) := by omega
        have hf : thinB v = false := by
          rw [← Bool.not_eq_true, thinB_iff]; intro hh; have := HLS.out; omega
        have HF := Lib.hid hf; clear hf
        go_wp2_with fail
        go_ret
        exact ⟨ret_bool (by rw [HR.out, HF.out]), HB.out⟩
      · have h12' : ¬ (12 : Int) < (k : Int) := by omega
        obtain ⟨b, o, x, hA, hblt, hx, h0, h1, h2, h3⟩ := (HV.out.below HB.out).sls.atS hlt
        subst hA
        have hk0 : (0 : Int) ≤ (k : Int) := by omega
        have hxl := (HV.out.way k x hx).1.len
        have HXX := Lib.hid hx
        have HXL := Lib.hid hxl
        clear hx hxl
        by_cases h15 : 15 < x.n
        · have h15' : (15 : Int) < (x.n : Int) := by omega
          have hf : thinB v = false := by
            rw [← Bool.not_eq_true, thinB_iff]; intro hh
            have := hh.1 x (List.mem_of_getElem? HXX.out)
            have := HXL.out; omega
          have HF := Lib.hid hf; clear hf
          go_wp2_with fail
          go_ret
          exact ⟨ret_bool (by rw [HR.out, HF.out]), HB.out⟩
        · have h15' : ¬ (15 : Int) < (x.n : Int) := by omega
          have HA2 := Lib.hid (show ∀ (j : Nat) (s : Sli), j < k + 1 → v.sls[j]? = some s → s.way.length ≤ 15 from fun j s hj hs => by
            rcases Nat.lt_or_ge j k with h' | h'
            · exact HA.out j s h' hs
            · obtain rfl : j = k := by omega
              rw [HXX.out] at hs; cases hs; have := HXL.out; omega)
          go_wp2_with fail
          go_roundw
          case rel => exact ⟨k + 1, by omega, by omega, by go_num, HA2.out, trivial⟩
          case measure => simp [intOf] <;> omega
    · obtain rfl : k = sn := by omega
      have hfin : thinB v = (decide (pn ≤ 15) && decide (k ≤ 12)) := by
        unfold thinB
        rw [HLP.out, HLS.out, List.all_eq_true.2 (fun s hs => by
          obtain ⟨j, hj⟩ := List.getElem?_of_mem hs
          have := HA.out j s (by have := lt_of_get hj; have := HLS.out; omega) hj
          simpa using this)]
        rfl
      have HFN := Lib.hid hfin; clear hfin
      by_cases hp : pn ≤ 15
      · have hp' : (pn : Int) ≤ 15 := by omega
        by_cases hs12 : k ≤ 12
        · have hs' : (k : Int) ≤ 12 := by omega
          have HF2 := Lib.hid (show thinB v = true by rw [HFN.out, decide_eq_true hp, decide_eq_true hs12]; rfl)
          go_wp2_with fail
          go_ret
          exact ⟨ret_bool (by rw [HR.out, HF2.out]), HB.out⟩
        · have hs' : ¬ (k : Int) ≤ 12 := by omega
          have HF2 := Lib.hid (show thinB v = false by rw [HFN.out, decide_eq_false hs12, Bool.and_false])
          go_wp2_with fail
          go_ret
          exact ⟨ret_bool (by rw [HR.out, HF2.out]), HB.out⟩
      · have hp' : ¬ (pn : Int) ≤ 15 := by omega
        have HF2 := Lib.hid (show thinB v = false by rw [HFN.out, decide_eq_false hp]; rfl)
        go_wp2_with fail
        go_ret
        exact ⟨ret_bool (by rw [HR.out, HF2.out]), HB.out⟩
end Go.Proofs.Ytphdndiikikecaa

namespace Go.Proofs.Ytphdndiikikecaa
open Go.RowKit Go.Proofs
attribute [local go_sem ↓] Go.wp_at_zero Go.wp_at_succ

/-- what a slide is, wherever its way lies -/
def core (s : Sli) : List Int × Int × Int × Int := (s.way, s.rate, s.lo, s.hi)
/-- valleys alike -/
structure VAlike (v v' : Vly) : Prop where
  pars : v'.pars = v.pars
  sls : v'.sls.map core = v.sls.map core
  s0 : v'.s0 = v.s0
  s1 : v'.s1 = v.s1
  s2 : v'.s2 = v.s2
theorem core_get {L L' : List Sli} (h : L'.map core = L.map core) {k : Nat} {s : Sli} (hs : L[k]? = some s) : ∃ s', L'[k]? = some s' ∧ core s' = core s := by
  have h1 : (L'.map core)[k]? = some (core s) := by rw [h, List.getElem?_map, hs]; rfl
  rw [List.getElem?_map, Option.map_eq_some_iff] at h1
  exact h1
theorem VAlike.len {v v' : Vly} (h : VAlike v v') : v'.sls.length = v.sls.length := by
  have := congrArg List.length h.sls
  simpa using this
theorem VAlike.symm {v v' : Vly} (h : VAlike v v') : VAlike v' v := ⟨h.pars.symm, h.sls.symm, h.s0.symm, h.s1.symm, h.s2.symm⟩
theorem VAlike.ends {v v' : Vly} (h : VAlike v v') (hi : Bool) : endsT v' hi = endsT v hi := by
  have e : ∀ L : List Sli, (L.map fun s => if hi then s.hi else s.lo) = (L.map core).map fun c => if hi then c.2.2.2 else c.2.2.1 := fun L => by
    rw [List.map_map]; rfl
  unfold endsT
  rw [e, e, h.sls]
theorem VAlike.dAt {v v' : Vly} (h : VAlike v v') (tr : List Int) (p : Int) (k : Nat) : dAt v'.sls tr p k = dAt v.sls tr p k := by
  unfold Go.Proofs.Ytphdndiikikecaa.dAt
  cases hs : v.sls[k]? with
  | none =>
    have : v'.sls[k]? = none := by
      rw [List.getElem?_eq_none_iff] at hs ⊢
      rw [h.len]; exact hs
    rw [this]
  | some s =>
    obtain ⟨s', hs', hc⟩ := core_get h.sls hs
    rw [hs']
    cases tr[k]? with
    | none => rfl
    | some m =>
      simp only [hitBy]
      injection hc with h1 h2
      injection h2 with h2 _
      rw [h1, h2]
theorem VAlike.dTo {v v' : Vly} (h : VAlike v v') (tr : List Int) (p : Int) : ∀ k, dTo v'.sls tr p k = dTo v.sls tr p k
  | 0 => rfl
  | k + 1 => by simp only [Go.Proofs.Ytphdndiikikecaa.dTo, h.dTo tr p k, h.dAt]
theorem VAlike.dangs {v v' : Vly} (h : VAlike v v') (tr : List Int) : dangs v' tr = dangs v tr := by
  unfold Go.Proofs.Ytphdndiikikecaa.dangs
  rw [h.pars, h.len]
  exact List.map_congr_left fun p _ => h.dTo tr _ _
theorem VAlike.zone {v v' : Vly} (h : VAlike v v') : zoneOf v' = zoneOf v := by
  funext d; unfold zoneOf; rw [h.s0, h.s1, h.s2]
theorem VAlike.err {v v' : Vly} (h : VAlike v v') : errV v' = errV v := by
  have e : ∀ (np : Nat) (L : List Sli), allB (sliOk np) L = (L.map core).all fun c => wayOk np c.1 && (decide (1 ≤ c.1.length) && inB c.2.1 1 1000 && upB c.2.2.1 c.2.2.2 c.1.length) := fun np L => by
    unfold allB; rw [List.all_map]; rfl
  unfold errV
  rw [h.pars, h.len, h.s0, h.s1, h.s2, e, e, h.sls]
theorem VAlike.wts {v v' : Vly} (h : VAlike v v') : wtsL v' = wtsL v := by unfold wtsL; rw [h.pars, h.ends, h.dangs]
theorem VAlike.gains {v v' : Vly} (h : VAlike v v') : gainsL v' = gainsL v := by unfold gainsL; rw [h.pars, h.ends, h.dangs]
theorem VAlike.prices {v v' : Vly} (h : VAlike v v') : pricesL v' = pricesL v := by unfold pricesL; rw [h.pars]
theorem VAlike.ok {v v' : Vly} (h : VAlike v v') (hok : VOk v) : VOk v' := errV_zero.1 (by rw [h.err]; exact errV_zero.2 hok)
theorem VAlike.fits {v v' : Vly} (h : VAlike v v') {tr : List Int} (hf : Fits v tr) : Fits v' tr := by
  refine ⟨by rw [h.len]; exact hf.1, fun k s' m hs' hm => ?_⟩
  obtain ⟨s, hs, hc⟩ := core_get h.sls.symm hs'
  have := hf.2 k s m hs hm
  injection hc with _ h2
  injection h2 with _ h3
  injection h3 with h3 h4
  omega
end Go.Proofs.Ytphdndiikikecaa
