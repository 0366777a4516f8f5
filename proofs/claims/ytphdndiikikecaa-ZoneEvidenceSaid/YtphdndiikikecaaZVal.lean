/- THE CONTRACT of the law's Valley: the same valley, in memory of the call's own. -/
import Derived.Test.YtphdndiikikecaaZThin
import Derived.Deep.RegionHeld3
namespace Go.Proofs.Ytphdndiikikecaa
open Go.RowKit Go.Proofs
attribute [local go_sem ↓] Go.wp_at_zero Go.wp_at_succ

/-- what a slide is, wherever its way lies -/
def core (s : Sli) : List Int × Int × Int × Int := (s.way, s.rate, s.lo, s.hi)
/-- valleys alike -/
structure VAlike (v v' : Vly) : Prop where
  pars : v'.pars = v.pars
  sls : v'.sls.map core = v.sls.map core
  s0 : v'.s0 = v.s0
  s1 : v'.s1 = v.s1
  s2 : v'.s2 = v.s2
theorem core_get {L L' : List Sli} (h : L'.map core = L.map core) {k : Nat} {s : Sli} (hs : L[k]? = some s) : ∃ s', L'[k]? = some s' ∧ core s' = core s := by
  have h1 : (L'.map core)[k]? = some (core s) := by rw [h, List.getElem?_map, hs]; rfl
  rw [List.getElem?_map, Option.map_eq_some_iff] at h1
  exact h1
theorem VAlike.len {v v' : Vly} (h : VAlike v v') : v'.sls.length = v.sls.length := by
  have := congrArg List.length h.sls
  simpa using this
theorem VAlike.symm {v v' : Vly} (h : VAlike v v') : VAlike v' v := ⟨h.pars.symm, h.sls.symm, h.s0.symm, h.s1.symm, h.s2.symm⟩
theorem VAlike.ends {v v' : Vly} (h : VAlike v v') (hi : Bool) : endsT v' hi = endsT v hi := by
  have e : ∀ L : List Sli, (L.map fun s => if hi then s.hi else s.lo) = (L.map core).map fun c => if hi then c.2.2.2 else c.2.2.1 := fun L => by
    rw [List.map_map]; rfl
  unfold endsT
  rw [e, e, h.sls]
theorem VAlike.dAt {v v' : Vly} (h : VAlike v v') (tr : List Int) (p : Int) (k : Nat) : dAt v'.sls tr p k = dAt v.sls tr p k := by
  unfold Go.Proofs.Ytphdndiikikecaa.dAt
  cases hs : v.sls[k]? with
  | none =>
    have : v'.sls[k]? = none := by
      rw [List.getElem?_eq_none_iff] at hs ⊢
      rw [h.len]; exact hs
    rw [this]
  | some s =>
    obtain ⟨s', hs', hc⟩ := core_get h.sls hs
    rw [hs']
    cases tr[k]? with
    | none => rfl
    | some m =>
      simp only [hitBy]
      injection hc with h1 h2
      injection h2 with h2 _
      rw [h1, h2]
theorem VAlike.dTo {v v' : Vly} (h : VAlike v v') (tr : List Int) (p : Int) : ∀ k, dTo v'.sls tr p k = dTo v.sls tr p k
  | 0 => rfl
  | k + 1 => by simp only [Go.Proofs.Ytphdndiikikecaa.dTo, h.dTo tr p k, h.dAt]
theorem VAlike.dangs {v v' : Vly} (h : VAlike v v') (tr : List Int) : dangs v' tr = dangs v tr := by
  unfold Go.Proofs.Ytphdndiikikecaa.dangs
  rw [h.pars, h.len]
  exact List.map_congr_left fun p _ => h.dTo tr _ _
theorem VAlike.zone {v v' : Vly} (h : VAlike v v') : zoneOf v' = zoneOf v := by
  funext d; unfold zoneOf; rw [h.s0, h.s1, h.s2]
theorem VAlike.err {v v' : Vly} (h : VAlike v v') : errV v' = errV v := by
  have e : ∀ (np : Nat) (L : List Sli), allB (sliOk np) L = (L.map core).all fun c => wayOk np c.1 && (decide (1 ≤ c.1.length) && inB c.2.1 1 1000 && upB c.2.2.1 c.2.2.2 c.1.length) := fun np L => by
    unfold allB; rw [List.all_map]; rfl
  unfold errV
  rw [h.pars, h.len, h.s0, h.s1, h.s2, e, e, h.sls]
theorem VAlike.wts {v v' : Vly} (h : VAlike v v') : wtsL v' = wtsL v := by unfold wtsL; rw [h.pars, h.ends, h.dangs]
theorem VAlike.gains {v v' : Vly} (h : VAlike v v') : gainsL v' = gainsL v := by unfold gainsL; rw [h.pars, h.ends, h.dangs]
theorem VAlike.prices {v v' : Vly} (h : VAlike v v') : pricesL v' = pricesL v := by unfold pricesL; rw [h.pars]
theorem VAlike.ok {v v' : Vly} (h : VAlike v v') (hok : VOk v) : VOk v' := errV_zero.1 (by rw [h.err]; exact errV_zero.2 hok)
theorem VAlike.fits {v v' : Vly} (h : VAlike v v') {tr : List Int} (hf : Fits v tr) : Fits v' tr := by
  refine ⟨by rw [h.len]; exact hf.1, fun k s' m hs' hm => ?_⟩
  obtain ⟨s, hs, hc⟩ := core_get h.sls.symm hs'
  have := hf.2 k s m hs hm
  injection hc with _ h2
  injection h2 with _ h3
  injection h3 with h3 h4
  omega
end Go.Proofs.Ytphdndiikikecaa
