/- PLAIN LAWS: more hits, more danger; more danger, a higher zone; greater steps, a lower zone; a slide more, more danger. -/
import Derived.Test.YtphdndiikikecaaZLaw
namespace Go.Proofs.Ytphdndiikikecaa

theorem hitBy_mono {s : Sli} {m m' : Nat} (h : m ≤ m') (hr : 0 ≤ s.rate) (p : Int) : hitBy s m p ≤ hitBy s m' p := by
  unfold hitBy
  by_cases h1 : p ∈ s.way.take m
  · have h2 : p ∈ s.way.take m' := by
      have : s.way.take m = (s.way.take m').take m := by rw [List.take_take, Nat.min_eq_left h]
      rw [this] at h1
      exact List.mem_of_mem_take h1
    rw [if_pos h1, if_pos h2]; exact Int.le_refl _
  · rw [if_neg h1]
    split <;> omega
theorem dTo_mono {v : Vly} (hok : VOk v) {tr tr' : List Int} (hl : tr.length = tr'.length) (h : ∀ (k : Nat) (m m' : Int), tr[k]? = some m → tr'[k]? = some m' → m ≤ m') (p : Int) : ∀ k, dTo v.sls tr p k ≤ dTo v.sls tr' p k
  | 0 => Int.le_refl _
  | k + 1 => by
    have ih := dTo_mono hok hl h p k
    show dTo v.sls tr p k + dAt v.sls tr p k ≤ dTo v.sls tr' p k + dAt v.sls tr' p k
    have : dAt v.sls tr p k ≤ dAt v.sls tr' p k := by
      cases hs : v.sls[k]? with
      | none => simp [dAt, hs]
      | some s =>
        cases hm : tr[k]? with
        | none =>
          have : tr'[k]? = none := by rw [List.getElem?_eq_none_iff] at hm ⊢; omega
          simp [dAt, hs, hm, this]
        | some m =>
          have hk := lt_of_get hm
          have hm' := List.getElem?_eq_getElem (show k < tr'.length by omega)
          rw [dAt_of hs hm, dAt_of hs hm']
          have := h k _ _ hm hm'
          exact hitBy_mono (by omega) (by have := (hok.slide hs).2.2.1; omega) p
    omega
theorem zoneOf_mono {v : Vly} {d d' : Int} (h : d ≤ d') : zoneOf v d ≤ zoneOf v d' := by
  unfold zoneOf
  have f : ∀ s : Int, (if s ≤ d then (1 : Int) else 0) ≤ (if s ≤ d' then (1 : Int) else 0) := fun s => by split <;> split <;> omega
  have := f v.s0; have := f v.s1; have := f v.s2
  omega
theorem zoneOf_steps {v x : Vly} {d : Int} (h0 : v.s0 ≤ x.s0) (h1 : v.s1 ≤ x.s1) (h2 : v.s2 ≤ x.s2) : zoneOf x d ≤ zoneOf v d := by
  unfold zoneOf
  have f : ∀ s s' : Int, s ≤ s' → (if s' ≤ d then (1 : Int) else 0) ≤ (if s ≤ d then (1 : Int) else 0) := fun s s' h => by split <;> split <;> omega
  have := f _ _ h0; have := f _ _ h1; have := f _ _ h2
  omega
/-- a truth and the ends -/
theorem fits_low {v : Vly} {tr : List Int} (hf : Fits v tr) (k : Nat) (m m' : Int) (h : (endsT v false)[k]? = some m) (h' : tr[k]? = some m') : m ≤ m' := by
  unfold endsT at h
  rw [List.getElem?_map, Option.map_eq_some_iff] at h
  obtain ⟨s, hs, rfl⟩ := h
  exact (hf.2 k s m' hs h').1
theorem fits_high {v : Vly} {tr : List Int} (hf : Fits v tr) (k : Nat) (m m' : Int) (h : tr[k]? = some m) (h' : (endsT v true)[k]? = some m') : m ≤ m' := by
  unfold endsT at h'
  rw [List.getElem?_map, Option.map_eq_some_iff] at h'
  obtain ⟨s, hs, rfl⟩ := h'
  exact (hf.2 k s m hs h).2
theorem dangs_get {v : Vly} {tr : List Int} {i : Nat} (h : i < v.pars.length) : (dangs v tr)[i]? = some (dTo v.sls tr (i : Int) v.sls.length) := by simp [dangs, h]
/-- in each truth the danger is between its ends -/
theorem truth_dang {v : Vly} (hok : VOk v) {tr : List Int} (hf : Fits v tr) (p : Int) (k : Nat) : dTo v.sls (endsT v false) p k ≤ dTo v.sls tr p k ∧ dTo v.sls tr p k ≤ dTo v.sls (endsT v true) p k :=
  ⟨dTo_mono hok (by rw [hf.1]; simp [endsT]) (fits_low hf) p k, dTo_mono hok (by rw [hf.1]; simp [endsT]) (fits_high hf) p k⟩
/-- a slide more -/
theorem dTo_more {sls : List Sli} {s : Sli} {tr : List Int} {m p : Int} (hl : tr.length = sls.length) : ∀ k, k ≤ sls.length → dTo (sls ++ [s]) (tr ++ [m]) p k = dTo sls tr p k
  | 0, _ => rfl
  | k + 1, h => by
    have ih := dTo_more (s := s) (m := m) (p := p) hl k (by omega)
    show dTo (sls ++ [s]) (tr ++ [m]) p k + dAt (sls ++ [s]) (tr ++ [m]) p k = dTo sls tr p k + dAt sls tr p k
    rw [ih]
    have : dAt (sls ++ [s]) (tr ++ [m]) p k = dAt sls tr p k := by
      unfold dAt
      rw [List.getElem?_append_left (by omega), List.getElem?_append_left (by omega)]
    rw [this]
theorem dTo_more_le {sls : List Sli} {s : Sli} {tr : List Int} {m p : Int} (hl : tr.length = sls.length) (hr : 0 ≤ s.rate ∧ s.rate ≤ 1000) : dTo sls tr p sls.length ≤ dTo (sls ++ [s]) (tr ++ [m]) p (sls ++ [s]).length := by
  rw [List.length_append, List.length_singleton]
  show _ ≤ dTo (sls ++ [s]) (tr ++ [m]) p sls.length + dAt (sls ++ [s]) (tr ++ [m]) p sls.length
  rw [dTo_more hl _ (Nat.le_refl _), dAt_of (s := s) (m := m) (by simp) (by rw [← hl]; simp)]
  have := (hitBy_bd (s := s) (m := m.toNat) (p := p) hr).1
  omega
end Go.Proofs.Ytphdndiikikecaa
