/- PLAIN LAWS: with more money, a parcel more, or a lesser price, the best set does not gain less. -/
import Derived.Test.YtphdndiikikecaaZBitsLaw
import Derived.Test.YtphdndiikikecaaZPrem
namespace Go.Proofs.Ytphdndiikikecaa

theorem modc {c : Int} (hc : 0 ≤ c ∧ c ≤ 4294967295) : 0 ≤ c.tmod 100000001 ∧ c.tmod 100000001 ≤ 100000000 := by
  rw [Int.tmod_eq_emod_of_nonneg hc.1]
  have h2 := Int.emod_nonneg c (show (100000001 : Int) ≠ 0 by omega)
  have h3 := Int.emod_lt_of_pos c (show (0 : Int) < 100000001 by omega)
  omega
theorem tmodn (Y n : Nat) (m : Int) (h : (n : Int) = m) : (Y : Int).tmod m = ((Y % n : Nat) : Int) := by
  rw [← h, Int.tmod_eq_emod_of_nonneg (by omega)]; omega
theorem BestOf.is_gain {gs ps : List Int} {n : Nat} {B : Int} {r : Bst} (h : BestOf gs ps n B r) : r.gain = gL gs r.set := by
  have := h.is
  rw [this]; rfl
theorem best_budget {gs ps : List Int} {n : Nat} {B B' : Int} {r r' : Bst} (h : BestOf gs ps n B r) (h' : BestOf gs ps n B' r') (hB : B ≤ B') : r.gain ≤ r'.gain := by
  rw [h.is_gain]
  exact h'.gain h.asc (Int.le_trans h.cost hB)
theorem gL_le {ps ps' : List Int} (h : ∀ i, gAt ps' i ≤ gAt ps i) : ∀ e : List Int, gL ps' e ≤ gL ps e
  | [] => by simp [gL]
  | a :: e => by
    have ih := gL_le h e
    have := h a.toNat
    unfold gL at *
    simp; omega
theorem best_price {gs ps ps' : List Int} {n : Nat} {B : Int} {r r' : Bst} (h : BestOf gs ps n B r) (h' : BestOf gs ps' n B r') (hp : ∀ i, gAt ps' i ≤ gAt ps i) : r.gain ≤ r'.gain := by
  rw [h.is_gain]
  exact h'.gain h.asc (Int.le_trans (gL_le hp _) h.cost)
theorem gAt_append {gs : List Int} {x : Int} {i : Nat} (h : i < gs.length) : gAt (gs ++ [x]) i = gAt gs i := by
  unfold gAt
  rw [List.getD_eq_getElem?_getD, List.getD_eq_getElem?_getD, List.getElem?_append_left h]
theorem gL_append_le {gs : List Int} {x : Int} : ∀ {e : List Int}, (∀ a ∈ e, (0 : Int) ≤ a ∧ a < gs.length) → gL (gs ++ [x]) e = gL gs e
  | [], _ => rfl
  | a :: e, h => by
    have ih := gL_append_le (x := x) (e := e) (fun b hb => h b (List.mem_cons_of_mem _ hb))
    have h0 := h a (by simp)
    have : gAt (gs ++ [x]) a.toNat = gAt gs a.toNat := gAt_append (by omega)
    unfold gL at *
    simp [this, ih]
theorem best_more {gs ps : List Int} {B x y : Int} {r r' : Bst} (hl : ps.length = gs.length) (h : BestOf gs ps gs.length B r) (h' : BestOf (gs ++ [x]) (ps ++ [y]) (gs.length + 1) B r') : r.gain ≤ r'.gain := by
  have hb : ∀ a ∈ r.set, (0 : Int) ≤ a ∧ a < gs.length := fun a ha => by have := h.asc.2 a ha; omega
  rw [h.is_gain, ← gL_append_le (x := x) hb]
  refine h'.gain ⟨h.asc.1, fun a ha => by have := h.asc.2 a ha; omega⟩ ?_
  rw [gL_append_le (by rw [hl]; exact hb)]
  exact h.cost

/-- another valley with the first slides' ways longer: the dangers of the parcels are the same -/
theorem dTo_alike {L L' : List Sli} {tr : List Int} {p : Int} (h : ∀ k, dAt L' tr p k = dAt L tr p k) : ∀ k, dTo L' tr p k = dTo L tr p k
  | 0 => rfl
  | k + 1 => by
    show dTo L' tr p k + dAt L' tr p k = dTo L tr p k + dAt L tr p k
    rw [dTo_alike h k, h k]
/-- a valley with one parcel more, that the first slide hits last -/
structure MoreOf (v y : Vly) (q : Par) : Prop where
  pars : y.pars = v.pars ++ [q]
  len : y.sls.length = v.sls.length
  sls : ∀ (k : Nat) (s s' : Sli), v.sls[k]? = some s → y.sls[k]? = some s' → s'.rate = s.rate ∧ s'.lo = s.lo ∧ s'.hi = s.hi ∧ (s'.way = s.way ∨ (k = 0 ∧ s'.way = s.way ++ [(v.pars.length : Int)]))
  s0 : y.s0 = v.s0
  s1 : y.s1 = v.s1
  s2 : y.s2 = v.s2
theorem MoreOf.get {v y : Vly} {q : Par} (h : MoreOf v y q) {k : Nat} {s : Sli} (hs : v.sls[k]? = some s) : ∃ s', y.sls[k]? = some s' :=
  ⟨_, List.getElem?_eq_getElem (by have := lt_of_get hs; have := h.len; omega)⟩
theorem MoreOf.get' {v y : Vly} {q : Par} (h : MoreOf v y q) {k : Nat} {s : Sli} (hs : y.sls[k]? = some s) : ∃ s', v.sls[k]? = some s' :=
  ⟨_, List.getElem?_eq_getElem (by have := lt_of_get hs; have := h.len; omega)⟩
theorem MoreOf.ends {v y : Vly} {q : Par} (h : MoreOf v y q) (hi : Bool) : endsT y hi = endsT v hi := by
  refine List.ext_getElem? fun k => ?_
  unfold endsT
  rw [List.getElem?_map, List.getElem?_map]
  cases hs : v.sls[k]? with
  | none =>
    have : y.sls[k]? = none := by rw [List.getElem?_eq_none_iff] at hs ⊢; have := h.len; omega
    rw [this]
  | some s =>
    obtain ⟨s', hs'⟩ := h.get hs
    obtain ⟨_, h2, h3, _⟩ := h.sls k s s' hs hs'
    rw [hs', Option.map_some, Option.map_some, h2, h3]
theorem MoreOf.dAt {v y : Vly} {q : Par} (h : MoreOf v y q) (hok : VOk v) (hi : Bool) (p : Int) (k : Nat) : dAt y.sls (endsT v hi) p k = dAt v.sls (endsT v hi) p k := by
  cases hs : v.sls[k]? with
  | none =>
    have : y.sls[k]? = none := by rw [List.getElem?_eq_none_iff] at hs ⊢; have := h.len; omega
    unfold Proofs.Ytphdndiikikecaa.dAt
    rw [hs, this]
  | some s =>
    obtain ⟨s', hs'⟩ := h.get hs
    obtain ⟨h1, h2, h3, h4⟩ := h.sls k s s' hs hs'
    obtain ⟨m, hm, hml⟩ : ∃ m : Int, (endsT v hi)[k]? = some m ∧ m.toNat ≤ s.way.length := by
      have hb := hok.slide hs
      refine ⟨if hi then s.hi else s.lo, by unfold endsT; rw [List.getElem?_map, hs]; rfl, ?_⟩
      split <;> omega
    rw [dAt_of hs' hm, dAt_of hs hm]
    unfold hitBy
    rw [h1]
    rcases h4 with h4 | ⟨_, h4⟩
    · rw [h4]
    · rw [h4, List.take_append_of_le_length hml]
theorem MoreOf.gains {v y : Vly} {q : Par} (h : MoreOf v y q) (hok : VOk v) : ∃ g, gainsL y = gainsL v ++ [g] := by
  have hd : ∃ d, dangs y (endsT y true) = dangs v (endsT v true) ++ [d] := by
    refine ⟨dTo y.sls (endsT v true) ((v.pars.length : Nat) : Int) y.sls.length, ?_⟩
    unfold dangs
    rw [h.pars, List.length_append, List.length_singleton, List.range_succ, List.map_append, h.ends]
    congr 1
    refine List.map_congr_left fun p _ => ?_
    rw [dTo_alike (fun k => h.dAt hok true p k), h.len]
  obtain ⟨d, hd⟩ := hd
  refine ⟨d * q.people, ?_⟩
  unfold gainsL
  rw [h.pars, hd, List.zip_append (by rw [dangs_len]), List.map_append]
  rfl
theorem MoreOf.ok {v y : Vly} {q : Par} (h : MoreOf v y q) (hok : VOk v) (hl : v.pars.length ≤ 11) (hq : parOk q = true) : VOk y := by
  refine ⟨by rw [h.len]; exact hok.sn, by rw [h.pars, List.length_append]; simp; omega, ?_, ?_, ?_⟩
  · rw [h.pars]
    refine allB_iff.2 fun i x hx => ?_
    by_cases hi : i < v.pars.length
    · rw [List.getElem?_append_left hi] at hx
      exact allB_iff.1 hok.par i x hx
    · rw [List.getElem?_append_right (by omega)] at hx
      have := List.mem_of_getElem? hx
      simp at this; subst this; exact hq
  · rw [h.pars, List.length_append, List.length_singleton]
    refine allB_iff.2 fun k s' hs' => ?_
    obtain ⟨s, hs⟩ := h.get' hs'
    obtain ⟨h1, h2, h3, h4⟩ := h.sls k s s' hs hs'
    have h0 := allB_iff.1 hok.sli k s hs
    simp only [sliOk, Bool.and_eq_true, decide_eq_true_eq, wayOk_iff, upB_iff] at h0 ⊢
    obtain ⟨a1, a2, a3, a4⟩ := h0
    rw [h1, h2, h3]
    have hw : wayTo (v.pars.length + 1) s.way s.way.length := ⟨fun p hp => by have := a1.1 p hp; omega, a1.2⟩
    rcases h4 with h4 | ⟨_, h4⟩
    · rw [h4]
      exact ⟨hw, a2, a3, a4⟩
    · rw [h4, List.length_append, List.length_singleton]
      refine ⟨?_, ⟨by omega, a2.2⟩, a3, a4.1, by omega⟩
      have hg : (s.way ++ [(v.pars.length : Int)])[s.way.length]? = some (v.pars.length : Int) := by simp
      rw [wayTo_succ hg]
      have e : ∀ np, wayTo np (s.way ++ [(v.pars.length : Int)]) s.way.length ↔ wayTo np s.way s.way.length := fun np => by
        unfold wayTo
        rw [List.take_append_of_le_length (Nat.le_refl _)]
      refine ⟨(e _).2 hw, by omega, ?_⟩
      rw [List.take_append_of_le_length (Nat.le_refl _)]
      intro hm
      have := a1.1 _ hm
      omega
  · rw [h.s0, h.s1, h.s2]; exact hok.steps
end Go.Proofs.Ytphdndiikikecaa
