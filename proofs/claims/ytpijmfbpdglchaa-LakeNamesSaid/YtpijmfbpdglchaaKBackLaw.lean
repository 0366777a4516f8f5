/- PLAIN LAWS of going back through the states of a lake. -/
import Derived.Test.YtpijmfbpdglchaaKPlain
import Derived.Test.YtpijmfbpdglchaaKValid
import Derived.Test.YtpijmfbpdglchaaKHap
set_option linter.unusedVariables false
set_option linter.unusedSimpArgs false
namespace Go.Proofs.Ytpijmfbpdglchaa

theorem stt_low {l : Lak} {ws : List Wrk} {c : List Int} {h : Nat} {s : Stt} (hs : (sttL l ws c)[h]? = some s) (hne : lowAt l (aftL l (netL l ws c)) (h + 1) ≠ noneR) :
    s.holds = true ∧ s.lo = (lowAt l (aftL l (netL l ws c)) (h + 1)).1 ∧ s.hi = (lowAt l (aftL l (netL l ws c)) (h + 1)).2 := by
  simp only [sttL, List.getElem?_map, Option.map_eq_some_iff] at hs
  obtain ⟨a, ha, rfl⟩ := hs
  simp only [lowAt, ha] at hne ⊢
  unfold sttOf
  rw [if_neg hne]
  exact ⟨rfl, rfl, rfl⟩
/-- what a volume is, that is held after an hour -/
theorem stt_goal {l : Lak} {ws : List Wrk} {c : List Int} {h : Nat} {s : Stt} (hok : LOk l) (hs : (sttL l ws c)[h]? = some s) (hh : s.holds = true) :
    Rch l (netL l ws c) l.soft.2 (h + 1) s.lo ∧ Rch l (netL l ws c) l.soft.2 (h + 1) s.hi := by
  have hn := netOk hok ws c
  simp only [sttL, List.getElem?_map, Option.map_eq_some_iff] at hs
  obtain ⟨a, ha, rfl⟩ := hs
  have hg := (all_in hok hn ha).1
  unfold sttOf at hh ⊢
  split
  · rename_i e; rw [if_pos e] at hh; cases hh
  · rename_i e
    have hb := hg.bd e
    exact ⟨(all_last hok hn ha).1 ⟨Int.le_refl _, hb.2⟩, (all_last hok hn ha).1 ⟨hb.2, Int.le_refl _⟩⟩
theorem atI_set_ne {l : List Int} {h j : Nat} {v : Int} (hj : h ≠ j) : atI (l.set h v) (j : Int) = atI l (j : Int) := by
  simp [atI, List.getElem?_set_ne hj]
theorem atI_set_eq {l : List Int} {h : Nat} {v : Int} (hl : h < l.length) : atI (l.set h v) (h : Int) = v := by
  simp [atI, List.getElem?_set_self hl]
/-- the lists of the Real that goes back: all in its range; from an hour on, they make the goal -/
structure BackI (l : Lak) (ws : List Wrk) (c : List Int) (k : Nat) (goal : Int) (h : Nat) (F S : List Int) (v : Int) : Prop where
  n : F.length = l.inflow.length
  m : S.length = l.inflow.length
  seep : ∀ (h : Nat) (s : Int), S[h]? = some s → l.seep.1 ≤ s ∧ s ≤ l.seep.2
  inflow : ∀ (h : Nat) (r : Rng) (i : Int), l.inflow[h]? = some r → F[h]? = some i → r.1 ≤ i ∧ i ≤ r.2
  chain : Chain l ws c F S h k v goal
  rch : Rch l (netL l ws c) l.soft.2 h v
/-- one hour back: the numbers that are put into the lists -/
theorem BackI.step {l : Lak} {ws : List Wrk} {c : List Int} {k : Nat} {goal : Int} {h : Nat} {F S : List Int} {v : Int} (H : BackI l ws c k goal (h + 1) F S v) (hok : LOk l) (hk : h ≤ k) {r : Rng} (hr : l.inflow[h]? = some r)
    {b n i s : Int} (hb : b = min (lowAt l (aftL l (netL l ws c)) h).2 (v - (r.1 - l.seep.2 - outAt ws c h))) (hn : n = if v = 0 then min (v - b) (r.2 - l.seep.1 - outAt ws c h) else v - b)
    (hi : i = min r.2 (n + outAt ws c h + l.seep.2)) (hs : s = i - n - outAt ws c h) :
    lowAt l (aftL l (netL l ws c)) h ≠ noneR ∧ (lowAt l (aftL l (netL l ws c)) h).1 ≤ b ∧ n ≤ r.2 - l.seep.1 - outAt ws c h ∧ BackI l ws c k goal h (F.set h i) (S.set h s) b := by
  have hnk := netOk hok ws c
  have hnr := netL_get (ws := ws) (c := c) hr
  obtain ⟨h1, h2, h3, h4, h5, h6, h7⟩ := back_step hok hnk hnr H.rch
  simp only at h2 h3 h4 h5
  rw [← hb] at h2 h3 h4 h5
  have hr' := hok.inflow h r hr
  have hsp := hok.seep
  have hl := lt_of_get hr
  have hng : n ≤ r.2 - l.seep.1 - outAt ws c h := by
    rw [hn]; split
    · omega
    · rename_i h0; exact h4 h0
  have hnl : r.1 - l.seep.2 - outAt ws c h ≤ n := by
    rw [hn]; split
    · omega
    · exact h5
  have hv : v = max 0 (b + n) := by
    rw [hn]; split <;> omega
  clear hn
  refine ⟨h1, h2, hng, ⟨by simp [H.n], by simp [H.m], fun j t ht => ?_, fun j q t hq ht => ?_, ?_, h3⟩⟩
  · by_cases e : h = j
    · subst e
      rw [List.getElem?_set_self (by rw [H.m]; exact hl)] at ht
      cases ht; omega
    · rw [List.getElem?_set_ne e] at ht
      exact H.seep j t ht
  · by_cases e : h = j
    · subst e
      rw [List.getElem?_set_self (by rw [H.n]; exact hl)] at ht
      rw [hr] at hq
      cases ht; cases hq; omega
    · rw [List.getElem?_set_ne e] at ht
      exact H.inflow j q t hq ht
  · refine Chain.step hk H.chain (fun j hj => atI_set_ne (by omega)) (fun j hj => atI_set_ne (by omega)) (atI_set_eq (by rw [H.n]; exact hl)) (atI_set_eq (by rw [H.m]; exact hl)) ?_ h6
    rw [hv]; omega
theorem BackI.start {l : Lak} {ws : List Wrk} {c : List Int} {k : Nat} {goal : Int} (hr : Rch l (netL l ws c) l.soft.2 (k + 1) goal) {F S : List Int} (hok : LOk l) (hF : F = l.inflow.map (·.1)) (hS : S = l.inflow.map fun _ => l.seep.2) : BackI l ws c k goal (k + 1) F S goal := by
  subst hF; subst hS
  refine ⟨by simp, by simp, fun h s hs => ?_, fun h r i hr hi => ?_, Chain.none _ _ _ _ _ _ _, hr⟩
  · simp only [List.getElem?_map, Option.map_eq_some_iff] at hs
    obtain ⟨_, _, rfl⟩ := hs
    have := hok.seep; omega
  · simp only [List.getElem?_map, hr, Option.map_some, Option.some.injEq] at hi
    subst hi
    have := hok.inflow h r hr; omega
theorem BackI.all {l : Lak} {ws : List Wrk} {c : List Int} {k : Nat} {goal : Int} {F S : List Int} {v : Int} (H : BackI l ws c k goal 0 F S v) (hok : LOk l) :
    Fits l ⟨F, S, v, l.soft.2⟩ ∧ vAt ws c ⟨F, S, v, l.soft.2⟩ (k + 1) = goal ∧ ∀ j, j ≤ k → brkB l ws c ⟨F, S, v, l.soft.2⟩ j = false := by
  have hsf := hok.soft
  exact ⟨⟨H.n, H.m, H.seep, H.inflow, H.rch, ⟨hsf.2.1, Int.le_refl _⟩⟩, chain_fill (x := ⟨F, S, v, l.soft.2⟩) rfl H.chain⟩
/-- what the law asks of the volumes of such a Real -/
theorem ends_fill {l : Lak} {ws : List Wrk} {c : List Int} {x : Rel} {k : Nat} {goal : Int} (hk : k < l.inflow.length) (hv : vAt ws c x (k + 1) = goal) (hb : ∀ j, j ≤ k → brkB l ws c x j = false) :
    k < fillN l ws c x ∧ (fillV l ws c x)[k]? = some goal ∧ (fillB l ws c x = -1 ∨ (k : Int) < fillB l ws c x) := by
  have e : (fillB l ws c x = -1 ∧ fillN l ws c x = l.inflow.length) ∨ ∃ j : Nat, k < j ∧ fillB l ws c x = (j : Int) ∧ fillN l ws c x = j + 1 := by
    unfold fillN fillB
    rcases firstN_cases (brkB l ws c x) l.inflow.length with ⟨h1, h2⟩ | ⟨j, h1, h2, h3, h4⟩
    · left; rw [h1]; simp
    · right
      refine ⟨j, ?_, h2, by rw [h2]; simp⟩
      rcases Nat.lt_or_ge k j with h5 | h5
      · exact h5
      · rw [hb j h5] at h3; cases h3
  have hN : k < fillN l ws c x := by rcases e with ⟨_, e⟩ | ⟨j, e1, _, e2⟩ <;> omega
  refine ⟨hN, ?_, ?_⟩
  · unfold fillV; rw [volsTo_get hN, hv]
  · rcases e with ⟨e, _⟩ | ⟨j, e1, e2, _⟩
    · exact .inl e
    · exact .inr (by omega)
end Go.Proofs.Ytpijmfbpdglchaa
