/- PLAIN LAWS of the reference's division of coins: the one with the most left over comes first. -/
import Derived.Test.YtphdndiikikecaaZShareLaw
set_option linter.unusedVariables false
set_option linter.unusedSimpArgs false
namespace Go.Proofs.Ytphdndiikikecaa

def restAt (c : Int) (ws : List Int) (t : Nat) : List Int := (List.range ws.length).map fun i => if rankOf (rems c ws) i < t then -1 else gAt (rems c ws) i
theorem restAt_len {c : Int} {ws : List Int} {t : Nat} : (restAt c ws t).length = ws.length := by simp [restAt]
theorem restAt_get {c : Int} {ws : List Int} {t i : Nat} (h : i < ws.length) : (restAt c ws t)[i]? = some (if rankOf (rems c ws) i < t then -1 else gAt (rems c ws) i) := by simp [restAt, h]
theorem restAt_zero {c : Int} {ws : List Int} : restAt c ws 0 = rems c ws := by
  refine List.ext_getElem? fun i => ?_
  by_cases h : i < ws.length
  · rw [restAt_get h]
    have hi : i < (rems c ws).length := by rw [rems_len]; exact h
    have hq : (rems c ws)[i]? = some (rems c ws)[i] := List.getElem?_eq_getElem hi
    rw [hq, gAt_of hq]; simp
  · rw [List.getElem?_eq_none (by rw [restAt_len]; omega), List.getElem?_eq_none (by rw [rems_len]; omega)]
/-- the first of the greatest among the first k -/
def bestTo (l : List Int) : Nat → Nat
  | 0 => 0
  | k + 1 => if gAt l (bestTo l k) < gAt l k then k else bestTo l k
theorem bestTo_le (l : List Int) : ∀ k, bestTo l k ≤ k
  | 0 => Nat.le_refl _
  | k + 1 => by
    have := bestTo_le l k
    unfold bestTo
    split <;> omega
theorem bestTo_one (l : List Int) : bestTo l 1 = 0 := by simp [bestTo]
theorem bestTo_spec (l : List Int) : ∀ k, 0 < k → bestTo l k < k ∧ ∀ j, j < k → gAt l j ≤ gAt l (bestTo l k) ∧ (j < bestTo l k → gAt l j < gAt l (bestTo l k))
  | 0, h => by omega
  | 1, _ => by
    rw [bestTo_one]
    refine ⟨by omega, fun j hj => ?_⟩
    obtain rfl : j = 0 := by omega
    exact ⟨Int.le_refl _, fun h => by omega⟩
  | k + 2, _ => by
    obtain ⟨h1, h2⟩ := bestTo_spec l (k + 1) (by omega)
    rw [bestTo]
    split
    · rename_i hlt
      refine ⟨by omega, fun j hj => ?_⟩
      rcases Nat.lt_or_ge j (k + 1) with hj1 | hj1
      · have := (h2 j hj1).1
        exact ⟨by omega, fun _ => by omega⟩
      · obtain rfl : j = k + 1 := by omega
        exact ⟨Int.le_refl _, fun h => by omega⟩
    · rename_i hge
      refine ⟨by omega, fun j hj => ?_⟩
      rcases Nat.lt_or_ge j (k + 1) with hj1 | hj1
      · exact h2 j hj1
      · obtain rfl : j = k + 1 := by omega
        exact ⟨by omega, fun h => by omega⟩

theorem sorted_parts (rs : List Int) : ∃ s : List (Int × Int), s.Pairwise (fun a b => plt b a = false) ∧ s.Perm (partsL rs rs.length) := by
  refine ⟨(partsL rs rs.length).mergeSort (fun a b => !plt b a), ?_, List.mergeSort_perm _ _⟩
  have h := List.pairwise_mergeSort (le := fun a b => !plt b a) (fun a b c h1 h2 => by
    simp only [Bool.not_eq_true', plt_not] at h1 h2 ⊢; omega) (fun a b => by
    cases h : plt b a
    · rfl
    · have := plt_iff.1 h
      have : plt a b = false := plt_not.2 (by omega)
      simp [this]) (partsL rs rs.length)
  exact h.imp (fun h => by simpa using h)
theorem rank_of_at {rs : List Int} {s : List (Int × Int)} (hs : s.Pairwise (fun a b => plt b a = false)) (hp : s.Perm (partsL rs rs.length)) {i : Nat} {r : Int} (hr : rs[i]? = some r) : s[rankOf rs i]? = some ((i : Int), r) := by
  have hm := hp.mem_iff.2 (partsL_has hr (lt_of_get hr))
  obtain ⟨k, hk⟩ := List.getElem?_of_mem hm
  obtain ⟨i', h1, h2, h3⟩ := rank_sorted hs hp hk
  have : i = i' := by have : (i : Int) = (i' : Int) := h1; omega
  subst this
  rw [h3]; exact hk
theorem rank_inj {rs : List Int} {i j : Nat} (hi : i < rs.length) (hj : j < rs.length) (h : rankOf rs i = rankOf rs j) : i = j := by
  obtain ⟨s, hs, hp⟩ := sorted_parts rs
  have h1 := rank_of_at hs hp (List.getElem?_eq_getElem hi)
  have h2 := rank_of_at hs hp (List.getElem?_eq_getElem hj)
  rw [h, h2] at h1
  injection h1 with h1
  injection h1 with h1 _
  omega
theorem rank_lt {rs : List Int} {i j : Nat} {r q : Int} (hi : rs[i]? = some r) (hj : rs[j]? = some q) (h : rankOf rs i < rankOf rs j) : q < r ∨ (r = q ∧ i < j) := by
  obtain ⟨s, hs, hp⟩ := sorted_parts rs
  have h1 := rank_of_at hs hp hi
  have h2 := rank_of_at hs hp hj
  obtain ⟨l1, e1⟩ := List.getElem?_eq_some_iff.1 h1
  obtain ⟨l2, e2⟩ := List.getElem?_eq_some_iff.1 h2
  have := List.pairwise_iff_getElem.1 hs _ _ l1 l2 h
  rw [e1, e2] at this
  have := plt_not.1 this
  have hne : i ≠ j := by rintro rfl; omega
  simp only at this
  omega
theorem rank_has {rs : List Int} {t : Nat} (ht : t < rs.length) : ∃ i, i < rs.length ∧ rankOf rs i = t := by
  obtain ⟨s, hs, hp⟩ := sorted_parts rs
  have hsl : s.length = rs.length := by rw [hp.length_eq, partsL_len _ (Nat.le_refl _)]
  obtain ⟨i, _, h2, h3⟩ := rank_sorted hs hp (List.getElem?_eq_getElem (show t < s.length by omega))
  exact ⟨i, h2, h3⟩
/-- the next coin's one is the first with the most left over -/
theorem best_rank {c : Int} {ws : List Int} (hr : ∀ r ∈ rems c ws, 0 ≤ r) {t : Nat} (ht : t < ws.length) : bestTo (restAt c ws t) ws.length < ws.length ∧ rankOf (rems c ws) (bestTo (restAt c ws t) ws.length) = t := by
  obtain ⟨hb, hall⟩ := bestTo_spec (restAt c ws t) ws.length (by omega)
  refine ⟨hb, ?_⟩
  generalize bestTo (restAt c ws t) ws.length = b at hb hall ⊢
  obtain ⟨i, hi, hri⟩ := rank_has (rs := rems c ws) (t := t) (by rw [rems_len]; exact ht)
  rw [rems_len] at hi
  have hri0 := List.getElem?_eq_getElem (show i < (rems c ws).length by rw [rems_len]; exact hi)
  have hrb0 := List.getElem?_eq_getElem (show b < (rems c ws).length by rw [rems_len]; exact hb)
  have gi := gAt_of (restAt_get (c := c) (t := t) hi)
  have gb := gAt_of (restAt_get (c := c) (t := t) hb)
  rw [if_neg (by omega), gAt_of hri0] at gi
  rw [gAt_of hrb0] at gb
  have hn := hr _ (List.mem_of_getElem? hri0)
  have hle := hall i hi
  rw [gi, gb] at hle
  refine Classical.byContradiction fun hne => ?_
  by_cases hlt : rankOf (rems c ws) b < t
  · rw [if_pos hlt] at hle; omega
  · rw [if_neg hlt] at hle
    have := rank_lt hri0 hrb0 (by omega)
    rcases this with h | ⟨h, h'⟩
    · omega
    · have := hle.2 h'; omega
theorem outsAt_best {c : Int} {ws : List Int} {t b : Nat} (hb : b < ws.length) (hr : rankOf (rems c ws) b = t) :
    (outsAt c ws t)[b]? = some (gAt (quos c ws) b) ∧ outsAt c ws (t + 1) = (outsAt c ws t).set b (gAt (quos c ws) b + 1) ∧ restAt c ws (t + 1) = (restAt c ws t).set b (-1) := by
  refine ⟨by rw [outsAt_get hb, hr]; simp, ?_, ?_⟩
  · refine List.ext_getElem? fun j => ?_
    by_cases hj : j < ws.length
    · rw [List.getElem?_set, outsAt_get hj, outsAt_get hj, outsAt_len]
      by_cases hbj : b = j
      · subst hbj; simp [hb, hr]
      · have hne : ¬ rankOf (rems c ws) j = t := fun e => hbj (rank_inj (rs := rems c ws) (by rw [rems_len]; exact hb) (by rw [rems_len]; exact hj) (hr.trans e.symm))
        have : (rankOf (rems c ws) j < t + 1) ↔ (rankOf (rems c ws) j < t) := by omega
        simp [hbj, this]
    · rw [List.getElem?_eq_none (by rw [outsAt_len]; omega), List.getElem?_eq_none (by rw [List.length_set, outsAt_len]; omega)]
  · refine List.ext_getElem? fun j => ?_
    by_cases hj : j < ws.length
    · rw [List.getElem?_set, restAt_get hj, restAt_get hj, restAt_len]
      by_cases hbj : b = j
      · subst hbj; simp [hb, hr]
      · have hne : ¬ rankOf (rems c ws) j = t := fun e => hbj (rank_inj (rs := rems c ws) (by rw [rems_len]; exact hb) (by rw [rems_len]; exact hj) (hr.trans e.symm))
        have : (rankOf (rems c ws) j < t + 1) ↔ (rankOf (rems c ws) j < t) := by omega
        simp [hbj, this]
    · rw [List.getElem?_eq_none (by rw [restAt_len]; omega), List.getElem?_eq_none (by rw [List.length_set, restAt_len]; omega)]
end Go.Proofs.Ytphdndiikikecaa
