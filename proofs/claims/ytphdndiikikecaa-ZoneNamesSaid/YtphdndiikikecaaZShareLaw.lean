/- PLAIN LAWS of the division of coins: what each gets. -/
import Derived.Test.YtphdndiikikecaaZSort
set_option linter.unusedVariables false
set_option linter.unusedSimpArgs false
namespace Go.Proofs.Ytphdndiikikecaa

def quos (c : Int) (ws : List Int) : List Int := ws.map fun w => c * w / sumL ws
def rems (c : Int) (ws : List Int) : List Int := ws.map fun w => c * w % sumL ws
/-- the parts, as they are laid -/
def partsL (rs : List Int) : Nat → List (Int × Int)
  | 0 => []
  | k + 1 => partsL rs k ++ match rs[k]? with | some r => [((k : Int), r)] | none => []
theorem partsL_succ {rs : List Int} {k : Nat} {r : Int} (h : rs[k]? = some r) : partsL rs (k + 1) = partsL rs k ++ [((k : Int), r)] := by simp [partsL, h]
theorem partsL_len {rs : List Int} : ∀ k, k ≤ rs.length → (partsL rs k).length = k
  | 0, _ => rfl
  | k + 1, h => by
    rw [partsL_succ (List.getElem?_eq_getElem (by omega : k < rs.length)), List.length_append, partsL_len k (by omega)]; rfl
theorem partsL_mem {rs : List Int} {x : Int × Int} : ∀ {k : Nat}, x ∈ partsL rs k → ∃ i : Nat, i < k ∧ x.1 = (i : Int) ∧ rs[i]? = some x.2
  | 0, h => by simp [partsL] at h
  | k + 1, h => by
    rw [partsL, List.mem_append] at h
    rcases h with h | h
    · obtain ⟨i, h1, h2⟩ := partsL_mem h; exact ⟨i, by omega, h2⟩
    · split at h
      · rename_i r hr
        simp only [List.mem_singleton] at h
        subst h; exact ⟨k, by omega, rfl, hr⟩
      · cases h
theorem partsL_has {rs : List Int} {i : Nat} {r : Int} (h : rs[i]? = some r) : ∀ {k : Nat}, i < k → ((i : Int), r) ∈ partsL rs k
  | 0, hk => by omega
  | k + 1, hk => by
    rw [partsL, List.mem_append]
    by_cases hik : i = k
    · subst hik; rw [h]; simp
    · exact .inl (partsL_has h (by omega))
theorem partsL_nodup {rs : List Int} : ∀ k, ((partsL rs k).map (·.1)).Nodup
  | 0 => by simp [partsL]
  | k + 1 => by
    rw [partsL, List.map_append, List.nodup_append]
    refine ⟨partsL_nodup k, by split <;> simp, fun a ha b hb => ?_⟩
    obtain ⟨x, hx, rfl⟩ := List.mem_map.1 ha
    obtain ⟨i, hi, he, _⟩ := partsL_mem hx
    split at hb
    · simp only [List.map_cons, List.map_nil, List.mem_singleton] at hb
      subst hb; rw [he]; omega
    · simp at hb
/-- how many come ahead -/
def rankOf (rs : List Int) (i : Nat) : Nat := match rs[i]? with
  | some r => (partsL rs rs.length).countP fun q => plt q ((i : Int), r)
  | none => 0
theorem count_sorted : ∀ {s : List (Int × Int)}, s.Pairwise (fun a b => plt b a = false) → (s.map (·.1)).Nodup → ∀ {k : Nat} {x : Int × Int}, s[k]? = some x → s.countP (fun q => plt q x) = k
  | [], _, _, k, x, hx => by simp at hx
  | a :: s, hs, hn, k, x, hx => by
    obtain ⟨h1, h2⟩ := List.pairwise_cons.1 hs
    rw [List.map_cons, List.nodup_cons] at hn
    cases k with
    | zero =>
      simp only [List.getElem?_cons_zero, Option.some.injEq] at hx
      subst hx
      rw [List.countP_eq_zero]
      intro q hq
      rw [List.mem_cons] at hq
      rcases hq with rfl | hq
      · have : plt q q = false := plt_not.2 (by omega)
        simp [this]
      · simp [h1 q hq]
    | succ k =>
      simp only [List.getElem?_cons_succ] at hx
      have hm := List.mem_of_getElem? hx
      have hne : ¬ a.1 = x.1 := fun e => hn.1 (e ▸ List.mem_map_of_mem hm)
      have hax : plt a x = true := by
        have := plt_not.1 (h1 x hm)
        rw [plt_iff]; omega
      rw [List.countP_cons, count_sorted h2 hn.2 hx, if_pos hax]
theorem rank_sorted {rs : List Int} {s : List (Int × Int)} (hs : s.Pairwise (fun a b => plt b a = false)) (hp : s.Perm (partsL rs rs.length)) {k : Nat} {x : Int × Int} (hx : s[k]? = some x) : ∃ i : Nat, x.1 = (i : Int) ∧ i < rs.length ∧ rankOf rs i = k := by
  have hm := hp.mem_iff.1 (List.mem_of_getElem? hx)
  obtain ⟨i, hi, he, hr⟩ := partsL_mem hm
  refine ⟨i, he, hi, ?_⟩
  unfold rankOf
  rw [hr]
  simp only
  rw [← hp.countP_eq]
  have hx' : ((i : Int), x.2) = x := by rw [← he]
  rw [hx']
  exact count_sorted hs ((hp.map (·.1)).nodup_iff.2 (partsL_nodup _)) hx
/-- after some more coins have been handed out -/
def outsAt (c : Int) (ws : List Int) (t : Nat) : List Int := (List.range ws.length).map fun i => gAt (quos c ws) i + (if rankOf (rems c ws) i < t then 1 else 0)
/-- the division -/
def shareL (c : Int) (ws : List Int) : List Int := outsAt c ws (c - sumL (quos c ws)).toNat
theorem outsAt_len {c : Int} {ws : List Int} {t : Nat} : (outsAt c ws t).length = ws.length := by simp [outsAt]
theorem quos_len {c : Int} {ws : List Int} : (quos c ws).length = ws.length := by simp [quos]
theorem rems_len {c : Int} {ws : List Int} : (rems c ws).length = ws.length := by simp [rems]
theorem outsAt_get {c : Int} {ws : List Int} {t i : Nat} (h : i < ws.length) : (outsAt c ws t)[i]? = some (gAt (quos c ws) i + (if rankOf (rems c ws) i < t then 1 else 0)) := by simp [outsAt, h]
theorem outsAt_zero {c : Int} {ws : List Int} : outsAt c ws 0 = quos c ws := by
  refine List.ext_getElem? fun i => ?_
  by_cases h : i < ws.length
  · rw [outsAt_get h]
    have hi : i < (quos c ws).length := by rw [quos_len]; exact h
    have hq : (quos c ws)[i]? = some (quos c ws)[i] := List.getElem?_eq_getElem hi
    rw [hq, gAt_of hq]; simp
  · rw [List.getElem?_eq_none (by rw [outsAt_len]; omega), List.getElem?_eq_none (by rw [quos_len]; omega)]
/-- the next coin goes to the one whose rank it is -/
theorem outsAt_succ {c : Int} {ws : List Int} {s : List (Int × Int)} (hs : s.Pairwise (fun a b => plt b a = false)) (hp : s.Perm (partsL (rems c ws) ws.length)) {t : Nat} {x : Int × Int} (hx : s[t]? = some x) :
    ∃ i : Nat, x.1 = (i : Int) ∧ i < ws.length ∧ (outsAt c ws t)[i]? = some (gAt (quos c ws) i) ∧ outsAt c ws (t + 1) = (outsAt c ws t).set i (gAt (quos c ws) i + 1) := by
  have hp' : s.Perm (partsL (rems c ws) (rems c ws).length) := by rw [rems_len]; exact hp
  obtain ⟨i, he, hi, hr⟩ := rank_sorted hs hp' hx
  rw [rems_len] at hi
  refine ⟨i, he, hi, by rw [outsAt_get hi, hr]; simp, ?_⟩
  refine List.ext_getElem? fun j => ?_
  by_cases hj : j < ws.length
  · rw [List.getElem?_set, outsAt_get hj, outsAt_get hj, outsAt_len]
    by_cases hij : i = j
    · subst hij; simp [hi, hr]
    · have hrj : ¬ rankOf (rems c ws) j = t := by
        intro hrj
        have hm : ((j : Int), (rems c ws)[j]'(by rw [rems_len]; exact hj)) ∈ s := hp'.mem_iff.2 (partsL_has (List.getElem?_eq_getElem (by rw [rems_len]; exact hj)) (by rw [rems_len]; exact hj))
        obtain ⟨k, hk⟩ := List.getElem?_of_mem hm
        obtain ⟨j', h1, _, h3⟩ := rank_sorted hs hp' hk
        have : j = j' := by have : (j : Int) = (j' : Int) := h1; omega
        subst this
        rw [hrj] at h3; subst h3
        rw [hk] at hx; cases hx
        exact hij (by have : (j : Int) = (i : Int) := he; omega)
      simp only [if_neg hij]
      have : (rankOf (rems c ws) j < t + 1) ↔ (rankOf (rems c ws) j < t) := by omega
      simp [this]
  · rw [List.getElem?_eq_none (by rw [outsAt_len]; omega), List.getElem?_eq_none (by rw [List.length_set, outsAt_len]; omega)]

theorem split_sum (c W : Int) : ∀ l : List Int, (l.map fun w => c * w / W).sum * W + (l.map fun w => c * w % W).sum = c * l.sum
  | [] => by simp
  | w :: l => by
    have ih := split_sum c W l
    have h := Int.ediv_mul_add_emod (c * w) W
    simp only [List.map_cons, List.sum_cons, Int.add_mul, Int.mul_add]
    omega
/-- what is left is less than the parts -/
theorem left_bd {c : Int} {ws : List Int} (hW : 0 < sumL ws) : 0 ≤ c - sumL (quos c ws) ∧ c - sumL (quos c ws) ≤ ws.length := by
  have h := split_sum c (sumL ws) ws
  have hr := sumL_bd (M := sumL ws) (l := rems c ws) (by omega) (fun x hx => by
    obtain ⟨w, _, rfl⟩ := List.mem_map.1 hx
    have h1 := Int.emod_nonneg (c * w) (by omega : sumL ws ≠ 0)
    have h2 := Int.emod_lt_of_pos (c * w) hW
    omega)
  rw [rems_len] at hr
  have e1 : (ws.map fun w => c * w / sumL ws).sum = sumL (quos c ws) := rfl
  have e2 : (ws.map fun w => c * w % sumL ws).sum = sumL (rems c ws) := rfl
  rw [e1, e2, show ws.sum = sumL ws from rfl] at h
  have h3 : (c - sumL (quos c ws)) * sumL ws = sumL (rems c ws) := by rw [Int.sub_mul]; omega
  constructor
  · refine Int.not_lt.1 fun hn => ?_
    have := Int.mul_neg_of_neg_of_pos hn hW
    omega
  · refine Int.not_lt.1 fun hn => ?_
    have h4 : ((ws.length : Int) + 1) * sumL ws ≤ (c - sumL (quos c ws)) * sumL ws := Int.mul_le_mul_of_nonneg_right (by omega) (by omega)
    rw [Int.add_mul, Int.one_mul, h3, Int.mul_comm] at h4
    omega
end Go.Proofs.Ytphdndiikikecaa
