/- PLAIN LAWS of what is paid after a slide. -/
import Derived.Test.YtphdndiikikecaaZCoinsLaw
namespace Go.Proofs.Ytphdndiikikecaa

/-- what is due to a parcel, when the parcels of a list have been hit -/
def dueAt (pars : List Par) (W : List Int) (i : Nat) : Int := match pars[i]? with
  | some p => if p.ins = true ∧ (i : Int) ∈ W then p.worth else 0
  | none => 0
def dueL (pars : List Par) (W : List Int) : List Int := (List.range pars.length).map (dueAt pars W)
theorem dueL_len {pars : List Par} {W : List Int} : (dueL pars W).length = pars.length := by simp [dueL]
theorem dueAt_of {pars : List Par} {W : List Int} {i : Nat} {p : Par} (hp : pars[i]? = some p) : dueAt pars W i = if p.ins = true ∧ (i : Int) ∈ W then p.worth else 0 := by simp [dueAt, hp]
theorem dueL_get {pars : List Par} {W : List Int} {i : Nat} {p : Par} (hp : pars[i]? = some p) : (dueL pars W)[i]? = some (if p.ins = true ∧ (i : Int) ∈ W then p.worth else 0) := by
  have := lt_of_get hp
  rw [← dueAt_of hp]
  simp [dueL, this]
theorem dueL_nil {pars : List Par} : dueL pars [] = List.replicate pars.length 0 := by
  refine List.ext_getElem? fun i => ?_
  by_cases hi : i < pars.length
  · rw [dueL_get (List.getElem?_eq_getElem hi), List.getElem?_replicate, if_pos hi]; simp
  · rw [List.getElem?_eq_none (by rw [dueL_len]; omega), List.getElem?_eq_none (by simp; omega)]
theorem dueL_ins {pars : List Par} {W : List Int} {q : Nat} {p : Par} (hp : pars[q]? = some p) (hi : p.ins = true) : dueL pars (W ++ [(q : Int)]) = (dueL pars W).set q p.worth := by
  refine List.ext_getElem? fun i => ?_
  by_cases hl : i < pars.length
  · rw [dueL_get (List.getElem?_eq_getElem hl), List.getElem?_set, dueL_len, dueL_get (List.getElem?_eq_getElem hl)]
    by_cases hq : q = i
    · subst hq
      have : pars[q] = p := by rw [List.getElem?_eq_getElem hl] at hp; exact Option.some.inj hp
      rw [if_pos rfl, if_pos hl, this, if_pos ⟨hi, by simp⟩]
    · rw [if_neg hq]
      have h1 : ((i : Int) ∈ W ++ [(q : Int)]) ↔ (i : Int) ∈ W := by
        rw [List.mem_append, List.mem_singleton]
        exact ⟨fun h => h.resolve_right (by omega), .inl⟩
      simp only [h1]
  · rw [List.getElem?_eq_none (by rw [dueL_len]; omega), List.getElem?_eq_none (by rw [List.length_set, dueL_len]; omega)]
theorem dueL_not {pars : List Par} {W : List Int} {q : Nat} {p : Par} (hp : pars[q]? = some p) (hi : p.ins = false) : dueL pars (W ++ [(q : Int)]) = dueL pars W := by
  refine List.ext_getElem? fun i => ?_
  by_cases hl : i < pars.length
  · rw [dueL_get (List.getElem?_eq_getElem hl), dueL_get (List.getElem?_eq_getElem hl)]
    by_cases hq : q = i
    · subst hq
      have : pars[q] = p := by rw [List.getElem?_eq_getElem hl] at hp; exact Option.some.inj hp
      rw [this, hi]; simp
    · have h1 : ((i : Int) ∈ W ++ [(q : Int)]) ↔ (i : Int) ∈ W := by
        rw [List.mem_append, List.mem_singleton]
        exact ⟨fun h => h.resolve_right (by omega), .inl⟩
      simp only [h1]
  · rw [List.getElem?_eq_none (by rw [dueL_len]; omega), List.getElem?_eq_none (by rw [dueL_len]; omega)]
theorem dueL_take {pars : List Par} {W : List Int} {k : Nat} {p : Par} (hp : pars[k]? = some p) : (dueL pars W).take (k + 1) = (dueL pars W).take k ++ [if p.ins = true ∧ (k : Int) ∈ W then p.worth else 0] := by
  rw [List.take_add_one, dueL_get hp]; rfl
theorem dueL_bd {v : Vly} (hok : VOk v) {W : List Int} : ∀ x ∈ dueL v.pars W, 0 ≤ x ∧ x ≤ 100000 := by
  intro x hx
  obtain ⟨i, hi⟩ := List.getElem?_of_mem hx
  have hl := lt_of_get hi
  rw [dueL_len] at hl
  have hp := List.getElem?_eq_getElem hl
  rw [dueL_get hp] at hi
  have := (hok.parcel hp).1
  cases hi
  split <;> omega

/-- what is paid of what is due -/
def paidL (c : Int) (ws : List Int) : List Int := if sumL ws ≤ c then ws else shareL c ws
theorem paidL_len {c : Int} {ws : List Int} : (paidL c ws).length = ws.length := by
  unfold paidL
  split
  · rfl
  · unfold shareL; rw [outsAt_len]
theorem paid_sum {c : Int} {ws : List Int} (hc : 0 ≤ c) : sumL (paidL c ws) = min (sumL ws) c := by
  unfold paidL
  split
  · omega
  · rw [sum_share (by omega)]; omega
theorem paid_bd {c : Int} {ws : List Int} (hc : 0 ≤ c) (hws : ∀ x ∈ ws, 0 ≤ x) {i : Nat} {w l : Int} (hw : ws[i]? = some w) (hl : (paidL c ws)[i]? = some l) : 0 ≤ l ∧ l ≤ w := by
  unfold paidL at hl
  have hw0 := hws w (List.mem_of_getElem? hw)
  split at hl
  · rw [hw] at hl; cases hl; omega
  · rename_i h
    have hk := share_ok hc hws (by omega) hw hl
    refine ⟨hk.lo, ?_⟩
    have h1 := hk.lt
    generalize sumL ws = Z at *
    refine Int.not_lt.1 fun hn => ?_
    have h2 : (w + 1) * Z ≤ l * Z := Int.mul_le_mul_of_nonneg_right (by omega) (by omega)
    have h3 : c * w ≤ Z * w := Int.mul_le_mul_of_nonneg_right (by omega) hw0
    rw [Int.add_mul, Int.one_mul, Int.mul_comm w Z] at h2
    omega
end Go.Proofs.Ytphdndiikikecaa
