/- PLAIN LAWS of the right time: at a mark, between marks, more for more. No program in sight. -/
import Derived.Test.YtkgoojilmnkgiaaTimes
namespace Go.Proofs.Ytkgoojilmnkgiaa

theorem time_low {l : List (Int × Int)} {a v : Int} (hok : MarksOk l) (h : IsTime l a v) {i : Nat} {m : Int × Int} (hm : l[i]? = some m) (hlo : m.1 ≤ a) (hhi : ∀ y, l[i + 1]? = some y → a < y.1) : m.2 ≤ v := by
  have hat := h.at_ hm (.inr hlo) hhi
  by_cases hc : a ≤ m.1 ∨ i = l.length - 1
  · rw [hat.1 hc]; omega
  · obtain ⟨y, hy⟩ := get_of_lt (l := l) (i := i + 1) (by have := lt_of_get hm; omega)
    rw [hat.2 y hy (by omega)]
    have h1 := hok.mark hm; have h2 := hok.mark hy; have h3 := hok.step hm hy; have h4 := hhi y hy
    have := interp_bounds (a := a - m.1) (b := y.2 - m.2) (c := y.1 - m.1) (d := y.2 - m.2) (by omega) (by omega) (by omega) (by omega) (by omega) (Int.le_refl _)
    omega
theorem time_high {l : List (Int × Int)} {a v : Int} (hok : MarksOk l) (h : IsTime l a v) {i : Nat} {m u : Int × Int} (hm : l[i]? = some m) (hlo : i = 0 ∨ m.1 ≤ a) (hu : l[i + 1]? = some u) (hhi : a < u.1) : v ≤ u.2 := by
  have hhi' : ∀ y, l[i + 1]? = some y → a < y.1 := fun y hy => by rw [hu] at hy; cases hy; exact hhi
  have hat := h.at_ hm hlo hhi'
  have h1 := hok.mark hm; have h2 := hok.mark hu; have h3 := hok.step hm hu
  by_cases hc : a ≤ m.1
  · rw [hat.1 (.inl hc)]; omega
  · rw [hat.2 u hu (by omega)]
    have := interp_bounds (a := a - m.1) (b := u.2 - m.2) (c := u.1 - m.1) (d := u.2 - m.2) (by omega) (by omega) (by omega) (by omega) (by omega) (Int.le_refl _)
    omega
/-- More is shown, not less is right. -/
theorem time_mono {l : List (Int × Int)} {a b x y : Int} (hok : MarksOk l) (ha : IsTime l a x) (hb : IsTime l b y) (hab : a ≤ b) : x ≤ y := by
  obtain ⟨i, m, hm, hm1, hm2⟩ := place_of a hok
  obtain ⟨j, u, hu, hu1, hu2⟩ := place_of b hok
  rcases Nat.lt_trichotomy i j with h | h | h
  · obtain ⟨z, hz⟩ := get_of_lt (l := l) (i := i + 1) (by have := lt_of_get hu; omega)
    have h1 := time_high hok ha hm hm1 hz (hm2 z hz)
    have hub : u.1 ≤ b := hu1.resolve_left (by omega)
    have h2 := time_low hok hb hu hub hu2
    have h3 : z.2 ≤ u.2 := by
      rcases Nat.lt_or_ge (i + 1) j with h' | h'
      · have := hok.mono h' hz hu; omega
      · obtain rfl : j = i + 1 := by omega
        rw [hz] at hu; cases hu; exact Int.le_refl _
    omega
  · subst h
    rw [hm] at hu; cases hu
    have pa := ha.at_ hm hm1 hm2
    have pb := hb.at_ hm hu1 hu2
    by_cases hc : a ≤ m.1
    · rw [pa.1 (.inl hc)]
      by_cases hd : b ≤ m.1
      · rw [pb.1 (.inl hd)]; omega
      · have := time_low hok hb hm (by omega) hu2
        omega
    · by_cases hl : i = l.length - 1
      · rw [pa.1 (.inr hl), pb.1 (.inr hl)]; omega
      · obtain ⟨z, hz⟩ := get_of_lt (l := l) (i := i + 1) (by have := lt_of_get hm; omega)
        rw [pa.2 z hz (by omega), pb.2 z hz (by omega)]
        have h3 := hok.step hm hz
        have h4 : (a - m.1) * (z.2 - m.2) ≤ (b - m.1) * (z.2 - m.2) := Int.mul_le_mul_of_nonneg_right (by omega) (by omega)
        have h5 := Int.ediv_le_ediv (show 0 < z.1 - m.1 by omega) h4
        omega
  · have hma : m.1 ≤ a := hm1.resolve_left (by omega)
    obtain ⟨z, hz⟩ := get_of_lt (l := l) (i := j + 1) (by have := lt_of_get hm; omega)
    have h1 := hu2 z hz
    have h3 : z.1 ≤ m.1 := by
      rcases Nat.lt_or_ge (j + 1) i with h' | h'
      · have := hok.mono h' hz hm; omega
      · obtain rfl : i = j + 1 := by omega
        rw [hz] at hm; cases hm; exact Int.le_refl _
    omega
/-- At a mark the right time is its own. -/
theorem time_at {l : List (Int × Int)} {v : Int} (hok : MarksOk l) {k : Nat} {m : Int × Int} (hm : l[k]? = some m) (h : IsTime l m.1 v) : v = m.2 := by
  have hhi : ∀ y, l[k + 1]? = some y → m.1 < y.1 := fun y hy => (hok.step hm hy).1
  rw [(h.at_ hm (.inr (Int.le_refl _)) hhi).1 (.inl (Int.le_refl _))]; omega
theorem time_mark {l : List (Int × Int)} (hok : MarksOk l) {k : Nat} {m : Int × Int} (hm : l[k]? = some m) : IsTime l m.1 m.2 := by
  refine isTime_mk hok hm (.inr (Int.le_refl _)) (fun y hy => (hok.step hm hy).1) (fun _ => by omega) (fun y _ hlt => absurd hlt (by omega))
theorem time_ge {l : List (Int × Int)} {a x : Int} (hok : MarksOk l) {k : Nat} {m : Int × Int} (hm : l[k]? = some m) (h : IsTime l a x) (ha : m.1 ≤ a) : m.2 ≤ x := time_mono hok (time_mark hok hm) h ha
theorem time_le {l : List (Int × Int)} {a x : Int} (hok : MarksOk l) {k : Nat} {m : Int × Int} (hm : l[k]? = some m) (h : IsTime l a x) (ha : a ≤ m.1) : x ≤ m.2 := time_mono hok h (time_mark hok hm) ha

/-- marks whose true times are their clocks -/
def plainM (l : List (Int × Int)) : List (Int × Int) := l.map fun m => (m.1, m.1)
theorem plain_ok {l : List (Int × Int)} (h : MarksOk l) : MarksOk (plainM l) := by
  have hlen : (plainM l).length = l.length := by simp [plainM]
  refine ⟨by rw [hlen]; exact h.1, by rw [hlen]; exact h.2.1, allB_iff.2 fun i x hx => ?_, fun i x y hi hx hy => ?_⟩
  · simp only [plainM, List.getElem?_map, Option.map_eq_some_iff] at hx
    obtain ⟨m, hm, rfl⟩ := hx
    have := h.mark hm
    exact markB_iff.2 ⟨this.1, this.1⟩
  · simp only [plainM, List.getElem?_map, Option.map_eq_some_iff] at hx hy
    obtain ⟨m, hm, rfl⟩ := hx
    obtain ⟨u, hu, rfl⟩ := hy
    have := h.step hm hu
    exact ⟨this.1, this.1⟩
theorem plain_time {l : List (Int × Int)} (hok : MarksOk l) {a v : Int} (h : IsTime (plainM l) a v) : v = a := by
  refine IsTime.unique (plain_ok hok) h ?_
  obtain ⟨i, m, hm, h1, h2⟩ := place_of a (plain_ok hok)
  have hmm : m.2 = m.1 := by
    simp only [plainM, List.getElem?_map, Option.map_eq_some_iff] at hm
    obtain ⟨u, _, rfl⟩ := hm; rfl
  refine isTime_mk (plain_ok hok) hm h1 h2 (fun _ => by omega) (fun y hy hlt => ?_)
  have hyy : y.2 = y.1 := by
    simp only [plainM, List.getElem?_map, Option.map_eq_some_iff] at hy
    obtain ⟨u, _, rfl⟩ := hy; rfl
  have := (plain_ok hok).step hm hy
  rw [hyy, hmm, Int.mul_ediv_cancel _ (by omega)]; omega
end Go.Proofs.Ytkgoojilmnkgiaa
