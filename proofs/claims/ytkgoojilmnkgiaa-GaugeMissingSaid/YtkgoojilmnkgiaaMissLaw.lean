/- PLAIN LAWS of gaps: no number of a gap is there, those beside it are; a number between two that are there is there, or in one gap. No program in sight. -/
import Derived.Test.YtkgoojilmnkgiaaTwice
namespace Go.Proofs.Ytkgoojilmnkgiaa

def hitB (u n : Int) (g : Int × Int × Int) : Bool := decide (g.1 = u ∧ g.2.1 ≤ n ∧ n ≤ g.2.2)
def thereB (u n : Int) (r : Rdg) : Bool := decide (r.ins = u ∧ r.num = n)
def lessB (u n : Int) (r : Rdg) : Bool := decide (r.ins = u ∧ r.num < n)
def moreB (u n : Int) (r : Rdg) : Bool := decide (r.ins = u ∧ n < r.num)
def besB (g : Int × Int × Int) (r : Rdg) : Bool := decide (r.ins = g.1 ∧ (r.num = g.2.1 - 1 ∨ r.num = g.2.2 + 1))
def crossB (s : List Rdg) (u n : Int) (p : Nat) : Bool := match s[p]?, s[p + 1]? with
  | some x, some y => decide (x.ins = u ∧ y.ins = u ∧ x.num < n ∧ n < y.num)
  | _, _ => false
theorem crossB_of {s : List Rdg} {u n : Int} {p : Nat} : crossB s u n p = true ↔ ∃ x y, s[p]? = some x ∧ s[p + 1]? = some y ∧ x.ins = u ∧ y.ins = u ∧ x.num < n ∧ n < y.num := by
  unfold crossB
  split
  · rename_i x y hx hy
    simp [hx, hy]
  · rename_i h
    constructor
    · intro h1; cases h1
    · rintro ⟨x, y, hx, hy, _⟩
      exact absurd hy (h x y hx)
theorem gapAt_hit (s : List Rdg) (u n : Int) (p : Nat) : (gapAt s p).countP (hitB u n) = if crossB s u n p = true then 1 else 0 := by
  cases hx : s[p]? with
  | none => simp [gapAt, crossB, hx]
  | some x =>
    cases hy : s[p + 1]? with
    | none => simp [gapAt, crossB, hx, hy]
    | some y =>
      rw [gapAt_of hx hy]
      simp only [crossB, hx, hy, decide_eq_true_eq]
      unfold gapStep
      by_cases h1 : x.ins = y.ins ∧ x.num + 1 < y.num
      · rw [if_pos h1]
        by_cases h2 : x.ins = u ∧ y.ins = u ∧ x.num < n ∧ n < y.num
        · rw [if_pos h2, List.countP_cons_of_pos (by simp [hitB]; omega)]; rfl
        · rw [if_neg h2, List.countP_cons_of_neg (by simp [hitB]; omega)]; rfl
      · rw [if_neg h1, if_neg (by omega)]; rfl
theorem cross_lt {s : List Rdg} (h : Ord s) {u n : Int} {p q : Nat} (hp : crossB s u n p = true) (hq : crossB s u n q = true) (hpq : p < q) : False := by
  obtain ⟨x, y, hx, hy, a1, a2, a3, a4⟩ := crossB_of.1 hp
  obtain ⟨z, t, hz, ht, b1, b2, b3, b4⟩ := crossB_of.1 hq
  rcases Nat.lt_or_ge (p + 1) q with h1 | h1
  · have := ord_at h h1 hy hz
    rw [rlt_not] at this
    omega
  · obtain rfl : q = p + 1 := by omega
    rw [hy] at hz; cases hz; omega
theorem cross_uniq {s : List Rdg} (h : Ord s) {u n : Int} {p q : Nat} (hp : crossB s u n p = true) (hq : crossB s u n q = true) : p = q := by
  rcases Nat.lt_trichotomy p q with h1 | h1 | h1
  · exact (cross_lt h hp hq h1).elim
  · exact h1
  · exact (cross_lt h hq hp h1).elim
theorem hits_none {s : List Rdg} {u n : Int} : ∀ {m : Nat}, (∀ p, p < m → crossB s u n p = false) → (gapsTo s m).countP (hitB u n) = 0
  | 0, _ => rfl
  | m + 1, h => by
    rw [gapsTo_succ, List.countP_append, hits_none fun p hp => h p (by omega), gapAt_hit, if_neg (by rw [h m (by omega)]; simp)]
theorem hits_one {s : List Rdg} (hs : Ord s) {u n : Int} : ∀ {m p : Nat}, p < m → crossB s u n p = true → (gapsTo s m).countP (hitB u n) = 1
  | 0, p, h, _ => by omega
  | m + 1, p, h, hp => by
    rw [gapsTo_succ, List.countP_append, gapAt_hit]
    rcases Nat.lt_or_ge p m with h1 | h1
    · rw [hits_one hs h1 hp, if_neg]
      intro h2
      have := cross_uniq hs hp h2; omega
    · obtain rfl : p = m := by omega
      rw [if_pos hp, hits_none]
      intro q hq
      cases h2 : crossB s u n q
      · rfl
      · have := cross_uniq hs hp h2; omega
theorem cross_find {s : List Rdg} (hs : Ord s) {u n : Int} (hno : ∀ r ∈ s, thereB u n r = false) : ∀ (d i k : Nat) (x y : Rdg), i + d = k → s[i]? = some x → s[k]? = some y → lessB u n x = true → moreB u n y = true → ∃ p, crossB s u n p = true := by
  intro d
  induction d with
  | zero =>
    intro i k x y hk hx hy h1 h2
    obtain rfl : i = k := by omega
    rw [hx] at hy; cases hy
    simp [lessB] at h1; simp [moreB] at h2; omega
  | succ d ih =>
    intro i k x y hk hx hy h1 h2
    have h1' := h1; have h2' := h2
    simp [lessB] at h1'; simp [moreB] at h2'
    obtain ⟨z, hz⟩ := get_of_lt (l := s) (i := i + 1) (by have := lt_of_get hy; omega)
    have ho1 := ord_at hs (show i < i + 1 by omega) hx hz
    have hzt := hno z (List.mem_of_getElem? hz)
    simp [thereB] at hzt
    rcases Nat.lt_or_ge (i + 1) k with h3 | h3
    · have ho2 := ord_at hs h3 hz hy
      rw [rlt_not] at ho1 ho2
      have hzi : z.ins = u := by omega
      have hzn := hzt hzi
      by_cases h4 : z.num < n
      · exact ih (i + 1) k z y (by omega) hz hy (by simp [lessB]; omega) h2
      · exact ⟨i, crossB_of.2 ⟨x, z, hx, hz, h1'.1, hzi, h1'.2, by omega⟩⟩
    · obtain rfl : k = i + 1 := by omega
      exact ⟨i, crossB_of.2 ⟨x, y, hx, hy, h1'.1, h2'.1, h1'.2, h2'.2⟩⟩
theorem cross_iff {s : List Rdg} (hs : Ord s) {u n : Int} : (∃ p, crossB s u n p = true) ↔ ((∀ r ∈ s, thereB u n r = false) ∧ (∃ r ∈ s, lessB u n r = true) ∧ ∃ r ∈ s, moreB u n r = true) := by
  constructor
  · rintro ⟨p, hp⟩
    obtain ⟨x, y, hx, hy, a1, a2, a3, a4⟩ := crossB_of.1 hp
    refine ⟨fun r hr => ?_, ⟨x, List.mem_of_getElem? hx, by simp [lessB]; omega⟩, ⟨y, List.mem_of_getElem? hy, by simp [moreB]; omega⟩⟩
    cases ht : thereB u n r
    · rfl
    · exfalso
      simp [thereB] at ht
      obtain ⟨j, hj⟩ := List.getElem?_of_mem hr
      rcases Nat.lt_trichotomy j p with h1 | h1 | h1
      · have := ord_at hs h1 hj hx
        rw [rlt_not] at this; omega
      · subst h1; rw [hj] at hx; cases hx; omega
      · rcases Nat.lt_or_ge (p + 1) j with h2 | h2
        · have := ord_at hs h2 hy hj
          rw [rlt_not] at this; omega
        · obtain rfl : j = p + 1 := by omega
          rw [hj] at hy; cases hy; omega
  · rintro ⟨hno, ⟨x, hx, h1⟩, ⟨y, hy, h2⟩⟩
    obtain ⟨i, hi⟩ := List.getElem?_of_mem hx
    obtain ⟨k, hk⟩ := List.getElem?_of_mem hy
    have h1' := h1; have h2' := h2
    simp [lessB] at h1'; simp [moreB] at h2'
    rcases Nat.lt_or_ge i k with h3 | h3
    · exact cross_find hs hno (k - i) i k x y (by omega) hi hk h1 h2
    · exfalso
      rcases Nat.lt_or_ge k i with h4 | h4
      · have := ord_at hs h4 hk hi
        rw [rlt_not] at this; omega
      · obtain rfl : i = k := by omega
        rw [hi] at hk; cases hk; omega
theorem any_perm {s l : List Rdg} (h : s.Perm l) (p : Rdg → Bool) : s.any p = l.any p := by
  rw [Bool.eq_iff_iff, List.any_eq_true, List.any_eq_true]
  exact ⟨fun ⟨x, hx, hp⟩ => ⟨x, h.subset hx, hp⟩, fun ⟨x, hx, hp⟩ => ⟨x, h.symm.subset hx, hp⟩⟩
/-- How many gaps a number is in: one, just if it is not there and lies between two that are. -/
theorem miss_law {s l : List Rdg} (hs : Ord s) (hp : s.Perm l) (u n : Int) : (gapsTo s (s.length - 1)).countP (hitB u n) ≤ 1 ∧
    decide ((gapsTo s (s.length - 1)).countP (hitB u n) = 1) = (!l.any (thereB u n) && l.any (lessB u n) && l.any (moreB u n)) := by
  have hci := cross_iff hs (u := u) (n := n)
  by_cases hc : ∃ p, crossB s u n p = true
  · obtain ⟨p, hpc⟩ := hc
    obtain ⟨x, y, hx, hy, _⟩ := crossB_of.1 hpc
    have h1 := hits_one hs (show p < s.length - 1 by have := lt_of_get hy; omega) hpc
    obtain ⟨a1, ⟨b, hb, b1⟩, ⟨c, hc, c1⟩⟩ := hci.1 ⟨p, hpc⟩
    rw [h1]
    refine ⟨Nat.le_refl _, ?_⟩
    rw [← any_perm hp, ← any_perm hp, ← any_perm hp, List.any_eq_false.2 (fun r hr => by rw [a1 r hr]; simp), List.any_eq_true.2 ⟨b, hb, b1⟩, List.any_eq_true.2 ⟨c, hc, c1⟩]
    rfl
  · have h1 : (gapsTo s (s.length - 1)).countP (hitB u n) = 0 := hits_none fun p _ => by
      cases h2 : crossB s u n p
      · rfl
      · exact absurd ⟨p, h2⟩ hc
    rw [h1]
    refine ⟨by omega, ?_⟩
    have h2 : ¬ ((∀ r ∈ s, thereB u n r = false) ∧ (∃ r ∈ s, lessB u n r = true) ∧ ∃ r ∈ s, moreB u n r = true) := fun h => hc (hci.2 h)
    rw [← any_perm hp, ← any_perm hp, ← any_perm hp]
    cases ht : s.any (thereB u n)
    · cases hl : s.any (lessB u n)
      · rfl
      · cases hm : s.any (moreB u n)
        · rfl
        · exfalso
          refine h2 ⟨fun r hr => ?_, List.any_eq_true.1 hl, List.any_eq_true.1 hm⟩
          have := List.any_eq_false.1 ht r hr
          simpa using this
    · rfl
theorem count_name : ∀ {s : List Rdg} {p : Nat} {x : Rdg}, Names s → s[p]? = some x → s.countP (fun r => nameB r x) = 1
  | [], p, x, _, h => by simp at h
  | a :: s, 0, x, hn, h => by
    simp at h; subst h
    have hn' := List.pairwise_cons.1 hn
    rw [List.countP_cons_of_pos (by simp [nameB]), List.countP_eq_zero.2]
    intro r hr
    have := hn'.1 r hr
    rw [nameB_not] at this
    simp only [nameB_iff]; omega
  | a :: s, p + 1, x, hn, h => by
    have hn' := List.pairwise_cons.1 hn
    have hx : s[p]? = some x := by simpa using h
    have := hn'.1 x (List.mem_of_getElem? hx)
    rw [List.countP_cons_of_neg (by rw [this]; simp)]
    exact count_name hn'.2 hx
theorem count_two {f g : Rdg → Bool} : ∀ (s : List Rdg), (∀ r, ¬ (f r = true ∧ g r = true)) → s.countP (fun r => f r || g r) = s.countP f + s.countP g
  | [], _ => rfl
  | a :: s, h => by
    have ih := count_two s h
    have ha := h a
    simp only [List.countP_cons, ih]
    cases hf : f a <;> cases hg : g a
    · simp
    · simp; omega
    · simp; omega
    · exact absurd ⟨hf, hg⟩ ha
/-- A gap's ends, and what stands beside it. -/
theorem gap_law {s l : List Rdg} (hs : Ord s) (hp : s.Perm l) (hn : Names l) {m : Nat} {g : Int × Int × Int} (hg : g ∈ gapsTo s m) :
    l.countP (besB g) = 2 ∧ g.2.1 ≤ g.2.2 ∧ (∀ r ∈ l, r.ins = g.1 → r.num < g.2.1 ∨ g.2.2 < r.num) ∧ ∃ x ∈ l, ∃ y ∈ l, g = (x.ins, x.num + 1, y.num - 1) := by
  obtain ⟨p, _, hgp⟩ := List.mem_flatMap.1 hg
  cases hx : s[p]? with
  | none => simp [gapAt, hx] at hgp
  | some x =>
    cases hy : s[p + 1]? with
    | none => simp [gapAt, hx, hy] at hgp
    | some y =>
      rw [gapAt_of hx hy] at hgp
      unfold gapStep at hgp
      split at hgp
      · rename_i hc
        simp at hgp
        subst hgp
        refine ⟨?_, by simp; omega, fun r hr hri => ?_, x, hp.subset (List.mem_of_getElem? hx), y, hp.subset (List.mem_of_getElem? hy), rfl⟩
        · rw [← hp.countP_eq]
          have hns := hn.perm hp.symm
          have e : s.countP (besB (x.ins, x.num + 1, y.num - 1)) = s.countP (fun r => nameB r x || nameB r y) := by
            apply List.countP_congr
            intro r _
            simp only [besB, nameB, decide_eq_true_eq, Bool.or_eq_true]
            omega
          rw [e, count_two s (fun r h => by simp only [nameB_iff] at h; omega), count_name hns hx, count_name hns hy]
        · simp only at hri ⊢
          obtain ⟨j, hj⟩ := List.getElem?_of_mem (hp.symm.subset hr)
          rcases Nat.lt_or_ge j p with h1 | h1
          · have := ord_at hs h1 hj hx
            rw [rlt_not] at this; omega
          · rcases Nat.lt_or_ge (p + 1) j with h2 | h2
            · have := ord_at hs h2 hy hj
              rw [rlt_not] at this; omega
            · rcases (show j = p ∨ j = p + 1 by omega) with rfl | rfl
              · rw [hj] at hx; cases hx; omega
              · rw [hj] at hy; cases hy; omega
      · cases hgp
end Go.Proofs.Ytkgoojilmnkgiaa
