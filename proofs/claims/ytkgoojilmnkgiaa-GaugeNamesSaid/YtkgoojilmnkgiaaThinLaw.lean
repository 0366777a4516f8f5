/- PLAIN LAWS of thinnings: the least number of points behind one. No program in sight. -/
import Derived.Test.YtkgoojilmnkgiaaNear
namespace Go.Proofs.Ytkgoojilmnkgiaa

/-- from one index to the last one in so many steps, each near its line -/
def HopsK (l : List (Int × Int)) (s : Int) (last : Nat) : Nat → Nat → Prop
  | 0, a => a = last
  | k + 1, a => ∃ b, a < b ∧ b ≤ last ∧ nearB l a b s = true ∧ HopsK l s last k b
/-- the least such number -/
def IsRest (l : List (Int × Int)) (s : Int) (last a r : Nat) : Prop := HopsK l s last r a ∧ ∀ k, HopsK l s last k a → r ≤ k

theorem IsRest.unique {l : List (Int × Int)} {s : Int} {last a r r' : Nat} (h : IsRest l s last a r) (h' : IsRest l s last a r') : r = r' :=
  Nat.le_antisymm (h.2 _ h'.1) (h'.2 _ h.1)

theorem lineV_self {x y : Int × Int} : lineV x y x.1 = x.2 := by simp [lineV]
theorem near_succ {l : List (Int × Int)} {s : Int} {a : Nat} (ha : a + 1 < l.length) (hs : 0 ≤ s) : nearB l a (a + 1) s = true := by
  obtain ⟨x, hx⟩ := get_of_lt (l := l) (i := a) (by omega)
  obtain ⟨y, hy⟩ := get_of_lt ha
  rw [nearB_iff hx hy]
  intro i z h1 h2 hz
  obtain rfl : i = a := by omega
  rw [hx] at hz; cases hz
  rw [nearP, lineV_self, inB_iff]; omega
theorem hops_all {l : List (Int × Int)} {s : Int} {last : Nat} (hl : last < l.length) (hs : 0 ≤ s) : ∀ d a, a + d = last → HopsK l s last d a
  | 0, a, h => by simpa [HopsK] using h
  | d + 1, a, h => ⟨a + 1, by omega, by omega, near_succ (by omega) hs, hops_all hl hs d (a + 1) (by omega)⟩
theorem IsRest.le {l : List (Int × Int)} {s : Int} {last a r : Nat} (h : IsRest l s last a r) (hl : last < l.length) (hs : 0 ≤ s) (ha : a ≤ last) : r ≤ last - a :=
  h.2 _ (hops_all hl hs (last - a) a (by omega))
theorem isRest_last (l : List (Int × Int)) (s : Int) (last : Nat) : IsRest l s last last 0 := ⟨rfl, fun _ _ => Nat.zero_le _⟩

/-- what the loop of 'rest' knows at b -/
def MinTo (l : List (Int × Int)) (s : Int) (last a b m : Nat) : Prop :=
  (m = l.length ∨ HopsK l s last m a) ∧ ∀ b' k, a < b' → b' < b → b' ≤ last → nearB l a b' s = true → HopsK l s last k b' → m ≤ k + 1
theorem MinTo.start (l : List (Int × Int)) (s : Int) (last a : Nat) : MinTo l s last a (a + 1) l.length := ⟨.inl rfl, fun b' k h1 h2 => by omega⟩
theorem MinTo.far {l : List (Int × Int)} {s : Int} {last a b m : Nat} (h : MinTo l s last a b m) (hn : nearB l a b s = false) : MinTo l s last a (b + 1) m :=
  ⟨h.1, fun b' k h1 h2 h3 h4 h5 => by
    rcases Nat.lt_or_ge b' b with h' | h'
    · exact h.2 b' k h1 h' h3 h4 h5
    · obtain rfl : b' = b := by omega
      rw [hn] at h4; cases h4⟩
theorem MinTo.near {l : List (Int × Int)} {s : Int} {last a b m r : Nat} (h : MinTo l s last a b m) (hab : a < b) (hb : b ≤ last) (hn : nearB l a b s = true) (hr : IsRest l s last b r) : MinTo l s last a (b + 1) (min m (1 + r)) := by
  refine ⟨?_, fun b' k h1 h2 h3 h4 h5 => ?_⟩
  · rcases Nat.le_total m (1 + r) with h' | h'
    · rw [Nat.min_eq_left h']; exact h.1
    · rw [Nat.min_eq_right h']
      exact .inr (by rw [Nat.add_comm]; exact ⟨b, hab, hb, hn, hr.1⟩)
  · rcases Nat.lt_or_ge b' b with h' | h'
    · have := h.2 b' k h1 h' h3 h4 h5; omega
    · obtain rfl : b' = b := by omega
      have := hr.2 k h5; omega
theorem MinTo.done {l : List (Int × Int)} {s : Int} {last a m : Nat} (h : MinTo l s last a (last + 1) m) (hl : last < l.length) (hs : 0 ≤ s) (ha : a < last) : IsRest l s last a m := by
  have hall : ∀ k, HopsK l s last k a → m ≤ k := by
    intro k hk
    match k, hk with
    | 0, hk => simp [HopsK] at hk; omega
    | k + 1, ⟨b, h1, h2, h3, h4⟩ => exact h.2 b k h1 (by omega) h2 h3 h4
  have h1 := hall _ (hops_all hl hs (last - a) a (by omega))
  rcases h.1 with h2 | h2
  · omega
  · exact ⟨h2, hall⟩
theorem rest_exists {l : List (Int × Int)} {s : Int} {last : Nat} (hl : last < l.length) (hs : 0 ≤ s) {a : Nat} (ha : a ≤ last) : ∃ r, IsRest l s last a r := by
  have key : ∀ n, (∃ k, k ≤ n ∧ HopsK l s last k a) → ∃ r, IsRest l s last a r := by
    intro n
    induction n with
    | zero =>
      rintro ⟨k, hk, h⟩
      obtain rfl : k = 0 := by omega
      exact ⟨0, h, fun _ _ => Nat.zero_le _⟩
    | succ n ih =>
      rintro ⟨k, hk, h⟩
      by_cases hex : ∃ k, k ≤ n ∧ HopsK l s last k a
      · exact ih hex
      · have hkn : k = n + 1 := by
          rcases Nat.lt_or_ge k (n + 1) with h' | h'
          · exact absurd ⟨k, by omega, h⟩ hex
          · omega
        exact ⟨k, h, fun j hj => by
          rcases Nat.lt_or_ge j k with h' | h'
          · exact absurd ⟨j, by omega, hj⟩ hex
          · exact h'⟩
  exact key _ ⟨_, Nat.le_refl _, hops_all hl hs (last - a) a (by omega)⟩
end Go.Proofs.Ytkgoojilmnkgiaa
