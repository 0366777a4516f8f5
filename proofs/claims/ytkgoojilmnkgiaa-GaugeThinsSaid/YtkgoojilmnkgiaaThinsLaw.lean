/- PLAIN LAWS of thinned series: what Thin hands back is proved, is the shortest, and is no longer for a greater step. -/
import Derived.Test.YtkgoojilmnkgiaaProve
import Derived.Test.YtkgoojilmnkgiaaThinSt
namespace Go.Proofs.Ytkgoojilmnkgiaa

theorem near_mono {l : List (Int × Int)} {a b : Nat} {s s' : Int} (hs : s ≤ s') (h : nearB l a b s = true) : nearB l a b s' = true := by
  unfold nearB at h ⊢
  rw [allB_iff] at h ⊢
  intro i x hx
  have := h i x hx
  unfold nearP at this ⊢
  rw [inB_iff] at this ⊢
  omega
theorem hops_mono {l : List (Int × Int)} {s s' : Int} {last : Nat} (hs : s ≤ s') : ∀ k a, HopsK l s last k a → HopsK l s' last k a
  | 0, _, h => h
  | k + 1, a, ⟨b, h1, h2, h3, h4⟩ => ⟨b, h1, h2, near_mono hs h3, hops_mono hs k b h4⟩
theorem greedy_len {l : List (Int × Int)} {s : Int} {last : Nat} : ∀ (r : List Nat) (a : Nat), Greedy l s last a r → r.length = restN l s last a
  | [], a, h => by obtain rfl : a = last := h; exact (restN_of (isRest_last _ _ _)).symm
  | b :: r, a, ⟨_, _, hg, _, hr⟩ => by
    have ih := greedy_len r b hr
    simp only [goodB, Bool.and_eq_true, decide_eq_true_eq] at hg
    rw [List.length_cons, ih]; omega
theorem greedy_chain {l : List (Int × Int)} {s : Int} {last : Nat} : ∀ (r : List Nat) (a : Nat), Greedy l s last a r → (a :: r)[r.length]? = some last ∧ ∀ (i u v : Nat), (a :: r)[i]? = some u → (a :: r)[i + 1]? = some v → u < v ∧ v ≤ last ∧ nearB l u v s = true
  | [], a, h => by
    obtain rfl : a = last := h
    exact ⟨rfl, fun i u v _ hv => by simp at hv⟩
  | b :: r, a, ⟨h1, h2, hg, _, hr⟩ => by
    have ih := greedy_chain r b hr
    simp only [goodB, Bool.and_eq_true, decide_eq_true_eq] at hg
    refine ⟨by simpa using ih.1, fun i u v hu hv => ?_⟩
    match i, hu, hv with
    | 0, hu, hv => simp at hu hv; subst hu; subst hv; exact ⟨h1, h2, hg.1⟩
    | i + 1, hu, hv => exact ih.2 i u v (by simpa using hu) (by simpa using hv)
/-- what Thin hands back -/
def Thinned (l : List (Int × Int)) (s : Int) (x : List Int) : Prop := (l = [] → x = []) ∧ (l ≠ [] → ∃ r : List Nat, Greedy l s (l.length - 1) 0 r ∧ x = (0 :: r).map Int.ofNat)
theorem thin_proved {l : List (Int × Int)} {s : Int} {x : List Int} (ha : askedE l s = 0) (h : Thinned l s x) : Proved l s x := by
  refine ⟨ha, ?_⟩
  by_cases hl : l = []
  · exact .inl ⟨hl, h.1 hl⟩
  · obtain ⟨r, hr, rfl⟩ := h.2 hl
    have hp : 0 < l.length := List.length_pos_iff.2 hl
    obtain ⟨hlast, hch⟩ := greedy_chain r 0 hr
    refine .inr ⟨hl, rfl, ?_, fun i u v hu hv => ?_⟩
    · rw [List.length_map, List.length_cons, Nat.add_sub_cancel, List.getElem?_map, hlast]
      simp; omega
    · simp only [List.getElem?_map, Option.map_eq_some_iff] at hu hv
      obtain ⟨U, hU, rfl⟩ := hu
      obtain ⟨V, hV, rfl⟩ := hv
      have := hch i U V hU hV
      exact ⟨by simp; omega, by simp; omega, by simpa using this.2.2⟩
theorem proved_pos {l : List (Int × Int)} {s : Int} {x : List Int} (h0 : x[0]? = some 0) (hc : ∀ (i : Nat) (u v : Int), x[i]? = some u → x[i + 1]? = some v → Hop l s u v) : ∀ (i : Nat) (u : Int), x[i]? = some u → 0 ≤ u
  | 0, u, hu => by rw [h0] at hu; cases hu; exact Int.le_refl _
  | i + 1, u, hu => by
    obtain ⟨v, hv⟩ := get_of_lt (l := x) (i := i) (by have := lt_of_get hu; omega)
    have h1 := proved_pos h0 hc i v hv
    have := (hc i v u hv hu).1
    omega
theorem proved_hops {l : List (Int × Int)} {s : Int} {x : List Int} (h0 : x[0]? = some 0) (hlast : x[x.length - 1]? = some ((l.length : Int) - 1)) (hc : ∀ (i : Nat) (u v : Int), x[i]? = some u → x[i + 1]? = some v → Hop l s u v) :
    ∀ (d i : Nat) (u : Int), i + d + 1 = x.length → x[i]? = some u → HopsK l s (l.length - 1) d u.toNat
  | 0, i, u, hd, hu => by
    rw [show i = x.length - 1 by omega, hlast] at hu
    cases hu
    show ((l.length : Int) - 1).toNat = l.length - 1
    omega
  | d + 1, i, u, hd, hu => by
    obtain ⟨v, hv⟩ := get_of_lt (l := x) (i := i + 1) (by omega)
    have hh := hc i u v hu hv
    have hu0 := proved_pos h0 hc i u hu
    exact ⟨v.toNat, by have := hh.1; omega, by have := hh.2.1; omega, hh.2.2, proved_hops h0 hlast hc d (i + 1) v (by omega) hv⟩
theorem thin_least {l : List (Int × Int)} {s : Int} {x kept : List Int} (ha : askedE l s = 0) (h : Thinned l s x) (hk : Proved l s kept) : x.length ≤ kept.length := by
  rcases hk.2 with ⟨hl, rfl⟩ | ⟨hl, h0, hlast, hc⟩
  · rw [h.1 hl]; exact Nat.le_refl _
  · obtain ⟨r, hr, rfl⟩ := h.2 hl
    have hp : 0 < l.length := List.length_pos_iff.2 hl
    have hs := inB_iff.1 (askedE_zero.1 ha).2
    have hkl := lt_of_get h0
    have h1 := proved_hops h0 hlast hc (kept.length - 1) 0 0 (by omega) h0
    have h2 := (restN_is (l := l) (s := s) (last := l.length - 1) (a := 0) (by omega) hs.1 (Nat.zero_le _)).2 _ h1
    rw [List.length_map, List.length_cons, greedy_len r 0 hr]; omega
theorem thin_more {l : List (Int × Int)} {s s' : Int} {x y : List Int} (hs : 0 ≤ s) (hss : s ≤ s') (hx : Thinned l s x) (hy : Thinned l s' y) : y.length ≤ x.length := by
  by_cases hl : l = []
  · rw [hx.1 hl, hy.1 hl]; exact Nat.le_refl _
  · obtain ⟨r, hr, rfl⟩ := hx.2 hl
    obtain ⟨q, hq, rfl⟩ := hy.2 hl
    have hp : 0 < l.length := List.length_pos_iff.2 hl
    have h1 := (restN_is (l := l) (s := s) (last := l.length - 1) (a := 0) (by omega) hs (Nat.zero_le _)).1
    have h2 := (restN_is (l := l) (s := s') (last := l.length - 1) (a := 0) (by omega) (by omega) (Nat.zero_le _)).2 _ (hops_mono hss _ _ h1)
    simp only [List.length_map, List.length_cons]
    rw [greedy_len r 0 hr, greedy_len q 0 hq]; omega
theorem all_proved {l : List (Int × Int)} {s : Int} (ha : askedE l s = 0) : Proved l s ((List.range l.length).map Int.ofNat) := by
  refine ⟨ha, ?_⟩
  have hs := inB_iff.1 (askedE_zero.1 ha).2
  by_cases hl : l = []
  · exact .inl ⟨hl, by rw [hl]; rfl⟩
  · have hp : 0 < l.length := List.length_pos_iff.2 hl
    refine .inr ⟨hl, by simp [List.getElem?_range hp], ?_, fun i u v hu hv => ?_⟩
    · rw [List.length_map, List.length_range, List.getElem?_map, List.getElem?_range (by omega)]; simp; omega
    · simp only [List.getElem?_map, Option.map_eq_some_iff] at hu hv
      obtain ⟨U, hU, rfl⟩ := hu
      obtain ⟨V, hV, rfl⟩ := hv
      have h1 := lt_of_get hV
      rw [List.length_range] at h1
      rw [List.getElem?_range (by omega)] at hU hV
      cases hU; cases hV
      exact ⟨by simp; omega, by simp; omega, by simpa using near_succ h1 hs.1⟩
/-- between two kept points every point is near their line -/
theorem proved_near {l : List (Int × Int)} {s : Int} {x : List Int} (h : Proved l s x) {k : Nat} {u v : Int} (hu : x[k]? = some u) (hv : x[k + 1]? = some v) : 0 ≤ u ∧ u < v ∧ v < (l.length : Int) ∧
    ∀ (a b z : Int × Int) (i : Nat), l[u.toNat]? = some a → l[v.toNat]? = some b → u ≤ (i : Int) → (i : Int) < v → l[i]? = some z → -s ≤ z.2 - lineV a b z.1 ∧ z.2 - lineV a b z.1 ≤ s := by
  rcases h.2 with ⟨_, hx⟩ | ⟨_, h0, _, hc⟩
  · rw [hx] at hu; cases hu
  · have hp := proved_pos h0 hc k u hu
    have hh := hc k u v hu hv
    refine ⟨hp, hh.1, hh.2.1, fun a b z i ha hb h1 h2 hz => ?_⟩
    have := (nearB_iff ha hb).1 hh.2.2 i z (by omega) (by have := hh.1; omega) hz
    unfold nearP at this
    exact inB_iff.1 this
end Go.Proofs.Ytkgoojilmnkgiaa
