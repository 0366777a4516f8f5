/- PLAIN LAWS: the sets by bits are all sets; what a rate proves is no less than what any set gains. -/
import Derived.Test.YtphdndiikikecaaZBestLaw
namespace Go.Proofs.Ytphdndiikikecaa

theorem AscB.last {i n : Nat} {e : List Int} (h : AscB i (n + 1) e) : AscB i n e ∨ ∃ e', e = e' ++ [(n : Int)] ∧ AscB i n e' := by
  rcases List.eq_nil_or_concat e with rfl | ⟨e', a, rfl⟩
  · exact .inl (AscB.nil _ _)
  · rw [List.concat_eq_append] at h ⊢
    have hp := List.pairwise_append.1 h.1
    have ha := h.2 a (by simp)
    have hlt : ∀ x ∈ e', x < a := fun x hx => hp.2.2 x hx a (by simp)
    by_cases hn : a = (n : Int)
    · subst hn
      exact .inr ⟨e', rfl, hp.1, fun x hx => ⟨(h.2 x (by simp [hx])).1, hlt x hx⟩⟩
    · refine .inl ⟨h.1, fun x hx => ⟨(h.2 x hx).1, ?_⟩⟩
      rcases List.mem_append.1 hx with hx | hx
      · have := hlt x hx; omega
      · simp at hx; omega
/-- the set of some bits -/
def bitsL (b : Nat) : Nat → List Int
  | 0 => []
  | n + 1 => bitsL b n ++ (if b / 2 ^ n % 2 = 1 then [(n : Int)] else [])
theorem bitsL_asc (b : Nat) : ∀ n, AscB 0 n (bitsL b n)
  | 0 => AscB.nil _ _
  | n + 1 => by
    have ih := bitsL_asc b n
    unfold bitsL
    split
    · refine ⟨List.pairwise_append.2 ⟨ih.1, by simp, fun x hx y hy => ?_⟩, fun x hx => ?_⟩
      · simp at hy; have := ih.2 x hx; omega
      · rcases List.mem_append.1 hx with hx | hx
        · have := ih.2 x hx; omega
        · simp at hx; omega
    · rw [List.append_nil]
      exact ⟨ih.1, fun x hx => by have := ih.2 x hx; omega⟩
theorem bitsL_len (b : Nat) : ∀ n, (bitsL b n).length ≤ n
  | 0 => by simp [bitsL]
  | n + 1 => by
    have := bitsL_len b n
    unfold bitsL
    split <;> simp <;> omega
theorem bitsL_high {b n : Nat} : ∀ k, k ≤ n → bitsL (b + 2 ^ n) k = bitsL b k
  | 0, _ => rfl
  | k + 1, h => by
    have ih := bitsL_high (b := b) (n := n) k (by omega)
    unfold bitsL
    rw [ih]
    have : (b + 2 ^ n) / 2 ^ k % 2 = b / 2 ^ k % 2 := by
      obtain ⟨d, rfl⟩ : ∃ d, n = k + 1 + d := ⟨n - (k + 1), by omega⟩
      have e : 2 ^ (k + 1 + d) = 2 ^ k * (2 * 2 ^ d) := by rw [Nat.pow_add, Nat.pow_succ, Nat.mul_assoc]
      rw [e, Nat.add_mul_div_left _ _ (Nat.two_pow_pos k), Nat.add_mul_mod_self_left]
    rw [this]
theorem bits_all : ∀ (n : Nat) (e : List Int), AscB 0 n e → ∃ b, b < 2 ^ n ∧ bitsL b n = e
  | 0, e, h => ⟨0, by simp, by rw [h.none]; rfl⟩
  | n + 1, e, h => by
    rcases h.last with h2 | ⟨e', rfl, h2⟩
    · obtain ⟨b, hb, he⟩ := bits_all n e h2
      refine ⟨b, by rw [Nat.pow_succ]; omega, ?_⟩
      unfold bitsL
      rw [Nat.div_eq_of_lt hb, if_neg (by simp), List.append_nil, he]
    · obtain ⟨b, hb, he⟩ := bits_all n e' h2
      refine ⟨b + 2 ^ n, by rw [Nat.pow_succ]; omega, ?_⟩
      unfold bitsL
      rw [bitsL_high n (Nat.le_refl _), he, Nat.add_div_right _ (Nat.two_pow_pos n), Nat.div_eq_of_lt hb, if_pos (by simp)]

/-- what a parcel adds to what a rate proves -/
def moreAt (gs ps : List Int) (r : Int) (i : Nat) : Int := max 0 (1000 * gAt gs i - r * gAt ps i)
def moreTo (gs ps : List Int) (r : Int) : Nat → Int
  | 0 => 0
  | k + 1 => moreTo gs ps r k + moreAt gs ps r k
def boundL (gs ps : List Int) (n : Nat) (B r : Int) : Int := (r * B + moreTo gs ps r n) / 1000
theorem moreAt_pos (gs ps : List Int) (r : Int) (i : Nat) : 0 ≤ moreAt gs ps r i := by unfold moreAt; omega
theorem moreTo_pos (gs ps : List Int) (r : Int) : ∀ k, 0 ≤ moreTo gs ps r k
  | 0 => by simp [moreTo]
  | k + 1 => by
    have := moreTo_pos gs ps r k
    have := moreAt_pos gs ps r k
    unfold moreTo; omega
theorem more_asc (gs ps : List Int) (r : Int) : ∀ (n : Nat) (e : List Int), AscB 0 n e → 1000 * gL gs e - r * gL ps e ≤ moreTo gs ps r n
  | 0, e, h => by rw [h.none]; simp [gL, moreTo]
  | n + 1, e, h => by
    unfold moreTo
    rcases h.last with h2 | ⟨e', rfl, h2⟩
    · have := more_asc gs ps r n e h2
      have := moreAt_pos gs ps r n; omega
    · have := more_asc gs ps r n e' h2
      rw [gL_append, gL_append, gL_one, gL_one, Int.mul_add, Int.mul_add]
      have : 1000 * gAt gs n - r * gAt ps n ≤ moreAt gs ps r n := by unfold moreAt; omega
      omega
/-- no set within the budget gains more than what a rate proves -/
theorem bound_ge {gs ps : List Int} {n : Nat} {B r : Int} (hr : 0 ≤ r) {e : List Int} (he : AscB 0 n e) (hc : gL ps e ≤ B) : gL gs e ≤ boundL gs ps n B r := by
  have h1 := more_asc gs ps r n e he
  have h2 : r * gL ps e ≤ r * B := Int.mul_le_mul_of_nonneg_left hc hr
  unfold boundL
  omega
end Go.Proofs.Ytphdndiikikecaa
