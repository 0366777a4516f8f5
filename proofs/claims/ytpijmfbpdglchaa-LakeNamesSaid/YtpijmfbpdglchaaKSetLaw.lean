/- PLAIN LAWS: the choices by bits are all choices; the best one of the first ones. -/
import Derived.Test.YtpijmfbpdglchaaKPlain
set_option linter.unusedVariables false
set_option linter.unusedSimpArgs false
namespace Go.Proofs.Ytpijmfbpdglchaa
theorem choB_mono {n : Nat} {e : List Int} (h : choB n e = true) : choB (n + 1) e = true := by
  rw [choB_iff] at *
  exact ⟨fun i x hx => by have := h.1 i x hx; omega, h.2⟩
theorem choB_nil (n : Nat) : choB n [] = true := by rw [choB_iff]; simp
theorem choB_snoc {n : Nat} {e : List Int} (h : choB n e = true) : choB (n + 1) (e ++ [(n : Int)]) = true := by
  rw [choB_iff] at *
  refine ⟨fun i x hx => ?_, fun i a b ha hb => ?_⟩
  · rw [List.getElem?_append] at hx
    split at hx
    · have := h.1 i x hx; omega
    · have := List.mem_of_getElem? hx
      simp at this; omega
  · rw [List.getElem?_append] at ha hb
    split at hb
    · rw [if_pos (by omega)] at ha
      exact h.2 i a b ha hb
    · have hb' := List.mem_of_getElem? hb
      simp at hb'
      split at ha
      · have := h.1 i a ha; omega
      · have h1 := lt_of_get hb
        simp at h1
        omega
theorem choB_last {n : Nat} {e : List Int} (h : choB (n + 1) e = true) : choB n e = true ∨ ∃ e', e = e' ++ [(n : Int)] ∧ choB n e' = true := by
  rcases List.eq_nil_or_concat e with rfl | ⟨e', a, rfl⟩
  · exact .inl (choB_nil n)
  · rw [List.concat_eq_append] at h ⊢
    have hr : riseB (e' ++ [a]) = true := by
      unfold choB at h; simp only [Bool.and_eq_true] at h; exact h.2
    have hc := choB_iff.1 h
    have ha : (e' ++ [a])[e'.length]? = some a := by simp
    have hab := hc.1 _ a ha
    have hlt : ∀ (i : Nat) (x : Int), e'[i]? = some x → x < a := fun i x hx => by
      have hi := lt_of_get hx
      exact riseB_lt hr e'.length i x a hi (by rw [List.getElem?_append, if_pos hi]; exact hx) ha
    have h2 : ∀ (i : Nat) (x y : Int), e'[i]? = some x → e'[i + 1]? = some y → x < y := fun i x y hx hy => by
      have hi := lt_of_get hx; have hj := lt_of_get hy
      exact hc.2 i x y (by rw [List.getElem?_append, if_pos hi]; exact hx) (by rw [List.getElem?_append, if_pos hj]; exact hy)
    have h1 : ∀ (i : Nat) (x : Int), e'[i]? = some x → 0 ≤ x := fun i x hx => by
      have hi := lt_of_get hx
      exact (hc.1 i x (by rw [List.getElem?_append, if_pos hi]; exact hx)).1
    by_cases hn : a = (n : Int)
    · subst hn
      exact .inr ⟨e', rfl, choB_iff.2 ⟨fun i x hx => ⟨h1 i x hx, by have := hlt i x hx; omega⟩, h2⟩⟩
    · refine .inl (choB_iff.2 ⟨fun i x hx => ?_, hc.2⟩)
      have h0 := hc.1 i x hx
      refine ⟨h0.1, ?_⟩
      rw [List.getElem?_append] at hx
      split at hx
      · have := hlt i x hx; omega
      · have := List.mem_of_getElem? hx
        simp at this; omega
/-- the choice of some bits -/
def bitsK (b : Nat) : Nat → List Int
  | 0 => []
  | n + 1 => bitsK b n ++ (if b / 2 ^ n % 2 = 1 then [(n : Int)] else [])
theorem bitsK_cho (b : Nat) : ∀ n, choB n (bitsK b n) = true
  | 0 => choB_nil _
  | n + 1 => by
    have ih := bitsK_cho b n
    unfold bitsK
    split
    · exact choB_snoc ih
    · rw [List.append_nil]; exact choB_mono ih
theorem bitsK_len (b : Nat) : ∀ n, (bitsK b n).length ≤ n
  | 0 => by simp [bitsK]
  | n + 1 => by
    have := bitsK_len b n
    unfold bitsK
    split <;> simp <;> omega
theorem bitsK_high {b n : Nat} : ∀ k, k ≤ n → bitsK (b + 2 ^ n) k = bitsK b k
  | 0, _ => rfl
  | k + 1, h => by
    have ih := bitsK_high (b := b) (n := n) k (by omega)
    unfold bitsK
    rw [ih]
    have : (b + 2 ^ n) / 2 ^ k % 2 = b / 2 ^ k % 2 := by
      obtain ⟨d, rfl⟩ : ∃ d, n = k + 1 + d := ⟨n - (k + 1), by omega⟩
      have e : 2 ^ (k + 1 + d) = 2 ^ k * (2 * 2 ^ d) := by rw [Nat.pow_add, Nat.pow_succ, Nat.mul_assoc]
      rw [e, Nat.add_mul_div_left _ _ (Nat.two_pow_pos k), Nat.add_mul_mod_self_left]
    rw [this]
theorem bitsK_all : ∀ (n : Nat) (e : List Int), choB n e = true → ∃ b, b < 2 ^ n ∧ bitsK b n = e
  | 0, e, h => by
    have := cho_len h
    exact ⟨0, by simp, by rw [List.length_eq_zero_iff.1 (show e.length = 0 by omega)]; rfl⟩
  | n + 1, e, h => by
    rcases choB_last h with h2 | ⟨e', rfl, h2⟩
    · obtain ⟨b, hb, he⟩ := bitsK_all n e h2
      refine ⟨b, by rw [Nat.pow_succ]; omega, ?_⟩
      unfold bitsK
      rw [Nat.div_eq_of_lt hb, if_neg (by simp), List.append_nil, he]
    · obtain ⟨b, hb, he⟩ := bitsK_all n e' h2
      refine ⟨b + 2 ^ n, by rw [Nat.pow_succ]; omega, ?_⟩
      unfold bitsK
      rw [bitsK_high n (Nat.le_refl _), he, Nat.add_div_right _ (Nat.two_pow_pos n), Nat.div_eq_of_lt hb, if_pos (by simp)]
/-- the best choice of the first sets -/
inductive BestTo (l : Lak) (ws : List Wrk) (s : Nat) : Bool → List Int → Prop
  | none (h : ∀ t, t < s → enB l ws (bitsK t ws.length) = false) : BestTo l ws s false []
  | some (b : List Int) (hc : choB ws.length b = true) (he : enB l ws b = true) (h : ∀ t, t < s → enB l ws (bitsK t ws.length) = true → ltC ws (bitsK t ws.length) b = false) : BestTo l ws s true b
theorem BestTo.zero (l : Lak) (ws : List Wrk) : BestTo l ws 0 false [] := .none fun t h => by omega
theorem BestTo.cho {l : Lak} {ws : List Wrk} {s : Nat} {f : Bool} {b : List Int} (h : BestTo l ws s f b) : choB ws.length b = true := by
  cases h with
  | none => exact choB_nil _
  | some _ hc => exact hc
theorem BestTo.take {l : Lak} {ws : List Wrk} {s : Nat} {f : Bool} {b : List Int} (h : BestTo l ws s f b) (hl : f = true → ltC ws (bitsK s ws.length) b = true) (he : enB l ws (bitsK s ws.length) = true) : BestTo l ws (s + 1) true (bitsK s ws.length) := by
  refine .some _ (bitsK_cho _ _) he fun t ht hen => ?_
  rcases Nat.lt_or_ge t s with h1 | h1
  · cases h with
    | none hn => rw [hn t h1] at hen; cases hen
    | some _ hc hb hm =>
      cases hx : ltC ws (bitsK t ws.length) (bitsK s ws.length)
      · rfl
      · have := ltC_trans hx (hl rfl)
        rw [hm t h1 hen] at this; cases this
  · obtain rfl : t = s := by omega
    exact ltC_irrefl _ _
theorem BestTo.keep {l : Lak} {ws : List Wrk} {s : Nat} {f : Bool} {b : List Int} (h : BestTo l ws s f b) (hk : enB l ws (bitsK s ws.length) = false ∨ (f = true ∧ ltC ws (bitsK s ws.length) b = false)) : BestTo l ws (s + 1) f b := by
  cases h with
  | none hn =>
    refine .none fun t ht => ?_
    rcases Nat.lt_or_ge t s with h1 | h1
    · exact hn t h1
    · obtain rfl : t = s := by omega
      rcases hk with hk | hk
      · exact hk
      · cases hk.1
  | some _ hc hb hm =>
    refine .some _ hc hb fun t ht hen => ?_
    rcases Nat.lt_or_ge t s with h1 | h1
    · exact hm t h1 hen
    · obtain rfl : t = s := by omega
      rcases hk with hk | hk
      · rw [hk] at hen; cases hen
      · exact hk.2
theorem BestTo.all {l : Lak} {ws : List Wrk} {f : Bool} {b : List Int} (h : BestTo l ws (2 ^ ws.length) f b) : (f = true ∧ Best l ws b) ∨ (f = false ∧ ∀ c, choB ws.length c = true → enB l ws c = false) := by
  cases h with
  | none hn =>
    refine .inr ⟨rfl, fun c hc => ?_⟩
    obtain ⟨t, ht, rfl⟩ := bitsK_all _ _ hc
    exact hn t ht
  | some _ hc hb hm =>
    refine .inl ⟨rfl, ⟨hc, hb, fun c hc2 hen => ?_⟩⟩
    obtain ⟨t, ht, rfl⟩ := bitsK_all _ _ hc2
    exact hm t ht hen
theorem bitK_at (b k : Nat) : ((b : Int) / (2 : Int) ^ k).tmod 2 = ((b / 2 ^ k % 2 : Nat) : Int) := by
  have h1 : (b : Int) / (2 : Int) ^ k = ((b / 2 ^ k : Nat) : Int) := by
    rw [show (2 : Int) ^ k = ((2 ^ k : Nat) : Int) by simp]
    exact (Int.natCast_ediv _ _).symm
  rw [h1]
  generalize b / 2 ^ k = t
  rw [Int.tmod_eq_emod_of_nonneg (by omega)]
  omega
end Go.Proofs.Ytpijmfbpdglchaa
