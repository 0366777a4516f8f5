/- PLAIN LAW of buying: what the tries find is the best of all sets within the budget. -/
import Derived.Test.YtphdndiikikecaaZBuyLaw
set_option linter.unusedVariables false
set_option linter.unusedSimpArgs false
namespace Go.Proofs.Ytphdndiikikecaa

theorem cmpL_refl : ∀ l : List Int, cmpL l l = 0
  | [] => rfl
  | a :: l => by simp [cmpL, cmpL_refl l]
theorem cmpL_zero : ∀ l m : List Int, cmpL l m = 0 → l = m
  | [], [], _ => rfl
  | [], _ :: _, h => by simp [cmpL] at h
  | _ :: _, [], h => by simp [cmpL] at h
  | a :: l, b :: m, h => by
    simp only [cmpL] at h
    by_cases hab : a = b
    · rw [if_pos hab] at h; rw [hab, cmpL_zero l m h]
    · rw [if_neg hab] at h; split at h <;> omega
theorem cmpL_swap : ∀ l m : List Int, cmpL m l = - cmpL l m
  | [], [] => rfl
  | [], _ :: _ => rfl
  | _ :: _, [] => rfl
  | a :: l, b :: m => by
    simp only [cmpL]
    by_cases hab : a = b
    · rw [if_pos hab, if_pos hab.symm]; exact cmpL_swap l m
    · rw [if_neg hab, if_neg (Ne.symm hab)]
      split <;> split <;> omega
theorem cmpL_trans : ∀ l m r : List Int, cmpL l m ≤ 0 → cmpL m r ≤ 0 → cmpL l r ≤ 0
  | [], _, [], _, _ => by simp [cmpL]
  | [], _, _ :: _, _, _ => by simp [cmpL]
  | _ :: _, [], _, h, _ => by simp [cmpL] at h
  | _ :: _, _ :: _, [], _, h => by simp [cmpL] at h
  | a :: l, b :: m, c :: r, h1, h2 => by
    have ih := cmpL_trans l m r
    simp only [cmpL] at h1 h2 ⊢
    by_cases hab : a = b
    · subst hab
      rw [if_pos rfl] at h1
      by_cases hac : a = c
      · subst hac
        rw [if_pos rfl] at h2 ⊢
        exact ih h1 h2
      · rw [if_neg hac] at h2 ⊢; exact h2
    · rw [if_neg hab] at h1
      have hlt : a < b := by
        refine Classical.byContradiction fun hn => ?_
        rw [if_neg hn] at h1; omega
      by_cases hbc : b = c
      · subst hbc
        rw [if_neg (by omega), if_pos hlt]; omega
      · rw [if_neg hbc] at h2
        have hlt2 : b < c := by
          refine Classical.byContradiction fun hn => ?_
          rw [if_neg hn] at h2; omega
        rw [if_neg (by omega), if_pos (by omega)]; omega

/-- one is at least as good as another one -/
def geB (r s : Bst) : Prop := s.gain < r.gain ∨ (s.gain = r.gain ∧ (r.cost < s.cost ∨ (s.cost = r.cost ∧ cmpL r.set s.set ≤ 0)))
theorem geB_refl (r : Bst) : geB r r := .inr ⟨rfl, .inr ⟨rfl, by rw [cmpL_refl]; omega⟩⟩
theorem geB_trans {r s t : Bst} (h : geB r s) (k : geB s t) : geB r t := by
  unfold geB at *
  have := cmpL_trans r.set s.set t.set
  omega
theorem geB_total (r s : Bst) : geB r s ∨ geB s r := by
  unfold geB
  have := cmpL_swap r.set s.set
  omega
theorem geB_anti {r s : Bst} (h : geB r s) (k : geB s r) : r = s := by
  obtain ⟨g, c, l⟩ := r
  obtain ⟨g', c', l'⟩ := s
  unfold geB at *
  simp only at h k
  have := cmpL_swap l l'
  have hz : cmpL l l' = 0 := by omega
  obtain rfl := cmpL_zero _ _ hz
  obtain rfl : g = g' := by omega
  obtain rfl : c = c' := by omega
  rfl
theorem betterB_iff {g c : Int} {l : List Int} {b : Bst} : betterB g c l b = true ↔ ¬ geB b ⟨g, c, l⟩ := by
  unfold betterB geB
  have := cmpL_swap l b.set
  split
  · rename_i h
    rw [decide_eq_true_iff]; simp only; omega
  · rename_i h
    split
    · rw [decide_eq_true_iff]; simp only; omega
    · rw [decide_eq_true_iff]; simp only; omega
theorem updB_ge (g c : Int) (l : List Int) (st : Bst) : geB (updB g c l st) st ∧ geB (updB g c l st) ⟨g, c, l⟩ ∧ (updB g c l st = st ∨ updB g c l st = ⟨g, c, l⟩) := by
  unfold updB
  by_cases h : betterB g c l st = true
  · rw [if_pos h]
    refine ⟨?_, geB_refl _, .inr rfl⟩
    exact (geB_total _ _).resolve_right (betterB_iff.1 h)
  · rw [if_neg h]
    refine ⟨geB_refl _, ?_, .inl rfl⟩
    exact Classical.byContradiction fun hn => h (betterB_iff.2 hn)

/-- the sum over a set -/
def gL (gs : List Int) (l : List Int) : Int := (l.map fun x => gAt gs x.toNat).sum
theorem gL_nil (gs : List Int) : gL gs [] = 0 := rfl
theorem gL_append (gs l m : List Int) : gL gs (l ++ m) = gL gs l + gL gs m := by simp [gL]
theorem gL_one (gs : List Int) (i : Nat) : gL gs [(i : Int)] = gAt gs i := by simp [gL]
theorem gL_pos {gs : List Int} (h : ∀ i, 0 ≤ gAt gs i) : ∀ l, 0 ≤ gL gs l
  | [] => by simp [gL]
  | a :: l => by
    have := gL_pos h l
    have := h a.toNat
    unfold gL at *
    simp; omega
/-- ascending numbers from i to below n -/
def AscB (i n : Nat) (e : List Int) : Prop := e.Pairwise (· < ·) ∧ ∀ x ∈ e, (i : Int) ≤ x ∧ x < n
theorem AscB.nil (i n : Nat) : AscB i n [] := ⟨List.Pairwise.nil, fun _ h => by cases h⟩
theorem AscB.mono {i j n : Nat} {e : List Int} (h : AscB j n e) (hij : i ≤ j) : AscB i n e := ⟨h.1, fun x hx => by have := h.2 x hx; omega⟩
theorem AscB.cons {i n : Nat} {e : List Int} (h : AscB (i + 1) n e) (hi : i < n) : AscB i n ((i : Int) :: e) :=
  ⟨List.pairwise_cons.2 ⟨fun x hx => by have := h.2 x hx; omega, h.1⟩, fun x hx => by
    rcases List.mem_cons.1 hx with rfl | hx
    · omega
    · have := h.2 x hx; omega⟩
theorem AscB.tail {i n : Nat} {e : List Int} (h : AscB i n ((i : Int) :: e)) : AscB (i + 1) n e :=
  ⟨(List.pairwise_cons.1 h.1).2, fun x hx => by
    have := (List.pairwise_cons.1 h.1).1 x hx
    have := h.2 x (List.mem_cons_of_mem _ hx); omega⟩
theorem AscB.skip {i n : Nat} {a : Int} {e : List Int} (h : AscB i n (a :: e)) (ha : a ≠ i) : AscB (i + 1) n (a :: e) :=
  ⟨h.1, fun x hx => by
    have h0 := h.2 a (by simp)
    rcases List.mem_cons.1 hx with rfl | hx'
    · omega
    · have := (List.pairwise_cons.1 h.1).1 x hx'
      have := h.2 x hx; omega⟩
theorem AscB.none {n : Nat} {e : List Int} (h : AscB n n e) : e = [] := by
  cases e with
  | nil => rfl
  | cons a e => have := h.2 a (by simp); omega

def bst (gs ps l : List Int) : Bst := ⟨gL gs l, gL ps l, l⟩
theorem loopB_spec {gs ps : List Int} {B : Int} (hp : ∀ i, 0 ≤ gAt ps i) (n : Nat) : ∀ (k i : Nat) (l : List Int) (st : Bst), i + k = n →
    geB (loopB gs ps B k i (gL gs l) (gL ps l) l st) st ∧
    (∀ e, AscB i n e → e ≠ [] → gL ps (l ++ e) ≤ B → geB (loopB gs ps B k i (gL gs l) (gL ps l) l st) (bst gs ps (l ++ e))) ∧
    (loopB gs ps B k i (gL gs l) (gL ps l) l st = st ∨ ∃ e, AscB i n e ∧ gL ps (l ++ e) ≤ B ∧ loopB gs ps B k i (gL gs l) (gL ps l) l st = bst gs ps (l ++ e))
  | 0, i, l, st, h => by
    obtain rfl : i = n := by omega
    rw [loopB_zero]
    exact ⟨geB_refl _, fun e he hne => absurd he.none hne, .inl rfl⟩
  | k + 1, i, l, st, h => by
    rw [loopB_succ]
    unfold tryB
    have e1 : gL gs l + gAt gs i = gL gs (l ++ [(i : Int)]) := by rw [gL_append, gL_one]
    have e2 : gL ps l + gAt ps i = gL ps (l ++ [(i : Int)]) := by rw [gL_append, gL_one]
    rw [e1, e2]
    have key : ∀ st', (st' = if B < gL ps (l ++ [(i : Int)]) then st else loopB gs ps B k (i + 1) (gL gs (l ++ [(i : Int)])) (gL ps (l ++ [(i : Int)])) (l ++ [(i : Int)]) (updB (gL gs (l ++ [(i : Int)])) (gL ps (l ++ [(i : Int)])) (l ++ [(i : Int)]) st)) →
        geB st' st ∧ (∀ e, AscB i n ((i : Int) :: e) → gL ps (l ++ (i : Int) :: e) ≤ B → geB st' (bst gs ps (l ++ (i : Int) :: e))) ∧ (st' = st ∨ ∃ e, AscB i n e ∧ gL ps (l ++ e) ≤ B ∧ st' = bst gs ps (l ++ e)) := by
      intro st' hst
      by_cases hB : B < gL ps (l ++ [(i : Int)])
      · rw [if_pos hB] at hst
        subst hst
        refine ⟨geB_refl _, fun e he hc => ?_, .inl rfl⟩
        have h1 := gL_pos hp e
        rw [show l ++ (i : Int) :: e = (l ++ [(i : Int)]) ++ e by simp, gL_append] at hc
        omega
      · rw [if_neg hB] at hst
        obtain ⟨a1, a2, a3⟩ := loopB_spec hp n k (i + 1) (l ++ [(i : Int)]) (updB (gL gs (l ++ [(i : Int)])) (gL ps (l ++ [(i : Int)])) (l ++ [(i : Int)]) st) (by omega)
        obtain ⟨b1, b2, b3⟩ := updB_ge (gL gs (l ++ [(i : Int)])) (gL ps (l ++ [(i : Int)])) (l ++ [(i : Int)]) st
        rw [← hst] at a1 a2 a3
        have hone : AscB i n [(i : Int)] := (AscB.nil (i + 1) n).cons (by omega)
        refine ⟨geB_trans a1 b1, fun e he hc => ?_, ?_⟩
        · by_cases hne : e = []
          · subst hne
            exact geB_trans a1 b2
          · have := a2 e he.tail hne (by rw [List.append_assoc]; exact hc)
            rw [List.append_assoc] at this
            exact this
        · rcases a3 with a3 | ⟨e, he, hc, h3⟩
          · rcases b3 with b3 | b3
            · exact .inl (a3.trans b3)
            · exact .inr ⟨[(i : Int)], hone, by omega, a3.trans b3⟩
          · refine .inr ⟨(i : Int) :: e, he.cons (by omega), ?_, ?_⟩
            · rw [List.append_assoc] at hc; exact hc
            · rw [List.append_assoc] at h3; exact h3
    obtain ⟨st', hst⟩ : ∃ st', st' = if B < gL ps (l ++ [(i : Int)]) then st else loopB gs ps B k (i + 1) (gL gs (l ++ [(i : Int)])) (gL ps (l ++ [(i : Int)])) (l ++ [(i : Int)]) (updB (gL gs (l ++ [(i : Int)])) (gL ps (l ++ [(i : Int)])) (l ++ [(i : Int)]) st) := ⟨_, rfl⟩
    obtain ⟨k1, k2, k3⟩ := key st' hst
    rw [← hst]
    obtain ⟨c1, c2, c3⟩ := loopB_spec hp n k (i + 1) l st' (by omega)
    refine ⟨geB_trans c1 k1, fun e he hne hc => ?_, ?_⟩
    · cases e with
      | nil => exact absurd rfl hne
      | cons a e =>
        by_cases ha : a = (i : Int)
        · subst ha
          exact geB_trans c1 (k2 e he hc)
        · exact c2 _ (he.skip ha) hne hc
    · rcases c3 with c3 | ⟨e, he, hc, h3⟩
      · rw [c3]; exact k3
      · exact .inr ⟨e, he.mono (by omega), hc, h3⟩
/-- the best set of all within a budget -/
structure BestOf (gs ps : List Int) (n : Nat) (B : Int) (r : Bst) : Prop where
  is : r = bst gs ps r.set
  asc : AscB 0 n r.set
  cost : gL ps r.set ≤ B
  best : ∀ e, AscB 0 n e → gL ps e ≤ B → geB r (bst gs ps e)
theorem bestB_spec {gs ps : List Int} {B : Int} (hp : ∀ i, 0 ≤ gAt ps i) (hB : 0 ≤ B) : BestOf gs ps gs.length B (bestB gs ps B) := by
  have hu : updB 0 0 [] ⟨0, 0, []⟩ = ⟨0, 0, []⟩ := rfl
  have hr : bestB gs ps B = loopB gs ps B gs.length 0 (gL gs []) (gL ps []) [] ⟨0, 0, []⟩ := by
    unfold bestB tryB
    rw [if_neg (by omega), hu]; rfl
  obtain ⟨a1, a2, a3⟩ := loopB_spec (gs := gs) (B := B) hp gs.length gs.length 0 [] ⟨0, 0, []⟩ (by omega)
  rw [← hr] at a1 a2 a3
  have hb : ∃ e, AscB 0 gs.length e ∧ gL ps e ≤ B ∧ bestB gs ps B = bst gs ps e := by
    rcases a3 with a3 | ⟨e, he, hc, h3⟩
    · exact ⟨[], AscB.nil _ _, by rw [gL_nil]; exact hB, a3⟩
    · exact ⟨e, he, hc, h3⟩
  obtain ⟨e, he, hc, h3⟩ := hb
  have hs : (bestB gs ps B).set = e := by rw [h3]; rfl
  refine ⟨by rw [hs]; exact h3, by rw [hs]; exact he, by rw [hs]; exact hc, fun f hf hcf => ?_⟩
  by_cases hne : f = []
  · subst hne; exact a1
  · exact a2 f hf hne hcf
theorem BestOf.uniq {gs ps : List Int} {n : Nat} {B : Int} {r s : Bst} (h : BestOf gs ps n B r) (k : BestOf gs ps n B s) : r = s :=
  geB_anti (by rw [k.is]; exact h.best _ k.asc k.cost) (by rw [h.is]; exact k.best _ h.asc h.cost)
/-- no set within the budget gains more -/
theorem BestOf.gain {gs ps : List Int} {n : Nat} {B : Int} {r : Bst} (h : BestOf gs ps n B r) {e : List Int} (he : AscB 0 n e) (hc : gL ps e ≤ B) : gL gs e ≤ r.gain := by
  have := h.best e he hc
  unfold geB bst at this
  simp only at this
  omega
end Go.Proofs.Ytphdndiikikecaa

namespace Go.Proofs.Ytphdndiikikecaa

theorem AscB.last {i n : Nat} {e : List Int} (h : AscB i (n + 1) e) : AscB i n e ∨ ∃ e', e = e' ++ [(n : Int)] ∧ AscB i n e' := by
  rcases List.eq_nil_or_concat e with rfl | ⟨e', a, rfl⟩
  · exact .inl (AscB.nil _ _)
  · rw [List.concat_eq_append] at h ⊢
    have hp := List.pairwise_append.1 h.1
    have ha := h.2 a (by simp)
    have hlt : ∀ x ∈ e', x < a := fun x hx => hp.2.2 x hx a (by simp)
    by_cases hn : a = (n : Int)
    · subst hn
      exact .inr ⟨e', rfl, hp.1, fun x hx => ⟨(h.2 x (by simp [hx])).1, hlt x hx⟩⟩
    · refine .inl ⟨h.1, fun x hx => ⟨(h.2 x hx).1, ?_⟩⟩
      rcases List.mem_append.1 hx with hx | hx
      · have := hlt x hx; omega
      · simp at hx; omega
/-- the set of some bits -/
def bitsL (b : Nat) : Nat → List Int
  | 0 => []
  | n + 1 => bitsL b n ++ (if b / 2 ^ n % 2 = 1 then [(n : Int)] else [])
theorem bitsL_asc (b : Nat) : ∀ n, AscB 0 n (bitsL b n)
  | 0 => AscB.nil _ _
  | n + 1 => by
    have ih := bitsL_asc b n
    unfold bitsL
    split
    · refine ⟨List.pairwise_append.2 ⟨ih.1, by simp, fun x hx y hy => ?_⟩, fun x hx => ?_⟩
      · simp at hy; have := ih.2 x hx; omega
      · rcases List.mem_append.1 hx with hx | hx
        · have := ih.2 x hx; omega
        · simp at hx; omega
    · rw [List.append_nil]
      exact ⟨ih.1, fun x hx => by have := ih.2 x hx; omega⟩
theorem bitsL_len (b : Nat) : ∀ n, (bitsL b n).length ≤ n
  | 0 => by simp [bitsL]
  | n + 1 => by
    have := bitsL_len b n
    unfold bitsL
    split <;> simp <;> omega
theorem bitsL_high {b n : Nat} : ∀ k, k ≤ n → bitsL (b + 2 ^ n) k = bitsL b k
  | 0, _ => rfl
  | k + 1, h => by
    have ih := bitsL_high (b := b) (n := n) k (by omega)
    unfold bitsL
    rw [ih]
    have : (b + 2 ^ n) / 2 ^ k % 2 = b / 2 ^ k % 2 := by
      obtain ⟨d, rfl⟩ : ∃ d, n = k + 1 + d := ⟨n - (k + 1), by omega⟩
      have e : 2 ^ (k + 1 + d) = 2 ^ k * (2 * 2 ^ d) := by rw [Nat.pow_add, Nat.pow_succ, Nat.mul_assoc]
      rw [e, Nat.add_mul_div_left _ _ (Nat.two_pow_pos k), Nat.add_mul_mod_self_left]
    rw [this]
theorem bits_all : ∀ (n : Nat) (e : List Int), AscB 0 n e → ∃ b, b < 2 ^ n ∧ bitsL b n = e
  | 0, e, h => ⟨0, by simp, by rw [h.none]; rfl⟩
  | n + 1, e, h => by
    rcases h.last with h2 | ⟨e', rfl, h2⟩
    · obtain ⟨b, hb, he⟩ := bits_all n e h2
      refine ⟨b, by rw [Nat.pow_succ]; omega, ?_⟩
      unfold bitsL
      rw [Nat.div_eq_of_lt hb, if_neg (by simp), List.append_nil, he]
    · obtain ⟨b, hb, he⟩ := bits_all n e' h2
      refine ⟨b + 2 ^ n, by rw [Nat.pow_succ]; omega, ?_⟩
      unfold bitsL
      rw [bitsL_high n (Nat.le_refl _), he, Nat.add_div_right _ (Nat.two_pow_pos n), Nat.div_eq_of_lt hb, if_pos (by simp)]

/-- what a parcel adds to what a rate proves -/
def moreAt (gs ps : List Int) (r : Int) (i : Nat) : Int := max 0 (1000 * gAt gs i - r * gAt ps i)
def moreTo (gs ps : List Int) (r : Int) : Nat → Int
  | 0 => 0
  | k + 1 => moreTo gs ps r k + moreAt gs ps r k
def boundL (gs ps : List Int) (n : Nat) (B r : Int) : Int := (r * B + moreTo gs ps r n) / 1000
theorem moreAt_pos (gs ps : List Int) (r : Int) (i : Nat) : 0 ≤ moreAt gs ps r i := by unfold moreAt; omega
theorem moreTo_pos (gs ps : List Int) (r : Int) : ∀ k, 0 ≤ moreTo gs ps r k
  | 0 => by simp [moreTo]
  | k + 1 => by
    have := moreTo_pos gs ps r k
    have := moreAt_pos gs ps r k
    unfold moreTo; omega
theorem more_asc (gs ps : List Int) (r : Int) : ∀ (n : Nat) (e : List Int), AscB 0 n e → 1000 * gL gs e - r * gL ps e ≤ moreTo gs ps r n
  | 0, e, h => by rw [h.none]; simp [gL, moreTo]
  | n + 1, e, h => by
    unfold moreTo
    rcases h.last with h2 | ⟨e', rfl, h2⟩
    · have := more_asc gs ps r n e h2
      have := moreAt_pos gs ps r n; omega
    · have := more_asc gs ps r n e' h2
      rw [gL_append, gL_append, gL_one, gL_one, Int.mul_add, Int.mul_add]
      have : 1000 * gAt gs n - r * gAt ps n ≤ moreAt gs ps r n := by unfold moreAt; omega
      omega
/-- no set within the budget gains more than what a rate proves -/
theorem bound_ge {gs ps : List Int} {n : Nat} {B r : Int} (hr : 0 ≤ r) {e : List Int} (he : AscB 0 n e) (hc : gL ps e ≤ B) : gL gs e ≤ boundL gs ps n B r := by
  have h1 := more_asc gs ps r n e he
  have h2 : r * gL ps e ≤ r * B := Int.mul_le_mul_of_nonneg_left hc hr
  unfold boundL
  omega
end Go.Proofs.Ytphdndiikikecaa
