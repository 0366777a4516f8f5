/- PLAIN LAWS of the hits of a truth: what they add up to for each parcel. No program in sight. -/
import Derived.Test.YtphdndiikikecaaZLaw
set_option linter.unusedVariables false
set_option linter.unusedSimpArgs false
namespace Go.Proofs.Ytphdndiikikecaa

theorem nodup_len : ∀ (n : Nat) (l : List Int), (∀ p ∈ l, 0 ≤ p ∧ p < (n : Int)) → l.Nodup → l.length ≤ n
  | 0, l, h, _ => by
    cases l with
    | nil => simp
    | cons a l => have := h a (by simp); omega
  | n + 1, l, h, hd => by
    have ih := nodup_len n (l.erase (n : Int)) (fun p hp => by
      have h1 := (hd.mem_erase_iff).1 hp
      have h2 := h p h1.2
      have h3 := h1.1
      omega) (hd.erase _)
    have := List.length_erase (a := (n : Int)) (l := l)
    split at this <;> omega
theorem wayTo_len {np : Nat} {way : List Int} (h : wayTo np way way.length) : way.length ≤ np := by
  obtain ⟨h1, h2⟩ := h
  rw [List.take_of_length_le (Nat.le_refl _)] at h1 h2
  exact nodup_len np way h1 h2

/-- a hit: the slide's number, the parcel -/
def hitsAt (sls : List Sli) (tr : List Int) (k : Nat) : List (Nat × Int) := match sls[k]?, tr[k]? with
  | some s, some m => (s.way.take m.toNat).map fun p => (k, p)
  | _, _ => []
theorem hitsAt_of {sls : List Sli} {tr : List Int} {k : Nat} {s : Sli} {m : Int} (hs : sls[k]? = some s) (hm : tr[k]? = some m) : hitsAt sls tr k = (s.way.take m.toNat).map fun p => (k, p) := by simp [hitsAt, hs, hm]
def hitsTo (sls : List Sli) (tr : List Int) : Nat → List (Nat × Int)
  | 0 => []
  | k + 1 => hitsTo sls tr k ++ hitsAt sls tr k
theorem hitsTo_len {v : Vly} (h : VOk v) (tr : List Int) : ∀ k, (hitsTo v.sls tr k).length ≤ 12 * k
  | 0 => by simp [hitsTo]
  | k + 1 => by
    have ih := hitsTo_len h tr k
    have : (hitsAt v.sls tr k).length ≤ 12 := by
      unfold hitsAt
      split
      · rename_i s m hs hm
        have h1 := wayTo_len (h.slide hs).1
        have h2 := h.pn
        rw [List.length_map, List.length_take]; omega
      · simp
    rw [hitsTo, List.length_append]; omega
theorem hitsTo_step {v : Vly} {tr : List Int} {k i : Nat} {s : Sli} {p : Int} (hp : s.way[i]? = some p) :
    hitsTo v.sls tr k ++ (s.way.take (i + 1)).map (fun p => (k, p)) = (hitsTo v.sls tr k ++ (s.way.take i).map (fun p => (k, p))) ++ [(k, p)] := by
  rw [List.take_add_one, hp, List.map_append, List.append_assoc]; rfl
/-- what the hits add to a parcel -/
def rateOf (sls : List Sli) (k : Nat) : Int := match sls[k]? with
  | some s => s.rate
  | none => 0
theorem rateOf_of {sls : List Sli} {k : Nat} {s : Sli} (hs : sls[k]? = some s) : rateOf sls k = s.rate := by simp [rateOf, hs]
def dSum (sls : List Sli) (p : Int) : List (Nat × Int) → Int
  | [] => 0
  | x :: l => (if x.2 = p then rateOf sls x.1 else 0) + dSum sls p l
theorem dSum_append (sls : List Sli) (p : Int) : ∀ a b : List (Nat × Int), dSum sls p (a ++ b) = dSum sls p a + dSum sls p b
  | [], b => by simp [dSum]
  | x :: a, b => by simp only [List.cons_append, dSum, dSum_append sls p a b]; omega
theorem dSum_snoc (sls : List Sli) (p : Int) (a : List (Nat × Int)) (x : Nat × Int) : dSum sls p (a ++ [x]) = dSum sls p a + (if x.2 = p then rateOf sls x.1 else 0) := by
  rw [dSum_append]; simp [dSum]
theorem dSum_bd {sls : List Sli} (h : ∀ (k : Nat) (s : Sli), sls[k]? = some s → 0 ≤ s.rate ∧ s.rate ≤ 1000) (p : Int) : ∀ l : List (Nat × Int), 0 ≤ dSum sls p l ∧ dSum sls p l ≤ 1000 * l.length
  | [] => by simp [dSum]
  | x :: l => by
    have ih := dSum_bd h p l
    have : 0 ≤ rateOf sls x.1 ∧ rateOf sls x.1 ≤ 1000 := by
      unfold rateOf
      split
      · rename_i s hs; exact h _ s hs
      · omega
    simp only [dSum, List.length_cons]
    split <;> omega
theorem dSum_way (sls : List Sli) (k : Nat) (p : Int) : ∀ l : List Int, l.Nodup → dSum sls p (l.map fun q => (k, q)) = if p ∈ l then rateOf sls k else 0
  | [], _ => by simp [dSum]
  | q :: l, h => by
    have ih := dSum_way sls k p l (List.nodup_cons.1 h).2
    have hn := (List.nodup_cons.1 h).1
    simp only [List.map_cons, dSum, ih, List.mem_cons]
    by_cases hq : q = p
    · subst hq; simp [hn]
    · have : ¬ p = q := fun e => hq e.symm
      simp [hq, this]
theorem dSum_hits {v : Vly} (h : VOk v) (tr : List Int) (p : Int) : ∀ k, dSum v.sls p (hitsTo v.sls tr k) = dTo v.sls tr p k
  | 0 => rfl
  | k + 1 => by
    rw [hitsTo, dSum_append, dSum_hits h tr p k, dTo]
    congr 1
    unfold hitsAt dAt
    split
    · rename_i s m hs hm
      have hw := (h.slide hs).1
      have hn : (s.way.take m.toNat).Nodup := by
        have h2 := hw.2
        rw [List.take_of_length_le (Nat.le_refl _)] at h2
        exact h2.sublist (List.take_sublist _ _)
      rw [dSum_way _ _ _ _ hn]
      simp [hs, hm, hitBy, rateOf_of hs]
    · rename_i h1
      split
      · rename_i s m hs hm; exact absurd hm (h1 s m hs)
      · rfl
theorem dSum_all {v : Vly} (h : VOk v) {tr : List Int} (hl : tr.length = v.sls.length) : (List.range v.pars.length).map (fun p : Nat => dSum v.sls (p : Int) (hitsTo v.sls tr tr.length)) = dangs v tr := by
  unfold dangs
  refine List.map_congr_left fun p _ => ?_
  rw [dSum_hits h, hl]
end Go.Proofs.Ytphdndiikikecaa
