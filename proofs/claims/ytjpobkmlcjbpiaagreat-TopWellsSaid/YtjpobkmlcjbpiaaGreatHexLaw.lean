/- PLAIN LAWS of the numbers of a line (layer 12): which texts are whole numbers, as the reference reads them, and as Itoa writes them. -/
import Derived.Lib.ItoaNum
import Derived.Lib.AtoiAll
import Derived.Lib.SplitLaws
set_option linter.unusedVariables false
set_option linter.unusedSimpArgs false
namespace Go.Proofs.YtjpobkmlcjbpiaaGreat
open Go.Lib

def isDig (x : UInt8) : Bool := decide (48 ≤ x.toNat) && decide (x.toNat ≤ 57)
def valP (l : List UInt8) : Nat := l.foldl (fun n x => 10 * n + (x.toNat - 48)) 0
/-- digits with no needless zero -/
def digsP (l : List UInt8) : Prop := l ≠ [] ∧ l.all isDig = true ∧ (l.head? = some 48 → l.length = 1)
theorem valP_snoc (l : List UInt8) (x : UInt8) : valP (l ++ [x]) = 10 * valP l + (x.toNat - 48) := by simp [valP, List.foldl_append]
theorem dec_small {u : Nat} (h : u < 10) : decDigits u = [UInt8.ofNat (48 + u)] := by rw [decDigits, dif_pos h]
theorem dec_big {u : Nat} (h : ¬ u < 10) : decDigits u = decDigits (u / 10) ++ [UInt8.ofNat (48 + u % 10)] := by rw [decDigits, dif_neg h]
theorem dig_of {x : UInt8} (h : isDig x = true) : x = UInt8.ofNat (48 + (x.toNat - 48)) ∧ x.toNat - 48 < 10 := by
  unfold isDig at h
  simp at h
  refine ⟨UInt8.toNat_inj.1 ?_, by omega⟩
  rw [UInt8.toNat_ofNat']
  omega
theorem dig_ofNat {d : Nat} (h : d < 10) : (UInt8.ofNat (48 + d)).toNat = 48 + d := by rw [UInt8.toNat_ofNat']; omega
theorem snoc_of {l : List UInt8} (h : l ≠ []) : ∃ k x, l = k ++ [x] := ⟨l.dropLast, l.getLast h, (List.dropLast_concat_getLast h).symm⟩
/-- digits are what is written of their value; a list that does not begin with 0 is not 0 -/
theorem dec_val : ∀ (n : Nat) (l : List UInt8), l.length = n → digsP l → decDigits (valP l) = l ∧ (l.head? ≠ some 48 → 1 ≤ valP l)
  | 0, l, hn, h => absurd (List.length_eq_zero_iff.1 hn) h.1
  | n + 1, l, hn, h => by
    obtain ⟨k, x, rfl⟩ := snoc_of h.1
    have hx : isDig x = true := List.all_eq_true.1 h.2.1 x (by simp)
    obtain ⟨e, hlt⟩ := dig_of hx
    rw [valP_snoc]
    by_cases hk : k = []
    · subst hk
      refine ⟨?_, fun hh => ?_⟩
      · rw [show valP [] = 0 from rfl, Nat.mul_zero, Nat.zero_add, dec_small hlt, ← e]; rfl
      · have : x ≠ 48 := fun h48 => hh (by simp [h48])
        have h1 : x.toNat ≠ 48 := fun h48 => this (UInt8.toNat_inj.1 h48)
        unfold isDig at hx
        simp at hx
        omega
    · have hh : k.head? ≠ some 48 := by
        intro hc
        have h2 := h.2.2 (by rw [List.head?_append, hc]; rfl)
        rw [List.length_append] at h2
        exact hk (List.length_eq_zero_iff.1 (by simpa using h2))
      have ih := dec_val n k (by simpa using hn) ⟨hk, List.all_eq_true.2 fun y hy => List.all_eq_true.1 h.2.1 y (by simp [hy]), fun hc => absurd hc hh⟩
      have h1 := ih.2 hh
      refine ⟨?_, fun _ => by omega⟩
      rw [dec_big (by omega), show (10 * valP k + (x.toNat - 48)) / 10 = valP k by omega, show (10 * valP k + (x.toNat - 48)) % 10 = x.toNat - 48 by omega, ih.1, ← e]
/-- what is written of a number: its digits, with no needless zero, and not too many -/
theorem dec_is : ∀ (n u : Nat), u < 10 ^ (n + 1) → digsP (decDigits u) ∧ valP (decDigits u) = u ∧ (decDigits u).length ≤ n + 1 ∧ ((decDigits u).head? = some 48 → u = 0)
  | n, u, h => by
    by_cases hu : u < 10
    · rw [dec_small hu]
      have e := dig_ofNat hu
      refine ⟨⟨by simp, by simp [isDig]; omega, fun _ => rfl⟩, by simp [valP]; omega, by simp, fun hh => ?_⟩
      have : UInt8.ofNat (48 + u) = 48 := by simpa using hh
      rw [this] at e
      have h48 : (48 : UInt8).toNat = 48 := rfl
      omega
    · cases n with
      | zero => simp at h; omega
      | succ n =>
        have hp : 10 ^ (n + 1 + 1) = 10 * 10 ^ (n + 1) := by rw [Nat.pow_succ]; omega
        obtain ⟨⟨a1, a2, a3⟩, b, c, d⟩ := dec_is n (u / 10) (by omega)
        have e := dig_ofNat (d := u % 10) (by omega)
        rw [dec_big hu]
        have hne : (decDigits (u / 10)).head? ≠ some 48 := fun hc => by have := d hc; omega
        have hhd : (decDigits (u / 10) ++ [UInt8.ofNat (48 + u % 10)]).head? = (decDigits (u / 10)).head? := by
          cases hl : decDigits (u / 10) with
          | nil => exact absurd hl a1
          | cons y l => rfl
        refine ⟨⟨by simp, ?_, fun hc => absurd (hhd ▸ hc) hne⟩, ?_, by rw [List.length_append]; simp; omega, fun hc => absurd (hhd ▸ hc) hne⟩
        · rw [List.all_append, a2]
          simp [isDig]; omega
        · rw [valP_snoc, b, e]; omega
/-- the reference's whole numbers -/
def wholeP (l : List UInt8) : Option Int :=
  let m := decide (l.head? = some 45)
  let d := if m then l.drop 1 else l
  if d = [] ∨ 9 < d.length ∨ (d.head? = some 48 ∧ (1 < d.length ∨ m = true)) then none
  else if d.all isDig then some (if m then -(valP d : Int) else (valP d : Int)) else none
theorem val_lt : ∀ (n : Nat) (l : List UInt8), l.length = n → l.all isDig = true → valP l < 10 ^ n
  | 0, l, hn, _ => by rw [List.length_eq_zero_iff.1 hn]; simp [valP]
  | n + 1, l, hn, h => by
    obtain ⟨k, x, rfl⟩ := snoc_of (l := l) (by intro hc; rw [hc] at hn; simp at hn)
    obtain ⟨_, hlt⟩ := dig_of (List.all_eq_true.1 h x (by simp))
    have ih := val_lt n k (by simpa using hn) (List.all_eq_true.2 fun y hy => List.all_eq_true.1 h y (by simp [hy]))
    rw [valP_snoc, Nat.pow_succ]
    omega
/-- what the reference reads as a number is what Itoa writes of it -/
theorem whole_itoa {l : List UInt8} {v : Int} (h : wholeP l = some v) : itoa v = l ∧ -999999999 ≤ v ∧ v ≤ 999999999 := by
  unfold wholeP at h
  by_cases hm : l.head? = some 45
  · simp only [hm, decide_true, if_true] at h
    obtain ⟨t, rfl⟩ : ∃ t, l = 45 :: t := by
      cases l with
      | nil => simp at hm
      | cons y t => exact ⟨t, by simp at hm; rw [hm]⟩
    simp only [List.drop_succ_cons, List.drop_zero] at h
    split at h
    · cases h
    · rename_i hno
      split at h
      · rename_i hd
        have hz : t.head? ≠ some 48 := fun hc => hno (.inr (.inr ⟨hc, .inr trivial⟩))
        have h1 := dec_val _ t rfl ⟨fun hc => hno (.inl hc), hd, fun hc => absurd hc hz⟩
        have h2 := val_lt _ t rfl hd
        have h3 : valP t < 10 ^ 9 := Nat.lt_of_lt_of_le h2 (Nat.pow_le_pow_right (by omega) (by omega))
        have h4 := h1.2 hz
        obtain rfl : -(valP t : Int) = v := by simpa using h
        refine ⟨?_, by omega, by omega⟩
        unfold itoa
        rw [if_pos (by omega), Int.natAbs_neg, Int.natAbs_natCast, h1.1]
      · cases h
  · simp only [hm, decide_false, Bool.false_eq_true, if_false] at h
    split at h
    · cases h
    · rename_i hno
      split at h
      · rename_i hd
        have hz : l.head? = some 48 → l.length = 1 := fun hc => by
          have h0 : l ≠ [] := fun he => hno (.inl he)
          have := List.length_pos_iff.2 h0
          have h5 : ¬ 1 < l.length := fun hh => hno (.inr (.inr ⟨hc, .inl hh⟩))
          omega
        have h1 := dec_val _ l rfl ⟨fun hc => hno (.inl hc), hd, hz⟩
        have h2 := val_lt _ l rfl hd
        have h3 : valP l < 10 ^ 9 := Nat.lt_of_lt_of_le h2 (Nat.pow_le_pow_right (by omega) (by omega))
        obtain rfl : (valP l : Int) = v := by simpa using h
        refine ⟨?_, by omega, by omega⟩
        unfold itoa
        rw [if_neg (by omega), Int.toNat_natCast, h1.1]
      · cases h
/-- what Itoa writes of a number that is not too great is read as it -/
theorem itoa_whole {v : Int} (h : -999999999 ≤ v ∧ v ≤ 999999999) : wholeP (itoa v) = some v := by
  unfold itoa
  split
  · rename_i hv
    obtain ⟨⟨a1, a2, a3⟩, b, c, d⟩ := dec_is 8 v.natAbs (by omega)
    unfold wholeP
    simp only [List.head?_cons, decide_true, if_true, List.drop_succ_cons, List.drop_zero]
    rw [if_neg, if_pos a2, b]
    · congr 1; omega
    · rintro (hc | hc | ⟨hc, _⟩)
      · exact a1 hc
      · omega
      · have := d hc; omega
  · rename_i hv
    obtain ⟨⟨a1, a2, a3⟩, b, c, d⟩ := dec_is 8 v.toNat (by omega)
    have hm : (decDigits v.toNat).head? ≠ some 45 := by
      intro hc
      have hmem : (45 : UInt8) ∈ decDigits v.toNat := by
        cases hl : decDigits v.toNat with
        | nil => exact absurd hl a1
        | cons y l => rw [hl] at hc; simp at hc; simp [hc]
      have := List.all_eq_true.1 a2 _ hmem
      revert this; decide
    unfold wholeP
    simp only [hm, decide_false, Bool.false_eq_true, if_false]
    rw [if_neg, if_pos a2, b]
    · congr 1; omega
    · rintro (hc | hc | ⟨hc, hl | hl⟩)
      · exact a1 hc
      · omega
      · have := a3 hc; omega
      · cases hl
/-- Atoi's loop at digits that are not too many -/
theorem parse_digs : ∀ (l : List UInt8) (acc : Nat), l.all isDig = true → (acc + 1) * 10 ^ l.length ≤ 10 ^ 18 → parseUint10 acc l = .ok (l.foldl (fun n x => 10 * n + (x.toNat - 48)) acc)
  | [], _, _, _ => rfl
  | x :: l, acc, h, hb => by
    rw [List.all_cons, Bool.and_eq_true] at h
    have hx := h.1
    unfold isDig at hx
    simp at hx
    rw [List.length_cons, Nat.pow_succ, Nat.mul_comm _ 10, ← Nat.mul_assoc] at hb
    have h1 : (acc * 10 + (x.toNat - 48) + 1) * 10 ^ l.length ≤ (acc + 1) * 10 * 10 ^ l.length := Nat.mul_le_mul_right _ (by omega)
    have h2 : acc * 10 + (x.toNat - 48) + 1 ≤ (acc * 10 + (x.toNat - 48) + 1) * 10 ^ l.length := Nat.le_mul_of_pos_right _ (Nat.pow_pos (by omega))
    have ih := parse_digs l (acc * 10 + (x.toNat - 48)) h.2 (by omega)
    rw [parseUint10, if_pos (by omega), if_neg (by omega), if_neg (by omega), ih, List.foldl_cons, Nat.mul_comm acc 10]
theorem mag_digs {l : List UInt8} (hn : l ≠ []) (h : l.all isDig = true) (hl : l.length ≤ 9) : parseMag l = .ok (valP l) := by
  unfold parseMag
  rw [if_neg hn, parse_digs l 0 h]
  · rfl
  · rw [Nat.zero_add, Nat.one_mul]
    exact Nat.pow_le_pow_right (by omega) (by omega)
/-- Atoi reads what Itoa writes of a number that is not too great -/
theorem atoi_itoa {v : Int} (h : -999999999 ≤ v ∧ v ≤ 999999999) : atoiAll (itoa v) = .ok v := by
  unfold itoa
  split
  · rename_i hv
    obtain ⟨⟨a1, a2, _⟩, b, c, _⟩ := dec_is 8 v.natAbs (by omega)
    have h45 : (45 : UInt8).toNat = 45 := rfl
    simp only [atoiAll, h45, or_true, if_true, mag_digs a1 a2 c, b, not_true, false_and, if_false, true_and]
    rw [if_neg (by omega)]
    congr 1; omega
  · rename_i hv
    obtain ⟨⟨a1, a2, _⟩, b, c, _⟩ := dec_is 8 v.toNat (by omega)
    have hm := mag_digs a1 a2 c
    cases hl : decDigits v.toNat with
    | nil => exact absurd hl a1
    | cons x l =>
      rw [hl] at a2 hm b
      rw [List.all_cons, Bool.and_eq_true] at a2
      have hx := a2.1
      unfold isDig at hx
      simp at hx
      have n1 : ¬ x.toNat = 43 := by omega
      have n2 : ¬ x.toNat = 45 := by omega
      simp only [atoiAll, n1, n2, or_self, if_false, hm, b, not_false_eq_true, true_and, false_and]
      rw [if_neg (by omega)]
      congr 1; omega
/-- a text is taken as a number by the program just if it is by the reference -/
theorem whole_iff {l : List UInt8} {v : Int} : wholeP l = some v ↔ atoiAll l = .ok v ∧ itoa v = l ∧ -999999999 ≤ v ∧ v ≤ 999999999 := by
  constructor
  · intro h
    obtain ⟨h1, h2⟩ := whole_itoa h
    exact ⟨by rw [← h1]; exact atoi_itoa h2, h1, h2⟩
  · rintro ⟨_, rfl, h2⟩
    exact itoa_whole h2
end Go.Proofs.YtjpobkmlcjbpiaaGreat

namespace Go.Proofs.YtjpobkmlcjbpiaaGreat
open Go.Lib

/-- the parts between bytes c -/
def partsP (c : UInt8) : List UInt8 → List (List UInt8)
  | [] => [[]]
  | x :: l => if x = c then [] :: partsP c l else match partsP c l with
      | [] => [[x]]
      | p :: ps => (x :: p) :: ps
theorem parts_ne (c : UInt8) : ∀ l, partsP c l ≠ []
  | [] => by simp [partsP]
  | x :: l => by
    unfold partsP
    split
    · simp
    · split <;> simp
theorem parts_len (c : UInt8) : ∀ l, (partsP c l).length = l.count c + 1
  | [] => rfl
  | x :: l => by
    have ih := parts_len c l
    unfold partsP
    split
    · rename_i h; subst h; simp [ih]
    · rename_i h
      cases hp : partsP c l with
      | nil => exact absurd hp (parts_ne c l)
      | cons p ps => rw [hp] at ih; rw [List.count_cons_of_ne (by simpa using h)]; simpa using ih
/-- more cuts than there are bytes c change nothing; each cut is made at the first one -/
theorem split_parts (c : UInt8) : ∀ (l : List UInt8) (k : Nat), k = l.count c → splitK [c] 0 k l = partsP c l
  | [], k, h => by subst h; rfl
  | x :: l, k, h => by
    by_cases hx : x = c
    · subst hx
      rw [List.count_cons_self] at h
      subst h
      have hix : index (x :: l) [x] = 0 := by rw [index]; simp [List.isPrefixOf]
      rw [splitK, hix]
      simp only [partsP, if_true]
      rw [if_neg (by decide)]
      have := split_parts x l _ rfl
      simpa using this
    · rw [List.count_cons_of_ne (by simpa using hx)] at h
      have ih := split_parts c l k h
      have hp : ([c] : List UInt8).isPrefixOf (x :: l) = false := by simp [List.isPrefixOf, Ne.symm hx]
      have hix : index (x :: l) [c] = if index l [c] == -1 then -1 else index l [c] + 1 := by rw [index, hp]; simp
      rw [partsP, if_neg hx, ← ih]
      cases k with
      | zero => rfl
      | succ k =>
        rw [splitK, splitK, hix]
        by_cases hm : index l [c] = -1
        · simp [hm]
        · have hge := index_ge l [c]
          have hm' : (index l [c] == -1) = false := by simpa using hm
          obtain ⟨j, hj⟩ : ∃ j : Nat, index l [c] = j := ⟨(index l [c]).toNat, by omega⟩
          have hm2 : (((j : Int) + 1) == -1) = false := by simp; omega
          have ht : ((j : Int) + 1).toNat = j + 1 := by omega
          have htj : ((j : Int)).toNat = j := by omega
          rw [hm', hj]
          simp only [Bool.false_eq_true, if_false, hm2, ht, htj]
          simp [Nat.add_comm, Nat.add_left_comm]
theorem split_one (c : UInt8) (l : List UInt8) : split l [c] = partsP c l := by
  unfold split
  rw [count_one]
  exact split_parts c l _ rfl
end Go.Proofs.YtjpobkmlcjbpiaaGreat

namespace Go.Proofs.YtjpobkmlcjbpiaaGreat

/-- the value of a digit -/
def hexP (x : UInt8) : Option Nat := if 48 ≤ x.toNat ∧ x.toNat ≤ 57 then some (x.toNat - 48) else if 97 ≤ x.toNat ∧ x.toNat ≤ 102 then some (x.toNat - 87) else none
theorem hex_lt {x : UInt8} {d : Nat} (h : hexP x = some d) : d < 16 := by
  unfold hexP at h
  split at h
  · obtain rfl := Option.some.inj h; omega
  · split at h
    · obtain rfl := Option.some.inj h; omega
    · cases h
/-- the bytes of a text of digits, two to a byte -/
def wireP : List UInt8 → Option (List Nat)
  | [] => some []
  | [_] => none
  | x :: y :: l => match hexP x, hexP y, wireP l with
    | some a, some b, some r => some ((16 * a + b) :: r)
    | _, _, _ => none
/-- the loop: what lies behind k digits, if all of them are some -/
def stepH (out : List Nat) (i d : Nat) : List Nat := if i % 2 = 0 then out ++ [16 * d] else out.set (i / 2) (out.getD (i / 2) 0 + d)
def loopH (t : List UInt8) : Nat → Option (List Nat)
  | 0 => some []
  | k + 1 => match loopH t k, (t[k]?).bind hexP with
    | some out, some d => some (stepH out k d)
    | _, _ => none
theorem loopH_len {t : List UInt8} : ∀ {k : Nat} {o : List Nat}, loopH t k = some o → o.length = (k + 1) / 2
  | 0, o, h => by obtain rfl := Option.some.inj h; rfl
  | k + 1, o, h => by
    rw [loopH] at h
    split at h
    · rename_i out d h1 _
      have ih := loopH_len h1
      obtain rfl := Option.some.inj h
      unfold stepH
      split
      · simp [ih]; omega
      · simp [ih]; omega
    · cases h
/-- each byte of the loop's, behind whole pairs, is that of its two digits; nothing fails just if all digits are some -/
theorem loopH_some {t : List UInt8} : ∀ {k : Nat}, (∀ i, i < k → ∃ d, (t[i]?).bind hexP = some d) → ∃ o, loopH t k = some o
  | 0, _ => ⟨[], rfl⟩
  | k + 1, h => by
    obtain ⟨o, ho⟩ := loopH_some (k := k) fun i hi => h i (by omega)
    obtain ⟨d, hd⟩ := h k (by omega)
    exact ⟨stepH o k d, by rw [loopH, ho, hd]⟩
theorem loopH_get {t : List UInt8} : ∀ {k : Nat} {o : List Nat}, loopH t (2 * k) = some o → ∀ j, j < k → ∃ a b, (t[2 * j]?).bind hexP = some a ∧ (t[2 * j + 1]?).bind hexP = some b ∧ o[j]? = some (16 * a + b)
  | 0, _, _, j, hj => absurd hj (by omega)
  | k + 1, o, h, j, hj => by
    rw [show 2 * (k + 1) = 2 * k + 1 + 1 by omega, loopH] at h
    split at h
    · rename_i o1 b h1 hb
      rw [loopH] at h1
      split at h1
      · rename_i o0 a h0 ha
        have hl := loopH_len h0
        obtain rfl := Option.some.inj h1
        obtain rfl := Option.some.inj h
        have ih := loopH_get h0
        have e1 : stepH o0 (2 * k) a = o0 ++ [16 * a] := by unfold stepH; rw [if_pos (by omega)]
        have hk : o0.length = k := by omega
        have e2 : stepH (o0 ++ [16 * a]) (2 * k + 1) b = o0 ++ [16 * a + b] := by
          unfold stepH
          rw [if_neg (by omega), show (2 * k + 1) / 2 = k by omega, ← hk]
          simp
        rw [e1, e2]
        by_cases hjk : j = k
        · subst hjk
          exact ⟨a, b, ha, hb, by rw [List.getElem?_append_right (by omega), hk]; simp⟩
        · obtain ⟨c, d, h3, h4, h5⟩ := ih j (by omega)
          exact ⟨c, d, h3, h4, by rw [List.getElem?_append_left (by omega)]; exact h5⟩
      · cases h1
    · cases h
end Go.Proofs.YtjpobkmlcjbpiaaGreat
