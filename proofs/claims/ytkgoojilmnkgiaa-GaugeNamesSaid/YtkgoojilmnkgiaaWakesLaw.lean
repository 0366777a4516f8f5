/- PLAIN FACTS of the document's first examples: what wakes compares. -/
import Derived.Test.YtkgoojilmnkgiaaRead
import Derived.Test.YtkgoojilmnkgiaaThinC
import Derived.Test.YtkgoojilmnkgiaaSmall
import Derived.Test.YtkgoojilmnkgiaaWrite
namespace Go.Proofs.Ytkgoojilmnkgiaa

def rdg0 : Rdg := ⟨7, 258, 1000, -2⟩
theorem valid0 : validB rdg0 = true := by decide +kernel
theorem rec0 : recB rdg0 = wireB := by decide +kernel
theorem err0 : errR [rdg0] = 0 := by simp [errR, allB, valid0]
theorem bytes0 : bytesOf [rdg0] = wireB := by simp [bytesOf, rec0]
def wakeB : List UInt8 := [1] ++ wireB ++ [165]
theorem wake_no : isRec (win wakeB 0) = false := by decide +kernel
theorem wake_win : win wakeB 1 = wireB := by decide +kernel
theorem wire_rdg : rdgOf wireB = rdg0 := by decide +kernel
theorem wire_yes : isRec wireB = true := by simp [isRec, wire_rdg, valid0, rec0]
theorem scan0 : scan wakeB 0 = [(rdg0, 1)] := by
  rw [scan_no (by decide) wake_no, scan_yes (by decide) (by rw [wake_win]; exact wire_yes), scan_end (by decide), wake_win, wire_rdg]
theorem read0 : readOf wakeB = [rdg0] := by rw [readOf, scan0]; rfl
theorem lost0 : lostOf wakeB = [0, 17] := by rw [lostOf, scan0]; decide

def marks0 : List (Int × Int) := [(100, 200), (300, 500)]
theorem marks0_ok : MarksOk marks0 := by
  refine ⟨by decide, by decide, by decide, fun i x y hi hx hy => ?_⟩
  obtain rfl : i = 0 := by simp [marks0] at hi; omega
  simp [marks0] at hx hy
  subst hx; subst hy; decide
theorem right0 {v r : Int} (h : RightR marks0 101 v r) : v = 201 ∧ r = 0 := by
  rcases h with ⟨hno, _⟩ | ⟨_, hin, _⟩ | ⟨_, _, hr, ht⟩
  · exact absurd marks0_ok hno
  · exact absurd hin (by decide)
  · exact ⟨ht.2.2 0 (100, 200) (300, 500) rfl rfl (by decide) (by decide), hr⟩

theorem Greedy.det {l : List (Int × Int)} {s : Int} {last : Nat} : ∀ {r r' : List Nat} {a : Nat}, Greedy l s last a r → Greedy l s last a r' → r = r'
  | [], [], _, _, _ => rfl
  | [], b :: r, a, h, h' => by have h1 : a = last := h; have := h'.1; have := h'.2.1; omega
  | b :: r, [], a, h', h => by have h1 : a = last := h; have := h'.1; have := h'.2.1; omega
  | b :: r, b' :: r', a, ⟨h1, h2, h3, h4, h5⟩, ⟨k1, k2, k3, k4, k5⟩ => by
    rcases Nat.lt_trichotomy b b' with h | h | h
    · rw [k4 b h1 h] at h3; cases h3
    · subst h; rw [Greedy.det h5 k5]
    · rw [h4 b' k1 h] at k3; cases k3
def ints0 : List Int := [0, 5, 11, 15, 0]
def pts0 : List (Int × Int) := serP ints0 5
theorem two_le {l : List (Int × Int)} {s : Int} {last a : Nat} (hne : a ≠ last) (hn : nearB l a last s = false) : ∀ k, HopsK l s last k a → 2 ≤ k
  | 0, h => absurd h hne
  | 1, ⟨b, _, _, h3, h4⟩ => by have h5 : b = last := h4; subst h5; rw [hn] at h3; cases h3
  | k + 2, _ => by omega
theorem n04 : nearB pts0 0 4 1 = false := by decide +kernel
theorem n14 : nearB pts0 1 4 1 = false := by decide +kernel
theorem n24 : nearB pts0 2 4 1 = false := by decide +kernel
theorem n34 : nearB pts0 3 4 1 = true := by decide +kernel
theorem n03 : nearB pts0 0 3 1 = true := by decide +kernel
theorem n13 : nearB pts0 1 3 1 = true := by decide +kernel
theorem n23 : nearB pts0 2 3 1 = true := by decide +kernel
theorem hop3 : HopsK pts0 1 4 1 3 := ⟨4, by omega, by omega, n34, rfl⟩
theorem r3 : restN pts0 1 4 3 = 1 := restN_of ⟨hop3, fun k hk => by
  match k, hk with
  | 0, hk => have : 3 = 4 := hk; omega
  | k + 1, _ => omega⟩
theorem r4 : restN pts0 1 4 4 = 0 := restN_of (isRest_last _ _ _)
theorem r0 : restN pts0 1 4 0 = 2 := restN_of ⟨⟨3, by omega, by omega, n03, hop3⟩, two_le (by omega) n04⟩
theorem r1 : restN pts0 1 4 1 = 2 := restN_of ⟨⟨3, by omega, by omega, n13, hop3⟩, two_le (by omega) n14⟩
theorem r2 : restN pts0 1 4 2 = 2 := restN_of ⟨⟨3, by omega, by omega, n23, hop3⟩, two_le (by omega) n24⟩
theorem greedy0 : Greedy pts0 1 4 0 [3, 4] := by
  refine ⟨by omega, by omega, by rw [goodB, n03, r0, r3]; rfl, fun b' h1 h2 => ?_, by omega, by omega, by rw [goodB, n34, r3, r4]; rfl, fun b' h1 h2 => by omega, rfl⟩
  match b', h1, h2 with
  | 1, _, _ => rw [goodB, r0, r1]; simp
  | 2, _, _ => rw [goodB, r0, r2]; simp
theorem ser0_ok : SerOk pts0 := by
  refine ⟨by decide, by decide +kernel, fun i x y hi hx hy => ?_⟩
  have h5 : pts0.length = 5 := by decide
  rw [h5] at hi
  match i, hi, hx, hy with
  | 0, _, hx, hy => cases hx; cases hy; decide
  | 1, _, hx, hy => cases hx; cases hy; decide
  | 2, _, hx, hy => cases hx; cases hy; decide
  | 3, _, hx, hy => cases hx; cases hy; decide
theorem asked0 : askedE pts0 1 = 0 := askedE_zero.2 ⟨ser0_ok, by decide⟩
end Go.Proofs.Ytkgoojilmnkgiaa
