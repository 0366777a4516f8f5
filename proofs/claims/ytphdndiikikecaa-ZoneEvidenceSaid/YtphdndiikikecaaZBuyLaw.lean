/- PLAIN LAWS of buying: the tries over the parcels, in their order, and what they find. No program in sight. -/
import Derived.Test.YtphdndiikikecaaZLaw
namespace Go.Proofs.Ytphdndiikikecaa

/-- what has been found: its gain, its cost, the set -/
structure Bst where
  gain : Int
  cost : Int
  set : List Int
/-- slices.Compare of two lists of ints -/
def cmpL : List Int → List Int → Int
  | [], [] => 0
  | [], _ :: _ => -1
  | _ :: _, [] => 1
  | a :: l, b :: m => if a = b then cmpL l m else if a < b then -1 else 1
theorem cmpL_bd : ∀ l m : List Int, cmpL l m = -1 ∨ cmpL l m = 0 ∨ cmpL l m = 1
  | [], [] => by simp [cmpL]
  | [], _ :: _ => by simp [cmpL]
  | _ :: _, [] => by simp [cmpL]
  | a :: l, b :: m => by
    have := cmpL_bd l m
    simp only [cmpL]
    split
    · exact this
    · split <;> omega
/-- is a set better than another one? -/
def betterB (g c : Int) (l : List Int) (b : Bst) : Bool :=
  if g = b.gain ∧ c = b.cost then decide (cmpL l b.set < 0) else if b.gain - g = 0 then decide (c - b.cost < 0) else decide (b.gain - g < 0)
def updB (g c : Int) (l : List Int) (st : Bst) : Bst := if betterB g c l st then ⟨g, c, l⟩ else st
def gAt (gs : List Int) (i : Nat) : Int := gs.getD i 0
theorem gAt_of {gs : List Int} {i : Nat} {x : Int} (h : gs[i]? = some x) : gAt gs i = x := by simp [gAt, List.getD, h]
/-- the tries over the parcels from i on -/
def loopB (gs ps : List Int) (B : Int) : Nat → Nat → Int → Int → List Int → Bst → Bst
  | 0, _, _, _, _, st => st
  | k + 1, i, g, c, l, st =>
    loopB gs ps B k (i + 1) g c l
      (if B < c + gAt ps i then st else loopB gs ps B k (i + 1) (g + gAt gs i) (c + gAt ps i) (l ++ [(i : Int)]) (updB (g + gAt gs i) (c + gAt ps i) (l ++ [(i : Int)]) st))
/-- a try -/
def tryB (gs ps : List Int) (B : Int) (k i : Nat) (g c : Int) (l : List Int) (st : Bst) : Bst := if B < c then st else loopB gs ps B k i g c l (updB g c l st)
theorem loopB_zero (gs ps : List Int) (B : Int) (i : Nat) (g c : Int) (l : List Int) (st : Bst) : loopB gs ps B 0 i g c l st = st := rfl
theorem loopB_succ (gs ps : List Int) (B : Int) (k i : Nat) (g c : Int) (l : List Int) (st : Bst) :
    loopB gs ps B (k + 1) i g c l st = loopB gs ps B k (i + 1) g c l (tryB gs ps B k (i + 1) (g + gAt gs i) (c + gAt ps i) (l ++ [(i : Int)]) st) := rfl
def bestB (gs ps : List Int) (B : Int) : Bst := tryB gs ps B gs.length 0 0 0 [] ⟨0, 0, []⟩
end Go.Proofs.Ytphdndiikikecaa
