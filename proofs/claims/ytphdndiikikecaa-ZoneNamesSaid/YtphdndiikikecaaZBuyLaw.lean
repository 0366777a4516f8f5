/- THE LIBRARY's sort and clone at this program: the shelf's structures, laid in plain words. -/
import Derived.Test.YtphdndiikikecaaProg
import Derived.Shelf.SlSortCmp.NoneTotal
import Derived.Shelf.SlicesE.Clone
import Derived.Test.YtphdndiikikecaaZLaw
set_option linter.unusedVariables false
set_option linter.unusedSimpArgs false
namespace Go.Proofs.Ytphdndiikikecaa
open Go.Shelf Go.Proofs
def sortR_ren : Go.Shelf.Ren := ⟨fun | 6 => 83 | 15 => 95 | 14 => 94 | 28 => 108 | 29 => 109 | 20 => 100 | 21 => 101 | 22 => 102 | 23 => 103 | 24 => 104 | 25 => 105 | 26 => 106 | 27 => 107 | 46 => 111 | 47 => 112 | 48 => 113 | 49 => 114 | 50 => 115 | 57 => 116 | n => n, fun | 22 => 133 | 24 => 135 | 25 => 137 | 3 => 3 | 39 => 74 | 0 => 0 | 53 => 52 | 55 => 157 | 4 => 4 | 46 => 149 | 45 => 148 | 50 => 153 | 5 => 5 | 9 => 9 | 66 => 158 | 70 => 162 | 76 => 164 | 77 => 165 | n => n, fun | n => n⟩
theorem sortR : Go.Proofs.SlLaysF0.n6 Try.prog sortR_ren := {
  mixed := by kernel_rfl
  f6 := ⟨Try.f83.name, by decide, Try.func83.trans (congrArg some (by kernel_rfl))⟩
  f14 := ⟨Try.f94.name, by decide, Try.func94.trans (congrArg some (by kernel_rfl))⟩
  f15 := Try.func95.trans (congrArg some (by kernel_rfl))
  f20 := ⟨Try.f100.name, by decide, Try.func100.trans (congrArg some (by kernel_rfl))⟩
  f21 := ⟨Try.f101.name, by decide, Try.func101.trans (congrArg some (by kernel_rfl))⟩
  f22 := ⟨Try.f102.name, by decide, Try.func102.trans (congrArg some (by kernel_rfl))⟩
  f23 := ⟨Try.f103.name, by decide, Try.func103.trans (congrArg some (by kernel_rfl))⟩
  f24 := ⟨Try.f104.name, by decide, Try.func104.trans (congrArg some (by kernel_rfl))⟩
  f25 := ⟨Try.f105.name, by decide, Try.func105.trans (congrArg some (by kernel_rfl))⟩
  f26 := ⟨Try.f106.name, by decide, Try.func106.trans (congrArg some (by kernel_rfl))⟩
  f27 := ⟨Try.f107.name, by decide, Try.func107.trans (congrArg some (by kernel_rfl))⟩
  f28 := Try.func108.trans (congrArg some (by kernel_rfl))
  f29 := Try.func109.trans (congrArg some (by kernel_rfl))
  f46 := ⟨Try.f111.name, by decide, Try.func111.trans (congrArg some (by kernel_rfl))⟩
  f47 := Try.func112.trans (congrArg some (by kernel_rfl))
  f48 := Try.func113.trans (congrArg some (by kernel_rfl))
  f49 := ⟨Try.f114.name, by decide, Try.func114.trans (congrArg some (by kernel_rfl))⟩
  f50 := ⟨Try.f115.name, by decide, Try.func115.trans (congrArg some (by kernel_rfl))⟩
  f57 := ⟨Try.f116.name, by decide, Try.func116.trans (congrArg some (by kernel_rfl))⟩
  t0 := Try.underlying0
  a0 := Try.isAgg0
  z0 := Try.sizeOf0
  v0 := Try.zeroValue0
  t3 := Try.underlying3
  a3 := Try.isAgg3
  z3 := Try.sizeOf3
  v3 := Try.zeroValue3
  t4 := Try.underlying4
  a4 := Try.isAgg4
  z4 := Try.sizeOf4
  v4 := Try.zeroValue4
  t5 := Try.underlying5
  a5 := Try.isAgg5
  z5 := Try.sizeOf5
  v5 := Try.zeroValue5
  t9 := Try.underlying9
  a9 := Try.isAgg9
  z9 := Try.sizeOf9
  v9 := Try.zeroValue9
  t22 := Try.underlying133
  a22 := Try.isAgg133
  z22 := Try.sizeOf133
  v22 := Try.zeroValue133
  t25 := Try.underlying137
  a25 := Try.isAgg137
  z25 := Try.sizeOf137
  v25 := Try.zeroValue137
  t39 := Try.underlying74
  a39 := Try.isAgg74
  z39 := Try.sizeOf74
  v39 := Try.zeroValue74
  t45 := Try.underlying148
  a45 := Try.isAgg148
  z45 := Try.sizeOf148
  v45 := Try.zeroValue148
  t46 := Try.underlying149
  a46 := Try.isAgg149
  z46 := Try.sizeOf149
  v46 := Try.zeroValue149
  t50 := Try.underlying153
  a50 := Try.isAgg153
  z50 := Try.sizeOf153
  v50 := Try.zeroValue153
  t53 := Try.underlying52
  a53 := Try.isAgg52
  z53 := Try.sizeOf52
  v53 := Try.zeroValue52
  t55 := Try.underlying157
  a55 := Try.isAgg157
  z55 := Try.sizeOf157
  v55 := Try.zeroValue157
  t66 := Try.underlying158
  a66 := Try.isAgg158
  z66 := Try.sizeOf158
  v66 := Try.zeroValue158
  t70 := Try.underlying162
  a70 := Try.isAgg162
  z70 := Try.sizeOf162
  v70 := Try.zeroValue162
  t76 := Try.underlying164
  a76 := Try.isAgg164
  z76 := Try.sizeOf164
  v76 := Try.zeroValue164
  t77 := Try.underlying165
  a77 := Try.isAgg165
  z77 := Try.sizeOf165
  v77 := Try.zeroValue165 }

def cloneR_ren : Go.Shelf.Ren := ⟨fun | 41 => 67 | n => n, fun | 22 => 39 | 23 => 3 | 4 => 4 | n => n, fun | n => n⟩
theorem cloneR : Go.Proofs.SlLaysE0.n41 Try.prog cloneR_ren := {
  mixed := by kernel_rfl
  f41 := ⟨Try.f67.name, by decide, Try.func67.trans (congrArg some (by kernel_rfl))⟩
  t4 := Try.underlying4
  a4 := Try.isAgg4
  z4 := Try.sizeOf4
  v4 := Try.zeroValue4
  t22 := Try.underlying39
  a22 := Try.isAgg39
  z22 := Try.sizeOf39
  v22 := Try.zeroValue39 }

end Go.Proofs.Ytphdndiikikecaa

namespace Go.Proofs.Ytphdndiikikecaa

/-- what has been found: its gain, its cost, the set -/
structure Bst where
  gain : Int
  cost : Int
  set : List Int
/-- slices.Compare of two lists of ints -/
def cmpL : List Int → List Int → Int
  | [], [] => 0
  | [], _ :: _ => -1
  | _ :: _, [] => 1
  | a :: l, b :: m => if a = b then cmpL l m else if a < b then -1 else 1
theorem cmpL_bd : ∀ l m : List Int, cmpL l m = -1 ∨ cmpL l m = 0 ∨ cmpL l m = 1
  | [], [] => by simp [cmpL]
  | [], _ :: _ => by simp [cmpL]
  | _ :: _, [] => by simp [cmpL]
  | a :: l, b :: m => by
    have := cmpL_bd l m
    simp only [cmpL]
    split
    · exact this
    · split <;> omega
/-- is a set better than another one? -/
def betterB (g c : Int) (l : List Int) (b : Bst) : Bool :=
  if g = b.gain ∧ c = b.cost then decide (cmpL l b.set < 0) else if b.gain - g = 0 then decide (c - b.cost < 0) else decide (b.gain - g < 0)
def updB (g c : Int) (l : List Int) (st : Bst) : Bst := if betterB g c l st then ⟨g, c, l⟩ else st
def gAt (gs : List Int) (i : Nat) : Int := gs.getD i 0
theorem gAt_of {gs : List Int} {i : Nat} {x : Int} (h : gs[i]? = some x) : gAt gs i = x := by simp [gAt, List.getD, h]
/-- the tries over the parcels from i on -/
def loopB (gs ps : List Int) (B : Int) : Nat → Nat → Int → Int → List Int → Bst → Bst
  | 0, _, _, _, _, st => st
  | k + 1, i, g, c, l, st =>
    loopB gs ps B k (i + 1) g c l
      (if B < c + gAt ps i then st else loopB gs ps B k (i + 1) (g + gAt gs i) (c + gAt ps i) (l ++ [(i : Int)]) (updB (g + gAt gs i) (c + gAt ps i) (l ++ [(i : Int)]) st))
/-- a try -/
def tryB (gs ps : List Int) (B : Int) (k i : Nat) (g c : Int) (l : List Int) (st : Bst) : Bst := if B < c then st else loopB gs ps B k i g c l (updB g c l st)
theorem loopB_zero (gs ps : List Int) (B : Int) (i : Nat) (g c : Int) (l : List Int) (st : Bst) : loopB gs ps B 0 i g c l st = st := rfl
theorem loopB_succ (gs ps : List Int) (B : Int) (k i : Nat) (g c : Int) (l : List Int) (st : Bst) :
    loopB gs ps B (k + 1) i g c l st = loopB gs ps B k (i + 1) g c l (tryB gs ps B k (i + 1) (g + gAt gs i) (c + gAt ps i) (l ++ [(i : Int)]) st) := rfl
def bestB (gs ps : List Int) (B : Int) : Bst := tryB gs ps B gs.length 0 0 0 [] ⟨0, 0, []⟩
end Go.Proofs.Ytphdndiikikecaa
