/- PLAIN: what a warden has, and what a line does. No program in sight. -/
import Derived.Test.YtjpobkmlcjbpiaaGreatZHearLaw
import Derived.Test.YtjpobkmlcjbpiaaGreatZBetter
import Derived.Test.YtjpobkmlcjbpiaaGreatWLaw
import Derived.Test.YtjpobkmlcjbpiaaGreatYAllCel
import Derived.Test.YtjpobkmlcjbpiaaGreatHexLaw
set_option linter.unusedVariables false
set_option linter.unusedSimpArgs false
namespace Go.Proofs.YtjpobkmlcjbpiaaGreat
open Go.RowKit

/-- a slide as it is, wherever its way lies -/
structure PSl where
  way : List Int
  rate : Int
  lo : Int
  hi : Int
  deriving DecidableEq
def PSl.sli (s : PSl) : Sli := ⟨none, 0, 0, s.way, s.rate, s.lo, s.hi⟩
structure Sess where
  cols : List BedS
  least : Int
  links : List Int
  cells : List Cel
  sn0 : Int
  sn1 : Int
  so0 : Int
  so1 : Int
  melt : Int
  days : List Dy
  a0 : Int
  a1 : Int
  a2 : Int
  levels : List Int
  pars : List Par
  sls : List PSl
  t0 : Int
  t1 : Int
  t2 : Int
  spent : Int
  bought : List Int
  rds : List Rdg
def Sess.vly (b : Sess) : Vly := ⟨b.pars, b.sls.map PSl.sli, b.t0, b.t1, b.t2⟩
def begS : Sess := ⟨[], 1, [], [], 0, 0, 0, 0, 0, [], 1000, 1200, 1500, [], [], [], 1, 2, 3, 0, [], []⟩

instance (b : BedS) : Decidable (bedOk b) := by unfold bedOk; infer_instance
instance (n : Nat) (c : Cel) : Decidable (celOk n c) := by unfold celOk; infer_instance
/-- what is valid -/
def slopeOk (cols : List BedS) (least : Int) : Bool := inB cols.length 1 12 && inB least 1 4 && allB (fun b => decide (bedOk b)) cols
def noSelf (cells : List Cel) : Bool := allB (fun i => decide ((celA cells i).to ≠ (i : Int))) (List.range cells.length)
def groundOk (cells : List Cel) (sn0 sn1 so0 so1 melt : Int) : Bool :=
  inB cells.length 1 8 && allB (fun c => decide (celOk cells.length c)) cells && upB sn0 sn1 100000 && upB so0 so1 1000 && inB melt 0 50 && noSelf cells
def dayOk (d : Dy) : Bool := upB d.lo d.hi 1000 && inB d.warm (-50) 50
/-- the error of a ground with days -/
def faultW (cells : List Cel) (sn0 sn1 so0 so1 melt : Int) (days : List Dy) : Int :=
  if groundOk cells sn0 sn1 so0 so1 melt = false then 1 else if 30 < days.length then 3 else if allB dayOk days then 0 else 1

/-- the water of a truth behind so many days -/
def truthW (b : Sess) (high : Bool) (n : Nat) : WaySt :=
  if high then daysW b.cells b.melt b.so1 (b.days.map (·.hi)) (b.days.map (·.warm)) ⟨b.cells.map (·.hi), b.sn1, 0⟩ n
  else daysW b.cells b.melt b.so0 (b.days.map (·.lo)) (b.days.map (·.warm)) ⟨b.cells.map (·.lo), b.sn0, 0⟩ n
def lowsS (b : Sess) : List Int := (truthW b false b.days.length).lv
def highsS (b : Sess) : List Int := (truthW b true b.days.length).lv
/-- a bed with the water of its cell -/
def wetB (b : Sess) (x : BedS) (c : Int) : BedS := if c = -1 then x else { x with w0 := min 100000 (lvA (lowsS b) c.toNat), w1 := min 100000 (lvA (highsS b) c.toNat) }
def wetS (b : Sess) : List BedS := List.zipWith (wetB b) b.cols b.links

/-- what the columns hold at least, and drive -/
def holdA (l : List BedS) (j : Nat) : Int := match l[j]? with | some b => leastS b | none => 0
def drivA (l : List BedS) (j : Nat) : Int := match l[j]? with | some b => b.drive | none => 0
def lowB (H D : Nat → Int) (n : Int) (m least : Nat) : Bool := (List.range m).any fun i => (List.range m).any fun j => decide (i ≤ j) && decide (i + least ≤ j + 1) && decide (sumS (costS H D n) (j - i) i < 0)
theorem lowB_iff {H D : Nat → Int} {n : Int} {m least : Nat} : lowB H D n m least = true ↔ Lower (costS H D n) m least := by
  simp only [lowB, List.any_eq_true, List.mem_range, Bool.and_eq_true, decide_eq_true_eq, Lower]
  constructor
  · rintro ⟨i, hi, j, hj, ⟨h1, h2⟩, h3⟩; exact ⟨i, j, h1, hj, h2, h3⟩
  · rintro ⟨i, j, h1, hj, h2, h3⟩; exact ⟨i, by omega, j, hj, ⟨h1, h2⟩, h3⟩
/-- where the halves end, from 1 to 10001 -/
def halvW (l : List BedS) (least : Nat) : Int := halfS (fun n => lowB (holdA l) (drivA l) n l.length least) 10001 1 10001
/-- the least factor; none: nothing drives -/
def worstP (l : List BedS) (least : Nat) : Option Int :=
  if halvW l least ≤ 10000 then some (halvW l least - 1) else if lowB (fun _ => 0) (drivA l) 1 l.length least then some 10000 else none
def levelN (b : Sess) : Option Int → Int
  | none => 0
  | some f => (if f < b.a0 then 1 else 0) + (if f < b.a1 then 1 else 0) + (if f < b.a2 then 1 else 0)
def levelP (b : Sess) : Int := levelN b (worstP (wetS b) b.least.toNat)

def nth (l : List Int) (i : Nat) : Int := l.getD i 0
def bedOf (l : List Int) : BedS := ⟨nth l 0, nth l 1, nth l 2, nth l 3, nth l 4, nth l 5, nth l 6, nth l 7⟩
def celOf (l : List Int) : Cel := ⟨nth l 0, nth l 1, nth l 2, nth l 3, nth l 4, nth l 5, nth l 6⟩
def refuse (b : Sess) (e : Int) : Sess × Int := (b, e)
def done (b : Sess) : Sess × Int := (b, 0)

def sBed (b : Sess) (l : List Int) : Sess × Int :=
  if 12 ≤ b.cols.length then refuse b 3
  else if slopeOk (b.cols ++ [bedOf l]) b.least then done { b with cols := b.cols ++ [bedOf l], links := b.links ++ [-1] } else refuse b 1
def sLeast (b : Sess) (l : List Int) : Sess × Int :=
  if b.cols.length = 0 then refuse b 8 else if slopeOk b.cols (nth l 0) then done { b with least := nth l 0 } else refuse b 1
def tried (cells : List Cel) : List Cel := if cells.length = 0 then [⟨0, 0, 1, 0, 0, -1, 0⟩] else cells
def sGround (b : Sess) (l : List Int) : Sess × Int :=
  if b.days.length ≠ 0 then refuse b 8
  else if groundOk (tried b.cells) (nth l 0) (nth l 1) (nth l 2) (nth l 3) (nth l 4) then done { b with sn0 := nth l 0, sn1 := nth l 1, so0 := nth l 2, so1 := nth l 3, melt := nth l 4 } else refuse b 1
def sCell (b : Sess) (l : List Int) : Sess × Int :=
  if b.days.length ≠ 0 then refuse b 8
  else if groundOk (b.cells ++ [celOf l]) b.sn0 b.sn1 b.so0 b.so1 b.melt then done { b with cells := b.cells ++ [celOf l] } else refuse b 1
def sLink (b : Sess) (l : List Int) : Sess × Int :=
  if inB (nth l 0) 0 ((b.links.length : Int) - 1) && inB (nth l 1) 0 ((b.cells.length : Int) - 1) then done { b with links := b.links.set (nth l 0).toNat (nth l 1) } else refuse b 2
def sAlarm (b : Sess) (l : List Int) : Sess × Int :=
  if stepsOk (nth l 0) (nth l 1) (nth l 2) then done { b with a0 := nth l 0, a1 := nth l 1, a2 := nth l 2 } else refuse b 1
/-- a weather line, with so much more rain -/
def wetDay (b : Sess) (d : Dy) : Sess := { b with days := b.days ++ [d] }
def sWeather (b : Sess) (more : Int) (l : List Int) : Sess × Int :=
  if b.cells.length = 0 ∨ b.cols.length = 0 then refuse b 8
  else if faultW b.cells b.sn0 b.sn1 b.so0 b.so1 b.melt (b.days ++ [⟨nth l 0, nth l 1 + more, nth l 2⟩]) ≠ 0 then refuse b (faultW b.cells b.sn0 b.sn1 b.so0 b.so1 b.melt (b.days ++ [⟨nth l 0, nth l 1 + more, nth l 2⟩]))
  else done { b with days := b.days ++ [⟨nth l 0, nth l 1 + more, nth l 2⟩], levels := b.levels ++ [levelP (wetDay b ⟨nth l 0, nth l 1 + more, nth l 2⟩)] }
def ifV (b t : Sess) : Sess × Int := if errV t.vly ≠ 0 then refuse b (errV t.vly) else done t
def sParcel (b : Sess) (l : List Int) : Sess × Int :=
  if inB (nth l 3) 0 1 then ifV b { b with pars := b.pars ++ [⟨nth l 0, nth l 1, nth l 2, decide (nth l 3 = 1)⟩] } else refuse b 2
def sSteps (b : Sess) (l : List Int) : Sess × Int :=
  if b.pars.length = 0 then refuse b 8 else ifV b { b with t0 := nth l 0, t1 := nth l 1, t2 := nth l 2 }
def sSlide (b : Sess) (l : List Int) : Sess × Int :=
  if b.pars.length = 0 then refuse b 8 else ifV b { b with sls := b.sls ++ [⟨[nth l 1], nth l 0, 0, 1⟩] }
def wayTop (s : PSl) (x : Int) : PSl := { s with way := s.way ++ [x], hi := s.hi + 1 }
def sWay (b : Sess) (l : List Int) : Sess × Int :=
  if inB (nth l 0) 0 ((b.sls.length : Int) - 1) then ifV b { b with sls := b.sls.modify (nth l 0).toNat fun s => wayTop s (nth l 1) } else refuse b 2
def reachTo (s : PSl) (r : Int × Int) : PSl := { s with lo := r.1, hi := r.2 }
def sEvid (b : Sess) (l : List Int) : Sess × Int :=
  if b.pars.length = 0 then refuse b 8
  else if hearE b.vly [⟨nth l 0, nth l 1, nth l 2⟩] ≠ 0 then refuse b (hearE b.vly [⟨nth l 0, nth l 1, nth l 2⟩])
  else done { b with sls := List.zipWith reachTo b.sls (leftsL b.vly [⟨nth l 0, nth l 1, nth l 2⟩]) }
/-- a parcel that is bought -/
def insAt (l : List Int) (x : Int) : List Int := l.takeWhile (fun y => decide (y < x)) ++ (if x ∈ l then [] else [x]) ++ l.dropWhile (fun y => decide (y < x))
def buyOne (b : Sess) (i : Int) : Sess := match b.pars[i.toNat]? with
  | some p => { b with spent := b.spent + p.price, pars := b.pars.set i.toNat ⟨p.worth, 0, 0, false⟩, bought := insAt b.bought i }
  | none => b
def buySet (b : Sess) (set : List Int) : Sess := set.foldl buyOne b
def sBuy (b : Sess) (l : List Int) : Sess × Int :=
  if b.pars.length = 0 then refuse b 8
  else if inB (nth l 0) 0 100000000 then done (buySet b (bestB (gainsL b.vly) (b.pars.map (·.price)) (nth l 0)).set) else refuse b 2
/-- what is heard: the readings of bytes are a parameter here (chapter 11) -/
def sHear (readF : List UInt8 → List Rdg) (b : Sess) (t : List UInt8) : Sess × Int := match wireP t with
  | none => refuse b 4
  | some w =>
    if (readF (w.map UInt8.ofNat)).length = 0 then refuse b 7
    else if 200 < b.rds.length + (readF (w.map UInt8.ofNat)).length then refuse b 3
    else done { b with rds := b.rds ++ readF (w.map UInt8.ofNat) }

/-- the words, with how many numbers they have -/
inductive Wd where
  | bed | least | ground | cell | link | alarm | weather | parcel | steps | slide | way | evidence | buy | hear
  deriving DecidableEq
def Wd.all : List Wd := [.bed, .least, .ground, .cell, .link, .alarm, .weather, .parcel, .steps, .slide, .way, .evidence, .buy, .hear]
def Wd.many : Wd → Nat
  | .bed => 8 | .least => 1 | .ground => 5 | .cell => 7 | .link => 2 | .alarm => 3 | .weather => 3 | .parcel => 4 | .steps => 3 | .slide => 2 | .way => 2 | .evidence => 3 | .buy => 1 | .hear => 0
def Wd.name : Wd → List UInt8
  | .bed => [98, 101, 100] | .least => [108, 101, 97, 115, 116] | .ground => [103, 114, 111, 117, 110, 100] | .cell => [99, 101, 108, 108]
  | .link => [108, 105, 110, 107] | .alarm => [97, 108, 97, 114, 109] | .weather => [119, 101, 97, 116, 104, 101, 114] | .parcel => [112, 97, 114, 99, 101, 108]
  | .steps => [115, 116, 101, 112, 115] | .slide => [115, 108, 105, 100, 101] | .way => [119, 97, 121] | .evidence => [101, 118, 105, 100, 101, 110, 99, 101]
  | .buy => [98, 117, 121] | .hear => [104, 101, 97, 114]
def wordOf (s : List UInt8) : Option Wd := Wd.all.find? fun w => decide (w.name = s)
/-- the numbers of some texts; none: some text is none -/
def numsP : List (List UInt8) → Option (List Int)
  | [] => some []
  | s :: l => match wholeP s, numsP l with
    | some x, some r => some (x :: r)
    | _, _ => none
/-- what a line says -/
inductive Cmd where
  | bad
  | nums (w : Wd) (l : List Int)
  | text (t : List UInt8)
def cmdOf (parts : List (List UInt8)) : Cmd := match parts with
  | [] => .bad
  | p :: ps => match wordOf p with
    | none => .bad
    | some .hear => match ps with
      | [t] => .text t
      | _ => .bad
    | some w => if ps.length = w.many then match numsP ps with
        | some l => .nums w l
        | none => .bad
      else .bad
def parseP (s : List UInt8) : Cmd := cmdOf (partsP 32 s)
def sWord (readF : List UInt8 → List Rdg) (b : Sess) (more : Int) : Wd → List Int → Sess × Int
  | .bed, l => sBed b l | .least, l => sLeast b l | .ground, l => sGround b l | .cell, l => sCell b l | .link, l => sLink b l | .alarm, l => sAlarm b l
  | .weather, l => sWeather b more l | .parcel, l => sParcel b l | .steps, l => sSteps b l | .slide, l => sSlide b l | .way, l => sWay b l | .evidence, l => sEvid b l
  | .buy, l => sBuy b l | .hear, _ => refuse b 4
/-- a line -/
def stepP (readF : List UInt8 → List Rdg) (b : Sess) (more : Int) (s : List UInt8) : Sess × Int := match parseP s with
  | .bad => refuse b 4
  | .nums w l => sWord readF b more w l
  | .text t => sHear readF b t
/-- all lines, the one with a number with more rain: the state, the errors -/
def moreAt (now line more : Int) : Int := if now = line then more else 0
def runP (readF : List UInt8 → List Rdg) (line more : Int) : Sess → Int → List (List UInt8) → Sess × List Int
  | b, _, [] => (b, [])
  | b, now, s :: l => let r := stepP readF b (moreAt now line more) s; let t := runP readF line more r.1 (now + 1) l; (t.1, r.2 :: t.2)
end Go.Proofs.YtjpobkmlcjbpiaaGreat
