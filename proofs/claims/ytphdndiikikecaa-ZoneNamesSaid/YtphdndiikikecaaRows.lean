/-
  No cell of these rows narrows 'for every input' (looked for: loops, veiled, ifaces, maps, wideKeys, modest, calm, conditions, laid).
  DERIVED. THE GIVEN ROWS OF THIS SEAT. 14 by the template 'for every input the law returns true; each argument reads behind the call as it read before'; 0 by the template 'total and deterministic' (their statements: YtphdndiikikecaaTotals.lean).
  GIVEN WITH THE SEED: the statements are not yours to turn. If you find one false, say at which input.
  Laid BY PROGRAM, IN A SANDBOX (cutbox-rows.mjs): the forced cells as the released guide's own fill.sh prints them over the translation 17fdb7525cee0748… (all of the seat's roots in one cut). By AI agents, Wed Nov 11 2026. No macro, syntax, notation, axiom, sorry.
-/
import Derived.Test.YtphdndiikikecaaChecked
import GoSem.Claim
import GoSem.ClaimJoined
import GoSem.ClaimMapViews
import Derived.JoinedTies
import Derived.KernelRfl
namespace Go.Proofs.Ytphdndiikikecaa
/- THE CELL 'sum', in the pinned program and in every row, IS THE sha256 OF THE DUMP (.gsa) THAT YtphdndiikikecaaProg.lean LOADS. Nothing in Lean hashes anything: it is a label: what it is worth is what the hold of that sum in a sandbox is worth. -/
noncomputable def Try.pinned : Pinned := { name := "ytphdndiikikecaa", sum := "17fdb7525cee0748e5f247bd3e9605db8749a81b3d00d9ea5b75682da222dc8a", checked := Try.checked }
namespace Rows
def none {H : Type} : Left H := { results := [], args := [] }

/-- 'sackunglaw08.ZoneRanges': WHATEVER THE INPUT: true; the input reads as it did. -/
def zoneRangesSpec : ChangeSpec := { name := "zoneRanges", fn := fun _ => fun
  | [d] => { results := [.lit (.bool true)], args := [d] }
  | _ => none }
def zoneRangesRow : OpenClaim := { program := "ytphdndiikikecaa", sum := "17fdb7525cee0748e5f247bd3e9605db8749a81b3d00d9ea5b75682da222dc8a", func := "sackung/sackunglaw08.ZoneRanges", spec := "zoneRanges", unfollowed := true, recurses := true, apart := false }
def ZoneRangesSaid : Prop := zoneRangesRow.holds Try.pinned (OpenSpec.ofChange zoneRangesSpec)

/-- ITS FALSE NEIGHBOUR: 'it returns false'. Refute it at one input. -/
def zoneRangesWrong : ChangeSpec := { name := "zoneRanges", fn := fun _ => fun
  | [d] => { results := [.lit (.bool false)], args := [d] }
  | _ => none }
def ZoneRangesWrongFalsely : Prop := zoneRangesRow.holds Try.pinned (OpenSpec.ofChange zoneRangesWrong)

/-- 'sackunglaw08.ZonePremiums': WHATEVER THE INPUT: true; the input reads as it did. -/
def zonePremiumsSpec : ChangeSpec := { name := "zonePremiums", fn := fun _ => fun
  | [d1, d2] => { results := [.lit (.bool true)], args := [d1, d2] }
  | _ => none }
def zonePremiumsRow : OpenClaim := { program := "ytphdndiikikecaa", sum := "17fdb7525cee0748e5f247bd3e9605db8749a81b3d00d9ea5b75682da222dc8a", func := "sackung/sackunglaw08.ZonePremiums", spec := "zonePremiums", unfollowed := true, recurses := true, apart := false }
def ZonePremiumsSaid : Prop := zonePremiumsRow.holds Try.pinned (OpenSpec.ofChange zonePremiumsSpec)

/-- ITS FALSE NEIGHBOUR: 'it returns false'. Refute it at one input. -/
def zonePremiumsWrong : ChangeSpec := { name := "zonePremiums", fn := fun _ => fun
  | [d1, d2] => { results := [.lit (.bool false)], args := [d1, d2] }
  | _ => none }
def ZonePremiumsWrongFalsely : Prop := zonePremiumsRow.holds Try.pinned (OpenSpec.ofChange zonePremiumsWrong)

/-- 'sackunglaw08.ZoneCoins': WHATEVER THE INPUT: true; the input reads as it did. -/
def zoneCoinsSpec : ChangeSpec := { name := "zoneCoins", fn := fun _ => fun
  | [d1, d2] => { results := [.lit (.bool true)], args := [d1, d2] }
  | _ => none }
def zoneCoinsRow : OpenClaim := { program := "ytphdndiikikecaa", sum := "17fdb7525cee0748e5f247bd3e9605db8749a81b3d00d9ea5b75682da222dc8a", func := "sackung/sackunglaw08.ZoneCoins", spec := "zoneCoins", unfollowed := true, recurses := true, apart := false }
def ZoneCoinsSaid : Prop := zoneCoinsRow.holds Try.pinned (OpenSpec.ofChange zoneCoinsSpec)

/-- ITS FALSE NEIGHBOUR: 'it returns false'. Refute it at one input. -/
def zoneCoinsWrong : ChangeSpec := { name := "zoneCoins", fn := fun _ => fun
  | [d1, d2] => { results := [.lit (.bool false)], args := [d1, d2] }
  | _ => none }
def ZoneCoinsWrongFalsely : Prop := zoneCoinsRow.holds Try.pinned (OpenSpec.ofChange zoneCoinsWrong)

/-- 'sackunglaw08.ZoneMoney': WHATEVER THE INPUT: true; the input reads as it did. -/
def zoneMoneySpec : ChangeSpec := { name := "zoneMoney", fn := fun _ => fun
  | [d1, d2, d3, d4] => { results := [.lit (.bool true)], args := [d1, d2, d3, d4] }
  | _ => none }
def zoneMoneyRow : OpenClaim := { program := "ytphdndiikikecaa", sum := "17fdb7525cee0748e5f247bd3e9605db8749a81b3d00d9ea5b75682da222dc8a", func := "sackung/sackunglaw08.ZoneMoney", spec := "zoneMoney", unfollowed := true, recurses := true, apart := false }
def ZoneMoneySaid : Prop := zoneMoneyRow.holds Try.pinned (OpenSpec.ofChange zoneMoneySpec)

/-- ITS FALSE NEIGHBOUR: 'it returns false'. Refute it at one input. -/
def zoneMoneyWrong : ChangeSpec := { name := "zoneMoney", fn := fun _ => fun
  | [d1, d2, d3, d4] => { results := [.lit (.bool false)], args := [d1, d2, d3, d4] }
  | _ => none }
def ZoneMoneyWrongFalsely : Prop := zoneMoneyRow.holds Try.pinned (OpenSpec.ofChange zoneMoneyWrong)

/-- 'sackunglaw08.ZoneSteps': WHATEVER THE INPUT: true; the input reads as it did. -/
def zoneStepsSpec : ChangeSpec := { name := "zoneSteps", fn := fun _ => fun
  | [d1, d2, d3] => { results := [.lit (.bool true)], args := [d1, d2, d3] }
  | _ => none }
def zoneStepsRow : OpenClaim := { program := "ytphdndiikikecaa", sum := "17fdb7525cee0748e5f247bd3e9605db8749a81b3d00d9ea5b75682da222dc8a", func := "sackung/sackunglaw08.ZoneSteps", spec := "zoneSteps", unfollowed := true, recurses := true, apart := false }
def ZoneStepsSaid : Prop := zoneStepsRow.holds Try.pinned (OpenSpec.ofChange zoneStepsSpec)

/-- ITS FALSE NEIGHBOUR: 'it returns false'. Refute it at one input. -/
def zoneStepsWrong : ChangeSpec := { name := "zoneSteps", fn := fun _ => fun
  | [d1, d2, d3] => { results := [.lit (.bool false)], args := [d1, d2, d3] }
  | _ => none }
def ZoneStepsWrongFalsely : Prop := zoneStepsRow.holds Try.pinned (OpenSpec.ofChange zoneStepsWrong)

/-- 'sackunglaw08.ZoneBuys': WHATEVER THE INPUT: true; the input reads as it did. -/
def zoneBuysSpec : ChangeSpec := { name := "zoneBuys", fn := fun _ => fun
  | [d1, d2, d3, d4] => { results := [.lit (.bool true)], args := [d1, d2, d3, d4] }
  | _ => none }
def zoneBuysRow : OpenClaim := { program := "ytphdndiikikecaa", sum := "17fdb7525cee0748e5f247bd3e9605db8749a81b3d00d9ea5b75682da222dc8a", func := "sackung/sackunglaw08.ZoneBuys", spec := "zoneBuys", unfollowed := true, recurses := true, apart := false }
def ZoneBuysSaid : Prop := zoneBuysRow.holds Try.pinned (OpenSpec.ofChange zoneBuysSpec)

/-- ITS FALSE NEIGHBOUR: 'it returns false'. Refute it at one input. -/
def zoneBuysWrong : ChangeSpec := { name := "zoneBuys", fn := fun _ => fun
  | [d1, d2, d3, d4] => { results := [.lit (.bool false)], args := [d1, d2, d3, d4] }
  | _ => none }
def ZoneBuysWrongFalsely : Prop := zoneBuysRow.holds Try.pinned (OpenSpec.ofChange zoneBuysWrong)

/-- 'sackunglaw08.ZoneBest': WHATEVER THE INPUT: true; the input reads as it did. -/
def zoneBestSpec : ChangeSpec := { name := "zoneBest", fn := fun _ => fun
  | [d1, d2, d3, d4, d5] => { results := [.lit (.bool true)], args := [d1, d2, d3, d4, d5] }
  | _ => none }
def zoneBestRow : OpenClaim := { program := "ytphdndiikikecaa", sum := "17fdb7525cee0748e5f247bd3e9605db8749a81b3d00d9ea5b75682da222dc8a", func := "sackung/sackunglaw08.ZoneBest", spec := "zoneBest", unfollowed := true, recurses := true, apart := false }
def ZoneBestSaid : Prop := zoneBestRow.holds Try.pinned (OpenSpec.ofChange zoneBestSpec)

/-- ITS FALSE NEIGHBOUR: 'it returns false'. Refute it at one input. -/
def zoneBestWrong : ChangeSpec := { name := "zoneBest", fn := fun _ => fun
  | [d1, d2, d3, d4, d5] => { results := [.lit (.bool false)], args := [d1, d2, d3, d4, d5] }
  | _ => none }
def ZoneBestWrongFalsely : Prop := zoneBestRow.holds Try.pinned (OpenSpec.ofChange zoneBestWrong)

/-- 'sackunglaw08.ZoneDangers': WHATEVER THE INPUT: true; the input reads as it did. -/
def zoneDangersSpec : ChangeSpec := { name := "zoneDangers", fn := fun _ => fun
  | [d1, d2] => { results := [.lit (.bool true)], args := [d1, d2] }
  | _ => none }
def zoneDangersRow : OpenClaim := { program := "ytphdndiikikecaa", sum := "17fdb7525cee0748e5f247bd3e9605db8749a81b3d00d9ea5b75682da222dc8a", func := "sackung/sackunglaw08.ZoneDangers", spec := "zoneDangers", unfollowed := true, recurses := true, apart := false }
def ZoneDangersSaid : Prop := zoneDangersRow.holds Try.pinned (OpenSpec.ofChange zoneDangersSpec)

/-- ITS FALSE NEIGHBOUR: 'it returns false'. Refute it at one input. -/
def zoneDangersWrong : ChangeSpec := { name := "zoneDangers", fn := fun _ => fun
  | [d1, d2] => { results := [.lit (.bool false)], args := [d1, d2] }
  | _ => none }
def ZoneDangersWrongFalsely : Prop := zoneDangersRow.holds Try.pinned (OpenSpec.ofChange zoneDangersWrong)

/-- 'sackunglaw08.ZoneTruth': WHATEVER THE INPUT: true; the input reads as it did. -/
def zoneTruthSpec : ChangeSpec := { name := "zoneTruth", fn := fun _ => fun
  | [d1, d2] => { results := [.lit (.bool true)], args := [d1, d2] }
  | _ => none }
def zoneTruthRow : OpenClaim := { program := "ytphdndiikikecaa", sum := "17fdb7525cee0748e5f247bd3e9605db8749a81b3d00d9ea5b75682da222dc8a", func := "sackung/sackunglaw08.ZoneTruth", spec := "zoneTruth", unfollowed := true, recurses := true, apart := false }
def ZoneTruthSaid : Prop := zoneTruthRow.holds Try.pinned (OpenSpec.ofChange zoneTruthSpec)

/-- ITS FALSE NEIGHBOUR: 'it returns false'. Refute it at one input. -/
def zoneTruthWrong : ChangeSpec := { name := "zoneTruth", fn := fun _ => fun
  | [d1, d2] => { results := [.lit (.bool false)], args := [d1, d2] }
  | _ => none }
def ZoneTruthWrongFalsely : Prop := zoneTruthRow.holds Try.pinned (OpenSpec.ofChange zoneTruthWrong)

/-- 'sackunglaw08.ZonePays': WHATEVER THE INPUT: true; the input reads as it did. -/
def zonePaysSpec : ChangeSpec := { name := "zonePays", fn := fun _ => fun
  | [d1, d2, d3, d4] => { results := [.lit (.bool true)], args := [d1, d2, d3, d4] }
  | _ => none }
def zonePaysRow : OpenClaim := { program := "ytphdndiikikecaa", sum := "17fdb7525cee0748e5f247bd3e9605db8749a81b3d00d9ea5b75682da222dc8a", func := "sackung/sackunglaw08.ZonePays", spec := "zonePays", unfollowed := true, recurses := true, apart := false }
def ZonePaysSaid : Prop := zonePaysRow.holds Try.pinned (OpenSpec.ofChange zonePaysSpec)

/-- ITS FALSE NEIGHBOUR: 'it returns false'. Refute it at one input. -/
def zonePaysWrong : ChangeSpec := { name := "zonePays", fn := fun _ => fun
  | [d1, d2, d3, d4] => { results := [.lit (.bool false)], args := [d1, d2, d3, d4] }
  | _ => none }
def ZonePaysWrongFalsely : Prop := zonePaysRow.holds Try.pinned (OpenSpec.ofChange zonePaysWrong)

/-- 'sackunglaw08.ZonePaid': WHATEVER THE INPUT: true; the input reads as it did. -/
def zonePaidSpec : ChangeSpec := { name := "zonePaid", fn := fun _ => fun
  | [d1, d2, d3, d4] => { results := [.lit (.bool true)], args := [d1, d2, d3, d4] }
  | _ => none }
def zonePaidRow : OpenClaim := { program := "ytphdndiikikecaa", sum := "17fdb7525cee0748e5f247bd3e9605db8749a81b3d00d9ea5b75682da222dc8a", func := "sackung/sackunglaw08.ZonePaid", spec := "zonePaid", unfollowed := true, recurses := true, apart := false }
def ZonePaidSaid : Prop := zonePaidRow.holds Try.pinned (OpenSpec.ofChange zonePaidSpec)

/-- ITS FALSE NEIGHBOUR: 'it returns false'. Refute it at one input. -/
def zonePaidWrong : ChangeSpec := { name := "zonePaid", fn := fun _ => fun
  | [d1, d2, d3, d4] => { results := [.lit (.bool false)], args := [d1, d2, d3, d4] }
  | _ => none }
def ZonePaidWrongFalsely : Prop := zonePaidRow.holds Try.pinned (OpenSpec.ofChange zonePaidWrong)

/-- 'sackunglaw08.ZoneHears': WHATEVER THE INPUT: true; the input reads as it did. -/
def zoneHearsSpec : ChangeSpec := { name := "zoneHears", fn := fun _ => fun
  | [d1, d2] => { results := [.lit (.bool true)], args := [d1, d2] }
  | _ => none }
def zoneHearsRow : OpenClaim := { program := "ytphdndiikikecaa", sum := "17fdb7525cee0748e5f247bd3e9605db8749a81b3d00d9ea5b75682da222dc8a", func := "sackung/sackunglaw08.ZoneHears", spec := "zoneHears", unfollowed := true, recurses := true, apart := false }
def ZoneHearsSaid : Prop := zoneHearsRow.holds Try.pinned (OpenSpec.ofChange zoneHearsSpec)

/-- ITS FALSE NEIGHBOUR: 'it returns false'. Refute it at one input. -/
def zoneHearsWrong : ChangeSpec := { name := "zoneHears", fn := fun _ => fun
  | [d1, d2] => { results := [.lit (.bool false)], args := [d1, d2] }
  | _ => none }
def ZoneHearsWrongFalsely : Prop := zoneHearsRow.holds Try.pinned (OpenSpec.ofChange zoneHearsWrong)

/-- 'sackunglaw08.ZoneEvidence': WHATEVER THE INPUT: true; the input reads as it did. -/
def zoneEvidenceSpec : ChangeSpec := { name := "zoneEvidence", fn := fun _ => fun
  | [d1, d2, d3, d4] => { results := [.lit (.bool true)], args := [d1, d2, d3, d4] }
  | _ => none }
def zoneEvidenceRow : OpenClaim := { program := "ytphdndiikikecaa", sum := "17fdb7525cee0748e5f247bd3e9605db8749a81b3d00d9ea5b75682da222dc8a", func := "sackung/sackunglaw08.ZoneEvidence", spec := "zoneEvidence", unfollowed := true, recurses := true, apart := false }
def ZoneEvidenceSaid : Prop := zoneEvidenceRow.holds Try.pinned (OpenSpec.ofChange zoneEvidenceSpec)

/-- ITS FALSE NEIGHBOUR: 'it returns false'. Refute it at one input. -/
def zoneEvidenceWrong : ChangeSpec := { name := "zoneEvidence", fn := fun _ => fun
  | [d1, d2, d3, d4] => { results := [.lit (.bool false)], args := [d1, d2, d3, d4] }
  | _ => none }
def ZoneEvidenceWrongFalsely : Prop := zoneEvidenceRow.holds Try.pinned (OpenSpec.ofChange zoneEvidenceWrong)

/-- 'sackunglaw08.ZoneNames': WHATEVER THE INPUT: true; the input reads as it did. -/
def zoneNamesSpec : ChangeSpec := { name := "zoneNames", fn := fun _ => fun
  | [] => { results := [.lit (.bool true)], args := [] }
  | _ => none }
def zoneNamesRow : OpenClaim := { program := "ytphdndiikikecaa", sum := "17fdb7525cee0748e5f247bd3e9605db8749a81b3d00d9ea5b75682da222dc8a", func := "sackung/sackunglaw08.ZoneNames", spec := "zoneNames", unfollowed := true, recurses := true, apart := false }
def ZoneNamesSaid : Prop := zoneNamesRow.holds Try.pinned (OpenSpec.ofChange zoneNamesSpec)

/-- ITS FALSE NEIGHBOUR: 'it returns false'. Refute it at one input. -/
def zoneNamesWrong : ChangeSpec := { name := "zoneNames", fn := fun _ => fun
  | [] => { results := [.lit (.bool false)], args := [] }
  | _ => none }
def ZoneNamesWrongFalsely : Prop := zoneNamesRow.holds Try.pinned (OpenSpec.ofChange zoneNamesWrong)

/- THE SECOND FORM. 'bulk': how many values and letters a reading holds, each counted each time it is reached (what is shared counts as often as it is met; a slice's spare places count too). A statement '..UptoSaid' is the law's where the arguments, and the package variables that the reading takes, are together of bulk at most 1048576: NARROWER than '..Said'. Prove '..Said' where nothing that the law and all that it calls make is longer than what came in: it says more and counts as full. Else prove '..UptoSaid'. A law counts once. -/
mutual
def uptoBulk {H : Type} : DataW H → Nat
  | .lit (.string bytes) => bytes.length + 1
  | .lit _ => 1
  | .nil => 1
  | .ptr d => uptoBulk d + 1
  | .slice elems spare => uptoBulkAll elems + uptoBulkAll spare + 1
  | .agg parts => uptoBulkAll parts + 1
  | .iface _ d => uptoBulk d + 1
  | .map entries => uptoBulkEntries entries + 1
  | .held _ => 1
def uptoBulkAll {H : Type} : List (DataW H) → Nat
  | [] => 0
  | d :: r => uptoBulk d + uptoBulkAll r
def uptoBulkEntries {H : Type} : List (Lit × DataW H) → Nat
  | [] => 0
  | x :: r => uptoBulkEntry x + uptoBulkEntries r
def uptoBulkEntry {H : Type} : Lit × DataW H → Nat
  | (.string bytes, d) => bytes.length + uptoBulk d + 1
  | (_, d) => uptoBulk d + 1
 end
def uptoSmall : (H : Type) → List (DataW H) → Bool := fun _ ds => decide (uptoBulkAll ds ≤ 1048576)
def OpenSpec.upto (s : _root_.Go.ChangeSpec) : _root_.Go.OpenSpec := { _root_.Go.OpenSpec.ofChange s with cond := some uptoSmall }

/-- 'sackunglaw08.ZoneRanges', WHERE WHAT IT READS IS OF BULK AT MOST 1048576: true; the input reads as it did. -/
def zoneRangesUptoRow : OpenClaim := { program := "ytphdndiikikecaa", sum := "17fdb7525cee0748e5f247bd3e9605db8749a81b3d00d9ea5b75682da222dc8a", func := "sackung/sackunglaw08.ZoneRanges", spec := "zoneRanges", unfollowed := true, recurses := true, apart := false, narrowed := true }
def ZoneRangesUptoSaid : Prop := zoneRangesUptoRow.holds Try.pinned (OpenSpec.upto zoneRangesSpec)

/-- 'sackunglaw08.ZonePremiums', WHERE WHAT IT READS IS OF BULK AT MOST 1048576: true; the input reads as it did. -/
def zonePremiumsUptoRow : OpenClaim := { program := "ytphdndiikikecaa", sum := "17fdb7525cee0748e5f247bd3e9605db8749a81b3d00d9ea5b75682da222dc8a", func := "sackung/sackunglaw08.ZonePremiums", spec := "zonePremiums", unfollowed := true, recurses := true, apart := false, narrowed := true }
def ZonePremiumsUptoSaid : Prop := zonePremiumsUptoRow.holds Try.pinned (OpenSpec.upto zonePremiumsSpec)

/-- 'sackunglaw08.ZoneCoins', WHERE WHAT IT READS IS OF BULK AT MOST 1048576: true; the input reads as it did. -/
def zoneCoinsUptoRow : OpenClaim := { program := "ytphdndiikikecaa", sum := "17fdb7525cee0748e5f247bd3e9605db8749a81b3d00d9ea5b75682da222dc8a", func := "sackung/sackunglaw08.ZoneCoins", spec := "zoneCoins", unfollowed := true, recurses := true, apart := false, narrowed := true }
def ZoneCoinsUptoSaid : Prop := zoneCoinsUptoRow.holds Try.pinned (OpenSpec.upto zoneCoinsSpec)

/-- 'sackunglaw08.ZoneMoney', WHERE WHAT IT READS IS OF BULK AT MOST 1048576: true; the input reads as it did. -/
def zoneMoneyUptoRow : OpenClaim := { program := "ytphdndiikikecaa", sum := "17fdb7525cee0748e5f247bd3e9605db8749a81b3d00d9ea5b75682da222dc8a", func := "sackung/sackunglaw08.ZoneMoney", spec := "zoneMoney", unfollowed := true, recurses := true, apart := false, narrowed := true }
def ZoneMoneyUptoSaid : Prop := zoneMoneyUptoRow.holds Try.pinned (OpenSpec.upto zoneMoneySpec)

/-- 'sackunglaw08.ZoneSteps', WHERE WHAT IT READS IS OF BULK AT MOST 1048576: true; the input reads as it did. -/
def zoneStepsUptoRow : OpenClaim := { program := "ytphdndiikikecaa", sum := "17fdb7525cee0748e5f247bd3e9605db8749a81b3d00d9ea5b75682da222dc8a", func := "sackung/sackunglaw08.ZoneSteps", spec := "zoneSteps", unfollowed := true, recurses := true, apart := false, narrowed := true }
def ZoneStepsUptoSaid : Prop := zoneStepsUptoRow.holds Try.pinned (OpenSpec.upto zoneStepsSpec)

/-- 'sackunglaw08.ZoneBuys', WHERE WHAT IT READS IS OF BULK AT MOST 1048576: true; the input reads as it did. -/
def zoneBuysUptoRow : OpenClaim := { program := "ytphdndiikikecaa", sum := "17fdb7525cee0748e5f247bd3e9605db8749a81b3d00d9ea5b75682da222dc8a", func := "sackung/sackunglaw08.ZoneBuys", spec := "zoneBuys", unfollowed := true, recurses := true, apart := false, narrowed := true }
def ZoneBuysUptoSaid : Prop := zoneBuysUptoRow.holds Try.pinned (OpenSpec.upto zoneBuysSpec)

/-- 'sackunglaw08.ZoneBest', WHERE WHAT IT READS IS OF BULK AT MOST 1048576: true; the input reads as it did. -/
def zoneBestUptoRow : OpenClaim := { program := "ytphdndiikikecaa", sum := "17fdb7525cee0748e5f247bd3e9605db8749a81b3d00d9ea5b75682da222dc8a", func := "sackung/sackunglaw08.ZoneBest", spec := "zoneBest", unfollowed := true, recurses := true, apart := false, narrowed := true }
def ZoneBestUptoSaid : Prop := zoneBestUptoRow.holds Try.pinned (OpenSpec.upto zoneBestSpec)

/-- 'sackunglaw08.ZoneDangers', WHERE WHAT IT READS IS OF BULK AT MOST 1048576: true; the input reads as it did. -/
def zoneDangersUptoRow : OpenClaim := { program := "ytphdndiikikecaa", sum := "17fdb7525cee0748e5f247bd3e9605db8749a81b3d00d9ea5b75682da222dc8a", func := "sackung/sackunglaw08.ZoneDangers", spec := "zoneDangers", unfollowed := true, recurses := true, apart := false, narrowed := true }
def ZoneDangersUptoSaid : Prop := zoneDangersUptoRow.holds Try.pinned (OpenSpec.upto zoneDangersSpec)

/-- 'sackunglaw08.ZoneTruth', WHERE WHAT IT READS IS OF BULK AT MOST 1048576: true; the input reads as it did. -/
def zoneTruthUptoRow : OpenClaim := { program := "ytphdndiikikecaa", sum := "17fdb7525cee0748e5f247bd3e9605db8749a81b3d00d9ea5b75682da222dc8a", func := "sackung/sackunglaw08.ZoneTruth", spec := "zoneTruth", unfollowed := true, recurses := true, apart := false, narrowed := true }
def ZoneTruthUptoSaid : Prop := zoneTruthUptoRow.holds Try.pinned (OpenSpec.upto zoneTruthSpec)

/-- 'sackunglaw08.ZonePays', WHERE WHAT IT READS IS OF BULK AT MOST 1048576: true; the input reads as it did. -/
def zonePaysUptoRow : OpenClaim := { program := "ytphdndiikikecaa", sum := "17fdb7525cee0748e5f247bd3e9605db8749a81b3d00d9ea5b75682da222dc8a", func := "sackung/sackunglaw08.ZonePays", spec := "zonePays", unfollowed := true, recurses := true, apart := false, narrowed := true }
def ZonePaysUptoSaid : Prop := zonePaysUptoRow.holds Try.pinned (OpenSpec.upto zonePaysSpec)

/-- 'sackunglaw08.ZonePaid', WHERE WHAT IT READS IS OF BULK AT MOST 1048576: true; the input reads as it did. -/
def zonePaidUptoRow : OpenClaim := { program := "ytphdndiikikecaa", sum := "17fdb7525cee0748e5f247bd3e9605db8749a81b3d00d9ea5b75682da222dc8a", func := "sackung/sackunglaw08.ZonePaid", spec := "zonePaid", unfollowed := true, recurses := true, apart := false, narrowed := true }
def ZonePaidUptoSaid : Prop := zonePaidUptoRow.holds Try.pinned (OpenSpec.upto zonePaidSpec)

/-- 'sackunglaw08.ZoneHears', WHERE WHAT IT READS IS OF BULK AT MOST 1048576: true; the input reads as it did. -/
def zoneHearsUptoRow : OpenClaim := { program := "ytphdndiikikecaa", sum := "17fdb7525cee0748e5f247bd3e9605db8749a81b3d00d9ea5b75682da222dc8a", func := "sackung/sackunglaw08.ZoneHears", spec := "zoneHears", unfollowed := true, recurses := true, apart := false, narrowed := true }
def ZoneHearsUptoSaid : Prop := zoneHearsUptoRow.holds Try.pinned (OpenSpec.upto zoneHearsSpec)

/-- 'sackunglaw08.ZoneEvidence', WHERE WHAT IT READS IS OF BULK AT MOST 1048576: true; the input reads as it did. -/
def zoneEvidenceUptoRow : OpenClaim := { program := "ytphdndiikikecaa", sum := "17fdb7525cee0748e5f247bd3e9605db8749a81b3d00d9ea5b75682da222dc8a", func := "sackung/sackunglaw08.ZoneEvidence", spec := "zoneEvidence", unfollowed := true, recurses := true, apart := false, narrowed := true }
def ZoneEvidenceUptoSaid : Prop := zoneEvidenceUptoRow.holds Try.pinned (OpenSpec.upto zoneEvidenceSpec)

/-- 'sackunglaw08.ZoneNames', WHERE WHAT IT READS IS OF BULK AT MOST 1048576: true; the input reads as it did. -/
def zoneNamesUptoRow : OpenClaim := { program := "ytphdndiikikecaa", sum := "17fdb7525cee0748e5f247bd3e9605db8749a81b3d00d9ea5b75682da222dc8a", func := "sackung/sackunglaw08.ZoneNames", spec := "zoneNames", unfollowed := true, recurses := true, apart := false, narrowed := true }
def ZoneNamesUptoSaid : Prop := zoneNamesUptoRow.holds Try.pinned (OpenSpec.upto zoneNamesSpec)

end Rows
end Go.Proofs.Ytphdndiikikecaa
