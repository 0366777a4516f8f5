/-
  No cell of these rows narrows 'for every input' (looked for: loops, veiled, ifaces, maps, wideKeys, modest, calm, conditions, laid).
  DERIVED. THE GIVEN ROWS OF THIS SEAT. 14 by the template 'for every input the law returns true; each argument reads behind the call as it read before'; 0 by the template 'total and deterministic' (their statements: YtkgoojilmnkgiaaTotals.lean).
  GIVEN WITH THE SEED: the statements are not yours to turn. If you find one false, say at which input.
  Laid BY PROGRAM, IN A SANDBOX (cutbox-rows.mjs): the forced cells as the released guide's own fill.sh prints them over the translation ca050d08bc24a3ae… (all of the seat's roots in one cut). By AI agents, Wed Nov 11 2026. No macro, syntax, notation, axiom, sorry.
-/
import Derived.Test.YtkgoojilmnkgiaaChecked
import GoSem.Claim
import GoSem.ClaimJoined
import GoSem.ClaimMapViews
import Derived.JoinedTies
import Derived.KernelRfl
namespace Go.Proofs.Ytkgoojilmnkgiaa
/- THE CELL 'sum', in the pinned program and in every row, IS THE sha256 OF THE DUMP (.gsa) THAT YtkgoojilmnkgiaaProg.lean LOADS. Nothing in Lean hashes anything: it is a label: what it is worth is what the hold of that sum in a sandbox is worth. -/
noncomputable def Try.pinned : Pinned := { name := "ytkgoojilmnkgiaa", sum := "ca050d08bc24a3aec8a1a42e9720ce21c9a29ceec2c77f9a5410caac1cfc1e7e", checked := Try.checked }
namespace Rows
def none {H : Type} : Left H := { results := [], args := [] }

/-- 'sackunglaw11.GaugeWrites': WHATEVER THE INPUT: true; the input reads as it did. -/
def gaugeWritesSpec : ChangeSpec := { name := "gaugeWrites", fn := fun _ => fun
  | [d1, d2] => { results := [.lit (.bool true)], args := [d1, d2] }
  | _ => none }
def gaugeWritesRow : OpenClaim := { program := "ytkgoojilmnkgiaa", sum := "ca050d08bc24a3aec8a1a42e9720ce21c9a29ceec2c77f9a5410caac1cfc1e7e", func := "sackung/sackunglaw11.GaugeWrites", spec := "gaugeWrites", unfollowed := true, recurses := true, plainKeys := false, apart := false }
def GaugeWritesSaid : Prop := gaugeWritesRow.holds Try.pinned (OpenSpec.ofChange gaugeWritesSpec)

/-- ITS FALSE NEIGHBOUR: 'it returns false'. Refute it at one input. -/
def gaugeWritesWrong : ChangeSpec := { name := "gaugeWrites", fn := fun _ => fun
  | [d1, d2] => { results := [.lit (.bool false)], args := [d1, d2] }
  | _ => none }
def GaugeWritesWrongFalsely : Prop := gaugeWritesRow.holds Try.pinned (OpenSpec.ofChange gaugeWritesWrong)

/-- 'sackunglaw11.GaugeRights': WHATEVER THE INPUT: true; the input reads as it did. -/
def gaugeRightsSpec : ChangeSpec := { name := "gaugeRights", fn := fun _ => fun
  | [d1, d2] => { results := [.lit (.bool true)], args := [d1, d2] }
  | _ => none }
def gaugeRightsRow : OpenClaim := { program := "ytkgoojilmnkgiaa", sum := "ca050d08bc24a3aec8a1a42e9720ce21c9a29ceec2c77f9a5410caac1cfc1e7e", func := "sackung/sackunglaw11.GaugeRights", spec := "gaugeRights", unfollowed := true, recurses := true, plainKeys := false, apart := false }
def GaugeRightsSaid : Prop := gaugeRightsRow.holds Try.pinned (OpenSpec.ofChange gaugeRightsSpec)

/-- ITS FALSE NEIGHBOUR: 'it returns false'. Refute it at one input. -/
def gaugeRightsWrong : ChangeSpec := { name := "gaugeRights", fn := fun _ => fun
  | [d1, d2] => { results := [.lit (.bool false)], args := [d1, d2] }
  | _ => none }
def GaugeRightsWrongFalsely : Prop := gaugeRightsRow.holds Try.pinned (OpenSpec.ofChange gaugeRightsWrong)

/-- 'sackunglaw11.GaugeEach': WHATEVER THE INPUT: true; the input reads as it did. -/
def gaugeEachSpec : ChangeSpec := { name := "gaugeEach", fn := fun _ => fun
  | [d1, d2] => { results := [.lit (.bool true)], args := [d1, d2] }
  | _ => none }
def gaugeEachRow : OpenClaim := { program := "ytkgoojilmnkgiaa", sum := "ca050d08bc24a3aec8a1a42e9720ce21c9a29ceec2c77f9a5410caac1cfc1e7e", func := "sackung/sackunglaw11.GaugeEach", spec := "gaugeEach", unfollowed := true, recurses := true, plainKeys := false, apart := false }
def GaugeEachSaid : Prop := gaugeEachRow.holds Try.pinned (OpenSpec.ofChange gaugeEachSpec)

/-- ITS FALSE NEIGHBOUR: 'it returns false'. Refute it at one input. -/
def gaugeEachWrong : ChangeSpec := { name := "gaugeEach", fn := fun _ => fun
  | [d1, d2] => { results := [.lit (.bool false)], args := [d1, d2] }
  | _ => none }
def GaugeEachWrongFalsely : Prop := gaugeEachRow.holds Try.pinned (OpenSpec.ofChange gaugeEachWrong)

/-- 'sackunglaw11.GaugeNoise': WHATEVER THE INPUT: true; the input reads as it did. -/
def gaugeNoiseSpec : ChangeSpec := { name := "gaugeNoise", fn := fun _ => fun
  | [d1, d2, d3, d4] => { results := [.lit (.bool true)], args := [d1, d2, d3, d4] }
  | _ => none }
def gaugeNoiseRow : OpenClaim := { program := "ytkgoojilmnkgiaa", sum := "ca050d08bc24a3aec8a1a42e9720ce21c9a29ceec2c77f9a5410caac1cfc1e7e", func := "sackung/sackunglaw11.GaugeNoise", spec := "gaugeNoise", unfollowed := true, recurses := true, plainKeys := false, apart := false }
def GaugeNoiseSaid : Prop := gaugeNoiseRow.holds Try.pinned (OpenSpec.ofChange gaugeNoiseSpec)

/-- ITS FALSE NEIGHBOUR: 'it returns false'. Refute it at one input. -/
def gaugeNoiseWrong : ChangeSpec := { name := "gaugeNoise", fn := fun _ => fun
  | [d1, d2, d3, d4] => { results := [.lit (.bool false)], args := [d1, d2, d3, d4] }
  | _ => none }
def GaugeNoiseWrongFalsely : Prop := gaugeNoiseRow.holds Try.pinned (OpenSpec.ofChange gaugeNoiseWrong)

/-- 'sackunglaw11.GaugeClocks': WHATEVER THE INPUT: true; the input reads as it did. -/
def gaugeClocksSpec : ChangeSpec := { name := "gaugeClocks", fn := fun _ => fun
  | [d1, d2, d3, d4] => { results := [.lit (.bool true)], args := [d1, d2, d3, d4] }
  | _ => none }
def gaugeClocksRow : OpenClaim := { program := "ytkgoojilmnkgiaa", sum := "ca050d08bc24a3aec8a1a42e9720ce21c9a29ceec2c77f9a5410caac1cfc1e7e", func := "sackung/sackunglaw11.GaugeClocks", spec := "gaugeClocks", unfollowed := true, recurses := true, plainKeys := false, apart := false }
def GaugeClocksSaid : Prop := gaugeClocksRow.holds Try.pinned (OpenSpec.ofChange gaugeClocksSpec)

/-- ITS FALSE NEIGHBOUR: 'it returns false'. Refute it at one input. -/
def gaugeClocksWrong : ChangeSpec := { name := "gaugeClocks", fn := fun _ => fun
  | [d1, d2, d3, d4] => { results := [.lit (.bool false)], args := [d1, d2, d3, d4] }
  | _ => none }
def GaugeClocksWrongFalsely : Prop := gaugeClocksRow.holds Try.pinned (OpenSpec.ofChange gaugeClocksWrong)

/-- 'sackunglaw11.GaugeOutliers': WHATEVER THE INPUT: true; the input reads as it did. -/
def gaugeOutliersSpec : ChangeSpec := { name := "gaugeOutliers", fn := fun _ => fun
  | [d1, d2] => { results := [.lit (.bool true)], args := [d1, d2] }
  | _ => none }
def gaugeOutliersRow : OpenClaim := { program := "ytkgoojilmnkgiaa", sum := "ca050d08bc24a3aec8a1a42e9720ce21c9a29ceec2c77f9a5410caac1cfc1e7e", func := "sackung/sackunglaw11.GaugeOutliers", spec := "gaugeOutliers", unfollowed := true, recurses := true, plainKeys := false, apart := false }
def GaugeOutliersSaid : Prop := gaugeOutliersRow.holds Try.pinned (OpenSpec.ofChange gaugeOutliersSpec)

/-- ITS FALSE NEIGHBOUR: 'it returns false'. Refute it at one input. -/
def gaugeOutliersWrong : ChangeSpec := { name := "gaugeOutliers", fn := fun _ => fun
  | [d1, d2] => { results := [.lit (.bool false)], args := [d1, d2] }
  | _ => none }
def GaugeOutliersWrongFalsely : Prop := gaugeOutliersRow.holds Try.pinned (OpenSpec.ofChange gaugeOutliersWrong)

/-- 'sackunglaw11.GaugeTurned': WHATEVER THE INPUT: true; the input reads as it did. -/
def gaugeTurnedSpec : ChangeSpec := { name := "gaugeTurned", fn := fun _ => fun
  | [d1, d2, d3, d4, d5] => { results := [.lit (.bool true)], args := [d1, d2, d3, d4, d5] }
  | _ => none }
def gaugeTurnedRow : OpenClaim := { program := "ytkgoojilmnkgiaa", sum := "ca050d08bc24a3aec8a1a42e9720ce21c9a29ceec2c77f9a5410caac1cfc1e7e", func := "sackung/sackunglaw11.GaugeTurned", spec := "gaugeTurned", unfollowed := true, recurses := true, plainKeys := false, apart := false }
def GaugeTurnedSaid : Prop := gaugeTurnedRow.holds Try.pinned (OpenSpec.ofChange gaugeTurnedSpec)

/-- ITS FALSE NEIGHBOUR: 'it returns false'. Refute it at one input. -/
def gaugeTurnedWrong : ChangeSpec := { name := "gaugeTurned", fn := fun _ => fun
  | [d1, d2, d3, d4, d5] => { results := [.lit (.bool false)], args := [d1, d2, d3, d4, d5] }
  | _ => none }
def GaugeTurnedWrongFalsely : Prop := gaugeTurnedRow.holds Try.pinned (OpenSpec.ofChange gaugeTurnedWrong)

/-- 'sackunglaw11.GaugeThins': WHATEVER THE INPUT: true; the input reads as it did. -/
def gaugeThinsSpec : ChangeSpec := { name := "gaugeThins", fn := fun _ => fun
  | [d1, d2, d3] => { results := [.lit (.bool true)], args := [d1, d2, d3] }
  | _ => none }
def gaugeThinsRow : OpenClaim := { program := "ytkgoojilmnkgiaa", sum := "ca050d08bc24a3aec8a1a42e9720ce21c9a29ceec2c77f9a5410caac1cfc1e7e", func := "sackung/sackunglaw11.GaugeThins", spec := "gaugeThins", unfollowed := true, recurses := true, plainKeys := false, apart := false }
def GaugeThinsSaid : Prop := gaugeThinsRow.holds Try.pinned (OpenSpec.ofChange gaugeThinsSpec)

/-- ITS FALSE NEIGHBOUR: 'it returns false'. Refute it at one input. -/
def gaugeThinsWrong : ChangeSpec := { name := "gaugeThins", fn := fun _ => fun
  | [d1, d2, d3] => { results := [.lit (.bool false)], args := [d1, d2, d3] }
  | _ => none }
def GaugeThinsWrongFalsely : Prop := gaugeThinsRow.holds Try.pinned (OpenSpec.ofChange gaugeThinsWrong)

/-- 'sackunglaw11.GaugeThin': WHATEVER THE INPUT: true; the input reads as it did. -/
def gaugeThinSpec : ChangeSpec := { name := "gaugeThin", fn := fun _ => fun
  | [d1, d2, d3, d4] => { results := [.lit (.bool true)], args := [d1, d2, d3, d4] }
  | _ => none }
def gaugeThinRow : OpenClaim := { program := "ytkgoojilmnkgiaa", sum := "ca050d08bc24a3aec8a1a42e9720ce21c9a29ceec2c77f9a5410caac1cfc1e7e", func := "sackung/sackunglaw11.GaugeThin", spec := "gaugeThin", unfollowed := true, recurses := true, plainKeys := false, apart := false }
def GaugeThinSaid : Prop := gaugeThinRow.holds Try.pinned (OpenSpec.ofChange gaugeThinSpec)

/-- ITS FALSE NEIGHBOUR: 'it returns false'. Refute it at one input. -/
def gaugeThinWrong : ChangeSpec := { name := "gaugeThin", fn := fun _ => fun
  | [d1, d2, d3, d4] => { results := [.lit (.bool false)], args := [d1, d2, d3, d4] }
  | _ => none }
def GaugeThinWrongFalsely : Prop := gaugeThinRow.holds Try.pinned (OpenSpec.ofChange gaugeThinWrong)

/-- 'sackunglaw11.GaugeGaps': WHATEVER THE INPUT: true; the input reads as it did. -/
def gaugeGapsSpec : ChangeSpec := { name := "gaugeGaps", fn := fun _ => fun
  | [d] => { results := [.lit (.bool true)], args := [d] }
  | _ => none }
def gaugeGapsRow : OpenClaim := { program := "ytkgoojilmnkgiaa", sum := "ca050d08bc24a3aec8a1a42e9720ce21c9a29ceec2c77f9a5410caac1cfc1e7e", func := "sackung/sackunglaw11.GaugeGaps", spec := "gaugeGaps", unfollowed := true, recurses := true, plainKeys := false, apart := false }
def GaugeGapsSaid : Prop := gaugeGapsRow.holds Try.pinned (OpenSpec.ofChange gaugeGapsSpec)

/-- ITS FALSE NEIGHBOUR: 'it returns false'. Refute it at one input. -/
def gaugeGapsWrong : ChangeSpec := { name := "gaugeGaps", fn := fun _ => fun
  | [d] => { results := [.lit (.bool false)], args := [d] }
  | _ => none }
def GaugeGapsWrongFalsely : Prop := gaugeGapsRow.holds Try.pinned (OpenSpec.ofChange gaugeGapsWrong)

/-- 'sackunglaw11.GaugeMissing': WHATEVER THE INPUT: true; the input reads as it did. -/
def gaugeMissingSpec : ChangeSpec := { name := "gaugeMissing", fn := fun _ => fun
  | [d1, d2, d3] => { results := [.lit (.bool true)], args := [d1, d2, d3] }
  | _ => none }
def gaugeMissingRow : OpenClaim := { program := "ytkgoojilmnkgiaa", sum := "ca050d08bc24a3aec8a1a42e9720ce21c9a29ceec2c77f9a5410caac1cfc1e7e", func := "sackung/sackunglaw11.GaugeMissing", spec := "gaugeMissing", unfollowed := true, recurses := true, plainKeys := false, apart := false }
def GaugeMissingSaid : Prop := gaugeMissingRow.holds Try.pinned (OpenSpec.ofChange gaugeMissingSpec)

/-- ITS FALSE NEIGHBOUR: 'it returns false'. Refute it at one input. -/
def gaugeMissingWrong : ChangeSpec := { name := "gaugeMissing", fn := fun _ => fun
  | [d1, d2, d3] => { results := [.lit (.bool false)], args := [d1, d2, d3] }
  | _ => none }
def GaugeMissingWrongFalsely : Prop := gaugeMissingRow.holds Try.pinned (OpenSpec.ofChange gaugeMissingWrong)

/-- 'sackunglaw11.GaugeMerges': WHATEVER THE INPUT: true; the input reads as it did. -/
def gaugeMergesSpec : ChangeSpec := { name := "gaugeMerges", fn := fun _ => fun
  | [d] => { results := [.lit (.bool true)], args := [d] }
  | _ => none }
def gaugeMergesRow : OpenClaim := { program := "ytkgoojilmnkgiaa", sum := "ca050d08bc24a3aec8a1a42e9720ce21c9a29ceec2c77f9a5410caac1cfc1e7e", func := "sackung/sackunglaw11.GaugeMerges", spec := "gaugeMerges", unfollowed := true, recurses := true, plainKeys := false, apart := false }
def GaugeMergesSaid : Prop := gaugeMergesRow.holds Try.pinned (OpenSpec.ofChange gaugeMergesSpec)

/-- ITS FALSE NEIGHBOUR: 'it returns false'. Refute it at one input. -/
def gaugeMergesWrong : ChangeSpec := { name := "gaugeMerges", fn := fun _ => fun
  | [d] => { results := [.lit (.bool false)], args := [d] }
  | _ => none }
def GaugeMergesWrongFalsely : Prop := gaugeMergesRow.holds Try.pinned (OpenSpec.ofChange gaugeMergesWrong)

/-- 'sackunglaw11.GaugeRecorders': WHATEVER THE INPUT: true; the input reads as it did. -/
def gaugeRecordersSpec : ChangeSpec := { name := "gaugeRecorders", fn := fun _ => fun
  | [d1, d2] => { results := [.lit (.bool true)], args := [d1, d2] }
  | _ => none }
def gaugeRecordersRow : OpenClaim := { program := "ytkgoojilmnkgiaa", sum := "ca050d08bc24a3aec8a1a42e9720ce21c9a29ceec2c77f9a5410caac1cfc1e7e", func := "sackung/sackunglaw11.GaugeRecorders", spec := "gaugeRecorders", unfollowed := true, recurses := true, plainKeys := false, apart := false }
def GaugeRecordersSaid : Prop := gaugeRecordersRow.holds Try.pinned (OpenSpec.ofChange gaugeRecordersSpec)

/-- ITS FALSE NEIGHBOUR: 'it returns false'. Refute it at one input. -/
def gaugeRecordersWrong : ChangeSpec := { name := "gaugeRecorders", fn := fun _ => fun
  | [d1, d2] => { results := [.lit (.bool false)], args := [d1, d2] }
  | _ => none }
def GaugeRecordersWrongFalsely : Prop := gaugeRecordersRow.holds Try.pinned (OpenSpec.ofChange gaugeRecordersWrong)

/-- 'sackunglaw11.GaugeNames': WHATEVER THE INPUT: true; the input reads as it did. -/
def gaugeNamesSpec : ChangeSpec := { name := "gaugeNames", fn := fun _ => fun
  | [] => { results := [.lit (.bool true)], args := [] }
  | _ => none }
def gaugeNamesRow : OpenClaim := { program := "ytkgoojilmnkgiaa", sum := "ca050d08bc24a3aec8a1a42e9720ce21c9a29ceec2c77f9a5410caac1cfc1e7e", func := "sackung/sackunglaw11.GaugeNames", spec := "gaugeNames", unfollowed := true, recurses := true, plainKeys := false, apart := false }
def GaugeNamesSaid : Prop := gaugeNamesRow.holds Try.pinned (OpenSpec.ofChange gaugeNamesSpec)

/-- ITS FALSE NEIGHBOUR: 'it returns false'. Refute it at one input. -/
def gaugeNamesWrong : ChangeSpec := { name := "gaugeNames", fn := fun _ => fun
  | [] => { results := [.lit (.bool false)], args := [] }
  | _ => none }
def GaugeNamesWrongFalsely : Prop := gaugeNamesRow.holds Try.pinned (OpenSpec.ofChange gaugeNamesWrong)

/- THE SECOND FORM. 'bulk': how many values and letters a reading holds, each counted each time it is reached (what is shared counts as often as it is met; a slice's spare places count too). A statement '..UptoSaid' is the law's where the arguments, and the package variables that the reading takes, are together of bulk at most 1048576: NARROWER than '..Said'. Prove '..Said' where nothing that the law and all that it calls make is longer than what came in: it says more and counts as full. Else prove '..UptoSaid'. A law counts once. -/
mutual
def uptoBulk {H : Type} : DataW H → Nat
  | .lit (.string bytes) => bytes.length + 1
  | .lit _ => 1
  | .nil => 1
  | .ptr d => uptoBulk d + 1
  | .slice elems spare => uptoBulkAll elems + uptoBulkAll spare + 1
  | .agg parts => uptoBulkAll parts + 1
  | .iface _ d => uptoBulk d + 1
  | .map entries => uptoBulkEntries entries + 1
  | .held _ => 1
def uptoBulkAll {H : Type} : List (DataW H) → Nat
  | [] => 0
  | d :: r => uptoBulk d + uptoBulkAll r
def uptoBulkEntries {H : Type} : List (Lit × DataW H) → Nat
  | [] => 0
  | x :: r => uptoBulkEntry x + uptoBulkEntries r
def uptoBulkEntry {H : Type} : Lit × DataW H → Nat
  | (.string bytes, d) => bytes.length + uptoBulk d + 1
  | (_, d) => uptoBulk d + 1
 end
def uptoSmall : (H : Type) → List (DataW H) → Bool := fun _ ds => decide (uptoBulkAll ds ≤ 1048576)
def OpenSpec.upto (s : _root_.Go.ChangeSpec) : _root_.Go.OpenSpec := { _root_.Go.OpenSpec.ofChange s with cond := some uptoSmall }

/-- 'sackunglaw11.GaugeWrites', WHERE WHAT IT READS IS OF BULK AT MOST 1048576: true; the input reads as it did. -/
def gaugeWritesUptoRow : OpenClaim := { program := "ytkgoojilmnkgiaa", sum := "ca050d08bc24a3aec8a1a42e9720ce21c9a29ceec2c77f9a5410caac1cfc1e7e", func := "sackung/sackunglaw11.GaugeWrites", spec := "gaugeWrites", unfollowed := true, recurses := true, plainKeys := false, apart := false, narrowed := true }
def GaugeWritesUptoSaid : Prop := gaugeWritesUptoRow.holds Try.pinned (OpenSpec.upto gaugeWritesSpec)

/-- 'sackunglaw11.GaugeRights', WHERE WHAT IT READS IS OF BULK AT MOST 1048576: true; the input reads as it did. -/
def gaugeRightsUptoRow : OpenClaim := { program := "ytkgoojilmnkgiaa", sum := "ca050d08bc24a3aec8a1a42e9720ce21c9a29ceec2c77f9a5410caac1cfc1e7e", func := "sackung/sackunglaw11.GaugeRights", spec := "gaugeRights", unfollowed := true, recurses := true, plainKeys := false, apart := false, narrowed := true }
def GaugeRightsUptoSaid : Prop := gaugeRightsUptoRow.holds Try.pinned (OpenSpec.upto gaugeRightsSpec)

/-- 'sackunglaw11.GaugeEach', WHERE WHAT IT READS IS OF BULK AT MOST 1048576: true; the input reads as it did. -/
def gaugeEachUptoRow : OpenClaim := { program := "ytkgoojilmnkgiaa", sum := "ca050d08bc24a3aec8a1a42e9720ce21c9a29ceec2c77f9a5410caac1cfc1e7e", func := "sackung/sackunglaw11.GaugeEach", spec := "gaugeEach", unfollowed := true, recurses := true, plainKeys := false, apart := false, narrowed := true }
def GaugeEachUptoSaid : Prop := gaugeEachUptoRow.holds Try.pinned (OpenSpec.upto gaugeEachSpec)

/-- 'sackunglaw11.GaugeNoise', WHERE WHAT IT READS IS OF BULK AT MOST 1048576: true; the input reads as it did. -/
def gaugeNoiseUptoRow : OpenClaim := { program := "ytkgoojilmnkgiaa", sum := "ca050d08bc24a3aec8a1a42e9720ce21c9a29ceec2c77f9a5410caac1cfc1e7e", func := "sackung/sackunglaw11.GaugeNoise", spec := "gaugeNoise", unfollowed := true, recurses := true, plainKeys := false, apart := false, narrowed := true }
def GaugeNoiseUptoSaid : Prop := gaugeNoiseUptoRow.holds Try.pinned (OpenSpec.upto gaugeNoiseSpec)

/-- 'sackunglaw11.GaugeClocks', WHERE WHAT IT READS IS OF BULK AT MOST 1048576: true; the input reads as it did. -/
def gaugeClocksUptoRow : OpenClaim := { program := "ytkgoojilmnkgiaa", sum := "ca050d08bc24a3aec8a1a42e9720ce21c9a29ceec2c77f9a5410caac1cfc1e7e", func := "sackung/sackunglaw11.GaugeClocks", spec := "gaugeClocks", unfollowed := true, recurses := true, plainKeys := false, apart := false, narrowed := true }
def GaugeClocksUptoSaid : Prop := gaugeClocksUptoRow.holds Try.pinned (OpenSpec.upto gaugeClocksSpec)

/-- 'sackunglaw11.GaugeOutliers', WHERE WHAT IT READS IS OF BULK AT MOST 1048576: true; the input reads as it did. -/
def gaugeOutliersUptoRow : OpenClaim := { program := "ytkgoojilmnkgiaa", sum := "ca050d08bc24a3aec8a1a42e9720ce21c9a29ceec2c77f9a5410caac1cfc1e7e", func := "sackung/sackunglaw11.GaugeOutliers", spec := "gaugeOutliers", unfollowed := true, recurses := true, plainKeys := false, apart := false, narrowed := true }
def GaugeOutliersUptoSaid : Prop := gaugeOutliersUptoRow.holds Try.pinned (OpenSpec.upto gaugeOutliersSpec)

/-- 'sackunglaw11.GaugeTurned', WHERE WHAT IT READS IS OF BULK AT MOST 1048576: true; the input reads as it did. -/
def gaugeTurnedUptoRow : OpenClaim := { program := "ytkgoojilmnkgiaa", sum := "ca050d08bc24a3aec8a1a42e9720ce21c9a29ceec2c77f9a5410caac1cfc1e7e", func := "sackung/sackunglaw11.GaugeTurned", spec := "gaugeTurned", unfollowed := true, recurses := true, plainKeys := false, apart := false, narrowed := true }
def GaugeTurnedUptoSaid : Prop := gaugeTurnedUptoRow.holds Try.pinned (OpenSpec.upto gaugeTurnedSpec)

/-- 'sackunglaw11.GaugeThins', WHERE WHAT IT READS IS OF BULK AT MOST 1048576: true; the input reads as it did. -/
def gaugeThinsUptoRow : OpenClaim := { program := "ytkgoojilmnkgiaa", sum := "ca050d08bc24a3aec8a1a42e9720ce21c9a29ceec2c77f9a5410caac1cfc1e7e", func := "sackung/sackunglaw11.GaugeThins", spec := "gaugeThins", unfollowed := true, recurses := true, plainKeys := false, apart := false, narrowed := true }
def GaugeThinsUptoSaid : Prop := gaugeThinsUptoRow.holds Try.pinned (OpenSpec.upto gaugeThinsSpec)

/-- 'sackunglaw11.GaugeThin', WHERE WHAT IT READS IS OF BULK AT MOST 1048576: true; the input reads as it did. -/
def gaugeThinUptoRow : OpenClaim := { program := "ytkgoojilmnkgiaa", sum := "ca050d08bc24a3aec8a1a42e9720ce21c9a29ceec2c77f9a5410caac1cfc1e7e", func := "sackung/sackunglaw11.GaugeThin", spec := "gaugeThin", unfollowed := true, recurses := true, plainKeys := false, apart := false, narrowed := true }
def GaugeThinUptoSaid : Prop := gaugeThinUptoRow.holds Try.pinned (OpenSpec.upto gaugeThinSpec)

/-- 'sackunglaw11.GaugeGaps', WHERE WHAT IT READS IS OF BULK AT MOST 1048576: true; the input reads as it did. -/
def gaugeGapsUptoRow : OpenClaim := { program := "ytkgoojilmnkgiaa", sum := "ca050d08bc24a3aec8a1a42e9720ce21c9a29ceec2c77f9a5410caac1cfc1e7e", func := "sackung/sackunglaw11.GaugeGaps", spec := "gaugeGaps", unfollowed := true, recurses := true, plainKeys := false, apart := false, narrowed := true }
def GaugeGapsUptoSaid : Prop := gaugeGapsUptoRow.holds Try.pinned (OpenSpec.upto gaugeGapsSpec)

/-- 'sackunglaw11.GaugeMissing', WHERE WHAT IT READS IS OF BULK AT MOST 1048576: true; the input reads as it did. -/
def gaugeMissingUptoRow : OpenClaim := { program := "ytkgoojilmnkgiaa", sum := "ca050d08bc24a3aec8a1a42e9720ce21c9a29ceec2c77f9a5410caac1cfc1e7e", func := "sackung/sackunglaw11.GaugeMissing", spec := "gaugeMissing", unfollowed := true, recurses := true, plainKeys := false, apart := false, narrowed := true }
def GaugeMissingUptoSaid : Prop := gaugeMissingUptoRow.holds Try.pinned (OpenSpec.upto gaugeMissingSpec)

/-- 'sackunglaw11.GaugeMerges', WHERE WHAT IT READS IS OF BULK AT MOST 1048576: true; the input reads as it did. -/
def gaugeMergesUptoRow : OpenClaim := { program := "ytkgoojilmnkgiaa", sum := "ca050d08bc24a3aec8a1a42e9720ce21c9a29ceec2c77f9a5410caac1cfc1e7e", func := "sackung/sackunglaw11.GaugeMerges", spec := "gaugeMerges", unfollowed := true, recurses := true, plainKeys := false, apart := false, narrowed := true }
def GaugeMergesUptoSaid : Prop := gaugeMergesUptoRow.holds Try.pinned (OpenSpec.upto gaugeMergesSpec)

/-- 'sackunglaw11.GaugeRecorders', WHERE WHAT IT READS IS OF BULK AT MOST 1048576: true; the input reads as it did. -/
def gaugeRecordersUptoRow : OpenClaim := { program := "ytkgoojilmnkgiaa", sum := "ca050d08bc24a3aec8a1a42e9720ce21c9a29ceec2c77f9a5410caac1cfc1e7e", func := "sackung/sackunglaw11.GaugeRecorders", spec := "gaugeRecorders", unfollowed := true, recurses := true, plainKeys := false, apart := false, narrowed := true }
def GaugeRecordersUptoSaid : Prop := gaugeRecordersUptoRow.holds Try.pinned (OpenSpec.upto gaugeRecordersSpec)

/-- 'sackunglaw11.GaugeNames', WHERE WHAT IT READS IS OF BULK AT MOST 1048576: true; the input reads as it did. -/
def gaugeNamesUptoRow : OpenClaim := { program := "ytkgoojilmnkgiaa", sum := "ca050d08bc24a3aec8a1a42e9720ce21c9a29ceec2c77f9a5410caac1cfc1e7e", func := "sackung/sackunglaw11.GaugeNames", spec := "gaugeNames", unfollowed := true, recurses := true, plainKeys := false, apart := false, narrowed := true }
def GaugeNamesUptoSaid : Prop := gaugeNamesUptoRow.holds Try.pinned (OpenSpec.upto gaugeNamesSpec)

end Rows
end Go.Proofs.Ytkgoojilmnkgiaa
