/-
  No cell of these rows narrows 'for every input' (looked for: loops, veiled, ifaces, maps, wideKeys, modest, calm, conditions, laid).
  DERIVED. THE GIVEN ROWS OF THIS SEAT. 13 by the template 'for every input the law returns true; each argument reads behind the call as it read before'; 0 by the template 'total and deterministic' (their statements: YtpijmfbpdglchaaTotals.lean).
  GIVEN WITH THE SEED: the statements are not yours to turn. If you find one false, say at which input.
  Laid BY PROGRAM, IN A SANDBOX (cutbox-rows.mjs): the forced cells as the released guide's own fill.sh prints them over the translation 5ca12bdb3723efad… (all of the seat's roots in one cut). By AI agents, Wed Nov 11 2026. No macro, syntax, notation, axiom, sorry.
-/
import Derived.Test.YtpijmfbpdglchaaChecked
import GoSem.Claim
import GoSem.ClaimJoined
import GoSem.ClaimMapViews
import Derived.JoinedTies
import Derived.KernelRfl
namespace Go.Proofs.Ytpijmfbpdglchaa
/- THE CELL 'sum', in the pinned program and in every row, IS THE sha256 OF THE DUMP (.gsa) THAT YtpijmfbpdglchaaProg.lean LOADS. Nothing in Lean hashes anything: it is a label: what it is worth is what the hold of that sum in a sandbox is worth. -/
noncomputable def Try.pinned : Pinned := { name := "ytpijmfbpdglchaa", sum := "5ca12bdb3723efade0600814d23c4cbb34d0e00f1f344270663e101bc1e5a54b", checked := Try.checked }
namespace Rows
def none {H : Type} : Left H := { results := [], args := [] }

/-- 'sackunglaw10.LakeCheapest': WHATEVER THE INPUT: true; the input reads as it did. -/
def lakeCheapestSpec : ChangeSpec := { name := "lakeCheapest", fn := fun _ => fun
  | [d1, d2] => { results := [.lit (.bool true)], args := [d1, d2] }
  | _ => none }
def lakeCheapestRow : OpenClaim := { program := "ytpijmfbpdglchaa", sum := "5ca12bdb3723efade0600814d23c4cbb34d0e00f1f344270663e101bc1e5a54b", func := "sackung/sackunglaw10.LakeCheapest", spec := "lakeCheapest", unfollowed := true, recurses := true, plainKeys := false, apart := false }
def LakeCheapestSaid : Prop := lakeCheapestRow.holds Try.pinned (OpenSpec.ofChange lakeCheapestSpec)

/-- ITS FALSE NEIGHBOUR: 'it returns false'. Refute it at one input. -/
def lakeCheapestWrong : ChangeSpec := { name := "lakeCheapest", fn := fun _ => fun
  | [d1, d2] => { results := [.lit (.bool false)], args := [d1, d2] }
  | _ => none }
def LakeCheapestWrongFalsely : Prop := lakeCheapestRow.holds Try.pinned (OpenSpec.ofChange lakeCheapestWrong)

/-- 'sackunglaw10.LakeProves': WHATEVER THE INPUT: true; the input reads as it did. -/
def lakeProvesSpec : ChangeSpec := { name := "lakeProves", fn := fun _ => fun
  | [d1, d2, d3] => { results := [.lit (.bool true)], args := [d1, d2, d3] }
  | _ => none }
def lakeProvesRow : OpenClaim := { program := "ytpijmfbpdglchaa", sum := "5ca12bdb3723efade0600814d23c4cbb34d0e00f1f344270663e101bc1e5a54b", func := "sackung/sackunglaw10.LakeProves", spec := "lakeProves", unfollowed := true, recurses := true, plainKeys := false, apart := false }
def LakeProvesSaid : Prop := lakeProvesRow.holds Try.pinned (OpenSpec.ofChange lakeProvesSpec)

/-- ITS FALSE NEIGHBOUR: 'it returns false'. Refute it at one input. -/
def lakeProvesWrong : ChangeSpec := { name := "lakeProves", fn := fun _ => fun
  | [d1, d2, d3] => { results := [.lit (.bool false)], args := [d1, d2, d3] }
  | _ => none }
def LakeProvesWrongFalsely : Prop := lakeProvesRow.holds Try.pinned (OpenSpec.ofChange lakeProvesWrong)

/-- 'sackunglaw10.LakeCheap': WHATEVER THE INPUT: true; the input reads as it did. -/
def lakeCheapSpec : ChangeSpec := { name := "lakeCheap", fn := fun _ => fun
  | [d1, d2, d3] => { results := [.lit (.bool true)], args := [d1, d2, d3] }
  | _ => none }
def lakeCheapRow : OpenClaim := { program := "ytpijmfbpdglchaa", sum := "5ca12bdb3723efade0600814d23c4cbb34d0e00f1f344270663e101bc1e5a54b", func := "sackung/sackunglaw10.LakeCheap", spec := "lakeCheap", unfollowed := true, recurses := true, plainKeys := false, apart := false }
def LakeCheapSaid : Prop := lakeCheapRow.holds Try.pinned (OpenSpec.ofChange lakeCheapSpec)

/-- ITS FALSE NEIGHBOUR: 'it returns false'. Refute it at one input. -/
def lakeCheapWrong : ChangeSpec := { name := "lakeCheap", fn := fun _ => fun
  | [d1, d2, d3] => { results := [.lit (.bool false)], args := [d1, d2, d3] }
  | _ => none }
def LakeCheapWrongFalsely : Prop := lakeCheapRow.holds Try.pinned (OpenSpec.ofChange lakeCheapWrong)

/-- 'sackunglaw10.LakeRises': WHATEVER THE INPUT: true; the input reads as it did. -/
def lakeRisesSpec : ChangeSpec := { name := "lakeRises", fn := fun _ => fun
  | [d1, d2, d3] => { results := [.lit (.bool true)], args := [d1, d2, d3] }
  | _ => none }
def lakeRisesRow : OpenClaim := { program := "ytpijmfbpdglchaa", sum := "5ca12bdb3723efade0600814d23c4cbb34d0e00f1f344270663e101bc1e5a54b", func := "sackung/sackunglaw10.LakeRises", spec := "lakeRises", unfollowed := true, recurses := true, plainKeys := false, apart := false }
def LakeRisesSaid : Prop := lakeRisesRow.holds Try.pinned (OpenSpec.ofChange lakeRisesSpec)

/-- ITS FALSE NEIGHBOUR: 'it returns false'. Refute it at one input. -/
def lakeRisesWrong : ChangeSpec := { name := "lakeRises", fn := fun _ => fun
  | [d1, d2, d3] => { results := [.lit (.bool false)], args := [d1, d2, d3] }
  | _ => none }
def LakeRisesWrongFalsely : Prop := lakeRisesRow.holds Try.pinned (OpenSpec.ofChange lakeRisesWrong)

/-- 'sackunglaw10.LakeMore': WHATEVER THE INPUT: true; the input reads as it did. -/
def lakeMoreSpec : ChangeSpec := { name := "lakeMore", fn := fun _ => fun
  | [d1, d2, d3, d4, d5, d6] => { results := [.lit (.bool true)], args := [d1, d2, d3, d4, d5, d6] }
  | _ => none }
def lakeMoreRow : OpenClaim := { program := "ytpijmfbpdglchaa", sum := "5ca12bdb3723efade0600814d23c4cbb34d0e00f1f344270663e101bc1e5a54b", func := "sackung/sackunglaw10.LakeMore", spec := "lakeMore", unfollowed := true, recurses := true, plainKeys := false, apart := false }
def LakeMoreSaid : Prop := lakeMoreRow.holds Try.pinned (OpenSpec.ofChange lakeMoreSpec)

/-- ITS FALSE NEIGHBOUR: 'it returns false'. Refute it at one input. -/
def lakeMoreWrong : ChangeSpec := { name := "lakeMore", fn := fun _ => fun
  | [d1, d2, d3, d4, d5, d6] => { results := [.lit (.bool false)], args := [d1, d2, d3, d4, d5, d6] }
  | _ => none }
def LakeMoreWrongFalsely : Prop := lakeMoreRow.holds Try.pinned (OpenSpec.ofChange lakeMoreWrong)

/-- 'sackunglaw10.LakeFills': WHATEVER THE INPUT: true; the input reads as it did. -/
def lakeFillsSpec : ChangeSpec := { name := "lakeFills", fn := fun _ => fun
  | [d1, d2, d3, d4] => { results := [.lit (.bool true)], args := [d1, d2, d3, d4] }
  | _ => none }
def lakeFillsRow : OpenClaim := { program := "ytpijmfbpdglchaa", sum := "5ca12bdb3723efade0600814d23c4cbb34d0e00f1f344270663e101bc1e5a54b", func := "sackung/sackunglaw10.LakeFills", spec := "lakeFills", unfollowed := true, recurses := true, plainKeys := false, apart := false }
def LakeFillsSaid : Prop := lakeFillsRow.holds Try.pinned (OpenSpec.ofChange lakeFillsSpec)

/-- ITS FALSE NEIGHBOUR: 'it returns false'. Refute it at one input. -/
def lakeFillsWrong : ChangeSpec := { name := "lakeFills", fn := fun _ => fun
  | [d1, d2, d3, d4] => { results := [.lit (.bool false)], args := [d1, d2, d3, d4] }
  | _ => none }
def LakeFillsWrongFalsely : Prop := lakeFillsRow.holds Try.pinned (OpenSpec.ofChange lakeFillsWrong)

/-- 'sackunglaw10.LakeWaves': WHATEVER THE INPUT: true; the input reads as it did. -/
def lakeWavesSpec : ChangeSpec := { name := "lakeWaves", fn := fun _ => fun
  | [d1, d2, d3, d4, d5] => { results := [.lit (.bool true)], args := [d1, d2, d3, d4, d5] }
  | _ => none }
def lakeWavesRow : OpenClaim := { program := "ytpijmfbpdglchaa", sum := "5ca12bdb3723efade0600814d23c4cbb34d0e00f1f344270663e101bc1e5a54b", func := "sackung/sackunglaw10.LakeWaves", spec := "lakeWaves", unfollowed := true, recurses := true, plainKeys := false, apart := false }
def LakeWavesSaid : Prop := lakeWavesRow.holds Try.pinned (OpenSpec.ofChange lakeWavesSpec)

/-- ITS FALSE NEIGHBOUR: 'it returns false'. Refute it at one input. -/
def lakeWavesWrong : ChangeSpec := { name := "lakeWaves", fn := fun _ => fun
  | [d1, d2, d3, d4, d5] => { results := [.lit (.bool false)], args := [d1, d2, d3, d4, d5] }
  | _ => none }
def LakeWavesWrongFalsely : Prop := lakeWavesRow.holds Try.pinned (OpenSpec.ofChange lakeWavesWrong)

/-- 'sackunglaw10.LakeHouses': WHATEVER THE INPUT: true; the input reads as it did. -/
def lakeHousesSpec : ChangeSpec := { name := "lakeHouses", fn := fun _ => fun
  | [d1, d2, d3, d4, d5, d6, d7, d8] => { results := [.lit (.bool true)], args := [d1, d2, d3, d4, d5, d6, d7, d8] }
  | _ => none }
def lakeHousesRow : OpenClaim := { program := "ytpijmfbpdglchaa", sum := "5ca12bdb3723efade0600814d23c4cbb34d0e00f1f344270663e101bc1e5a54b", func := "sackung/sackunglaw10.LakeHouses", spec := "lakeHouses", unfollowed := true, recurses := true, plainKeys := false, apart := false }
def LakeHousesSaid : Prop := lakeHousesRow.holds Try.pinned (OpenSpec.ofChange lakeHousesSpec)

/-- ITS FALSE NEIGHBOUR: 'it returns false'. Refute it at one input. -/
def lakeHousesWrong : ChangeSpec := { name := "lakeHouses", fn := fun _ => fun
  | [d1, d2, d3, d4, d5, d6, d7, d8] => { results := [.lit (.bool false)], args := [d1, d2, d3, d4, d5, d6, d7, d8] }
  | _ => none }
def LakeHousesWrongFalsely : Prop := lakeHousesRow.holds Try.pinned (OpenSpec.ofChange lakeHousesWrong)

/-- 'sackunglaw10.LakeEnds': WHATEVER THE INPUT: true; the input reads as it did. -/
def lakeEndsSpec : ChangeSpec := { name := "lakeEnds", fn := fun _ => fun
  | [d1, d2, d3, d4, d5] => { results := [.lit (.bool true)], args := [d1, d2, d3, d4, d5] }
  | _ => none }
def lakeEndsRow : OpenClaim := { program := "ytpijmfbpdglchaa", sum := "5ca12bdb3723efade0600814d23c4cbb34d0e00f1f344270663e101bc1e5a54b", func := "sackung/sackunglaw10.LakeEnds", spec := "lakeEnds", unfollowed := true, recurses := true, plainKeys := false, apart := false }
def LakeEndsSaid : Prop := lakeEndsRow.holds Try.pinned (OpenSpec.ofChange lakeEndsSpec)

/-- ITS FALSE NEIGHBOUR: 'it returns false'. Refute it at one input. -/
def lakeEndsWrong : ChangeSpec := { name := "lakeEnds", fn := fun _ => fun
  | [d1, d2, d3, d4, d5] => { results := [.lit (.bool false)], args := [d1, d2, d3, d4, d5] }
  | _ => none }
def LakeEndsWrongFalsely : Prop := lakeEndsRow.holds Try.pinned (OpenSpec.ofChange lakeEndsWrong)

/-- 'sackunglaw10.LakeRain': WHATEVER THE INPUT: true; the input reads as it did. -/
def lakeRainSpec : ChangeSpec := { name := "lakeRain", fn := fun _ => fun
  | [d1, d2, d3, d4, d5] => { results := [.lit (.bool true)], args := [d1, d2, d3, d4, d5] }
  | _ => none }
def lakeRainRow : OpenClaim := { program := "ytpijmfbpdglchaa", sum := "5ca12bdb3723efade0600814d23c4cbb34d0e00f1f344270663e101bc1e5a54b", func := "sackung/sackunglaw10.LakeRain", spec := "lakeRain", unfollowed := true, recurses := true, plainKeys := false, apart := false }
def LakeRainSaid : Prop := lakeRainRow.holds Try.pinned (OpenSpec.ofChange lakeRainSpec)

/-- ITS FALSE NEIGHBOUR: 'it returns false'. Refute it at one input. -/
def lakeRainWrong : ChangeSpec := { name := "lakeRain", fn := fun _ => fun
  | [d1, d2, d3, d4, d5] => { results := [.lit (.bool false)], args := [d1, d2, d3, d4, d5] }
  | _ => none }
def LakeRainWrongFalsely : Prop := lakeRainRow.holds Try.pinned (OpenSpec.ofChange lakeRainWrong)

/-- 'sackunglaw10.LakeWhatever': WHATEVER THE INPUT: true; the input reads as it did. -/
def lakeWhateverSpec : ChangeSpec := { name := "lakeWhatever", fn := fun _ => fun
  | [d1, d2, d3, d4] => { results := [.lit (.bool true)], args := [d1, d2, d3, d4] }
  | _ => none }
def lakeWhateverRow : OpenClaim := { program := "ytpijmfbpdglchaa", sum := "5ca12bdb3723efade0600814d23c4cbb34d0e00f1f344270663e101bc1e5a54b", func := "sackung/sackunglaw10.LakeWhatever", spec := "lakeWhatever", unfollowed := true, recurses := true, plainKeys := false, apart := false }
def LakeWhateverSaid : Prop := lakeWhateverRow.holds Try.pinned (OpenSpec.ofChange lakeWhateverSpec)

/-- ITS FALSE NEIGHBOUR: 'it returns false'. Refute it at one input. -/
def lakeWhateverWrong : ChangeSpec := { name := "lakeWhatever", fn := fun _ => fun
  | [d1, d2, d3, d4] => { results := [.lit (.bool false)], args := [d1, d2, d3, d4] }
  | _ => none }
def LakeWhateverWrongFalsely : Prop := lakeWhateverRow.holds Try.pinned (OpenSpec.ofChange lakeWhateverWrong)

/-- 'sackunglaw10.LakeBelow': WHATEVER THE INPUT: true; the input reads as it did. -/
def lakeBelowSpec : ChangeSpec := { name := "lakeBelow", fn := fun _ => fun
  | [d1, d2, d3, d4, d5, d6] => { results := [.lit (.bool true)], args := [d1, d2, d3, d4, d5, d6] }
  | _ => none }
def lakeBelowRow : OpenClaim := { program := "ytpijmfbpdglchaa", sum := "5ca12bdb3723efade0600814d23c4cbb34d0e00f1f344270663e101bc1e5a54b", func := "sackung/sackunglaw10.LakeBelow", spec := "lakeBelow", unfollowed := true, recurses := true, plainKeys := false, apart := false }
def LakeBelowSaid : Prop := lakeBelowRow.holds Try.pinned (OpenSpec.ofChange lakeBelowSpec)

/-- ITS FALSE NEIGHBOUR: 'it returns false'. Refute it at one input. -/
def lakeBelowWrong : ChangeSpec := { name := "lakeBelow", fn := fun _ => fun
  | [d1, d2, d3, d4, d5, d6] => { results := [.lit (.bool false)], args := [d1, d2, d3, d4, d5, d6] }
  | _ => none }
def LakeBelowWrongFalsely : Prop := lakeBelowRow.holds Try.pinned (OpenSpec.ofChange lakeBelowWrong)

/-- 'sackunglaw10.LakeNames': WHATEVER THE INPUT: true; the input reads as it did. -/
def lakeNamesSpec : ChangeSpec := { name := "lakeNames", fn := fun _ => fun
  | [] => { results := [.lit (.bool true)], args := [] }
  | _ => none }
def lakeNamesRow : OpenClaim := { program := "ytpijmfbpdglchaa", sum := "5ca12bdb3723efade0600814d23c4cbb34d0e00f1f344270663e101bc1e5a54b", func := "sackung/sackunglaw10.LakeNames", spec := "lakeNames", unfollowed := true, recurses := true, plainKeys := false, apart := false }
def LakeNamesSaid : Prop := lakeNamesRow.holds Try.pinned (OpenSpec.ofChange lakeNamesSpec)

/-- ITS FALSE NEIGHBOUR: 'it returns false'. Refute it at one input. -/
def lakeNamesWrong : ChangeSpec := { name := "lakeNames", fn := fun _ => fun
  | [] => { results := [.lit (.bool false)], args := [] }
  | _ => none }
def LakeNamesWrongFalsely : Prop := lakeNamesRow.holds Try.pinned (OpenSpec.ofChange lakeNamesWrong)

/- THE SECOND FORM. 'bulk': how many values and letters a reading holds, each counted each time it is reached (what is shared counts as often as it is met; a slice's spare places count too). A statement '..UptoSaid' is the law's where the arguments, and the package variables that the reading takes, are together of bulk at most 1048576: NARROWER than '..Said'. Prove '..Said' where nothing that the law and all that it calls make is longer than what came in: it says more and counts as full. Else prove '..UptoSaid'. A law counts once. -/
mutual
def uptoBulk {H : Type} : DataW H → Nat
  | .lit (.string bytes) => bytes.length + 1
  | .lit _ => 1
  | .nil => 1
  | .ptr d => uptoBulk d + 1
  | .slice elems spare => uptoBulkAll elems + uptoBulkAll spare + 1
  | .agg parts => uptoBulkAll parts + 1
  | .iface _ d => uptoBulk d + 1
  | .map entries => uptoBulkEntries entries + 1
  | .held _ => 1
def uptoBulkAll {H : Type} : List (DataW H) → Nat
  | [] => 0
  | d :: r => uptoBulk d + uptoBulkAll r
def uptoBulkEntries {H : Type} : List (Lit × DataW H) → Nat
  | [] => 0
  | x :: r => uptoBulkEntry x + uptoBulkEntries r
def uptoBulkEntry {H : Type} : Lit × DataW H → Nat
  | (.string bytes, d) => bytes.length + uptoBulk d + 1
  | (_, d) => uptoBulk d + 1
 end
def uptoSmall : (H : Type) → List (DataW H) → Bool := fun _ ds => decide (uptoBulkAll ds ≤ 1048576)
def OpenSpec.upto (s : _root_.Go.ChangeSpec) : _root_.Go.OpenSpec := { _root_.Go.OpenSpec.ofChange s with cond := some uptoSmall }

/-- 'sackunglaw10.LakeCheapest', WHERE WHAT IT READS IS OF BULK AT MOST 1048576: true; the input reads as it did. -/
def lakeCheapestUptoRow : OpenClaim := { program := "ytpijmfbpdglchaa", sum := "5ca12bdb3723efade0600814d23c4cbb34d0e00f1f344270663e101bc1e5a54b", func := "sackung/sackunglaw10.LakeCheapest", spec := "lakeCheapest", unfollowed := true, recurses := true, plainKeys := false, apart := false, narrowed := true }
def LakeCheapestUptoSaid : Prop := lakeCheapestUptoRow.holds Try.pinned (OpenSpec.upto lakeCheapestSpec)

/-- 'sackunglaw10.LakeProves', WHERE WHAT IT READS IS OF BULK AT MOST 1048576: true; the input reads as it did. -/
def lakeProvesUptoRow : OpenClaim := { program := "ytpijmfbpdglchaa", sum := "5ca12bdb3723efade0600814d23c4cbb34d0e00f1f344270663e101bc1e5a54b", func := "sackung/sackunglaw10.LakeProves", spec := "lakeProves", unfollowed := true, recurses := true, plainKeys := false, apart := false, narrowed := true }
def LakeProvesUptoSaid : Prop := lakeProvesUptoRow.holds Try.pinned (OpenSpec.upto lakeProvesSpec)

/-- 'sackunglaw10.LakeCheap', WHERE WHAT IT READS IS OF BULK AT MOST 1048576: true; the input reads as it did. -/
def lakeCheapUptoRow : OpenClaim := { program := "ytpijmfbpdglchaa", sum := "5ca12bdb3723efade0600814d23c4cbb34d0e00f1f344270663e101bc1e5a54b", func := "sackung/sackunglaw10.LakeCheap", spec := "lakeCheap", unfollowed := true, recurses := true, plainKeys := false, apart := false, narrowed := true }
def LakeCheapUptoSaid : Prop := lakeCheapUptoRow.holds Try.pinned (OpenSpec.upto lakeCheapSpec)

/-- 'sackunglaw10.LakeRises', WHERE WHAT IT READS IS OF BULK AT MOST 1048576: true; the input reads as it did. -/
def lakeRisesUptoRow : OpenClaim := { program := "ytpijmfbpdglchaa", sum := "5ca12bdb3723efade0600814d23c4cbb34d0e00f1f344270663e101bc1e5a54b", func := "sackung/sackunglaw10.LakeRises", spec := "lakeRises", unfollowed := true, recurses := true, plainKeys := false, apart := false, narrowed := true }
def LakeRisesUptoSaid : Prop := lakeRisesUptoRow.holds Try.pinned (OpenSpec.upto lakeRisesSpec)

/-- 'sackunglaw10.LakeMore', WHERE WHAT IT READS IS OF BULK AT MOST 1048576: true; the input reads as it did. -/
def lakeMoreUptoRow : OpenClaim := { program := "ytpijmfbpdglchaa", sum := "5ca12bdb3723efade0600814d23c4cbb34d0e00f1f344270663e101bc1e5a54b", func := "sackung/sackunglaw10.LakeMore", spec := "lakeMore", unfollowed := true, recurses := true, plainKeys := false, apart := false, narrowed := true }
def LakeMoreUptoSaid : Prop := lakeMoreUptoRow.holds Try.pinned (OpenSpec.upto lakeMoreSpec)

/-- 'sackunglaw10.LakeFills', WHERE WHAT IT READS IS OF BULK AT MOST 1048576: true; the input reads as it did. -/
def lakeFillsUptoRow : OpenClaim := { program := "ytpijmfbpdglchaa", sum := "5ca12bdb3723efade0600814d23c4cbb34d0e00f1f344270663e101bc1e5a54b", func := "sackung/sackunglaw10.LakeFills", spec := "lakeFills", unfollowed := true, recurses := true, plainKeys := false, apart := false, narrowed := true }
def LakeFillsUptoSaid : Prop := lakeFillsUptoRow.holds Try.pinned (OpenSpec.upto lakeFillsSpec)

/-- 'sackunglaw10.LakeWaves', WHERE WHAT IT READS IS OF BULK AT MOST 1048576: true; the input reads as it did. -/
def lakeWavesUptoRow : OpenClaim := { program := "ytpijmfbpdglchaa", sum := "5ca12bdb3723efade0600814d23c4cbb34d0e00f1f344270663e101bc1e5a54b", func := "sackung/sackunglaw10.LakeWaves", spec := "lakeWaves", unfollowed := true, recurses := true, plainKeys := false, apart := false, narrowed := true }
def LakeWavesUptoSaid : Prop := lakeWavesUptoRow.holds Try.pinned (OpenSpec.upto lakeWavesSpec)

/-- 'sackunglaw10.LakeHouses', WHERE WHAT IT READS IS OF BULK AT MOST 1048576: true; the input reads as it did. -/
def lakeHousesUptoRow : OpenClaim := { program := "ytpijmfbpdglchaa", sum := "5ca12bdb3723efade0600814d23c4cbb34d0e00f1f344270663e101bc1e5a54b", func := "sackung/sackunglaw10.LakeHouses", spec := "lakeHouses", unfollowed := true, recurses := true, plainKeys := false, apart := false, narrowed := true }
def LakeHousesUptoSaid : Prop := lakeHousesUptoRow.holds Try.pinned (OpenSpec.upto lakeHousesSpec)

/-- 'sackunglaw10.LakeEnds', WHERE WHAT IT READS IS OF BULK AT MOST 1048576: true; the input reads as it did. -/
def lakeEndsUptoRow : OpenClaim := { program := "ytpijmfbpdglchaa", sum := "5ca12bdb3723efade0600814d23c4cbb34d0e00f1f344270663e101bc1e5a54b", func := "sackung/sackunglaw10.LakeEnds", spec := "lakeEnds", unfollowed := true, recurses := true, plainKeys := false, apart := false, narrowed := true }
def LakeEndsUptoSaid : Prop := lakeEndsUptoRow.holds Try.pinned (OpenSpec.upto lakeEndsSpec)

/-- 'sackunglaw10.LakeRain', WHERE WHAT IT READS IS OF BULK AT MOST 1048576: true; the input reads as it did. -/
def lakeRainUptoRow : OpenClaim := { program := "ytpijmfbpdglchaa", sum := "5ca12bdb3723efade0600814d23c4cbb34d0e00f1f344270663e101bc1e5a54b", func := "sackung/sackunglaw10.LakeRain", spec := "lakeRain", unfollowed := true, recurses := true, plainKeys := false, apart := false, narrowed := true }
def LakeRainUptoSaid : Prop := lakeRainUptoRow.holds Try.pinned (OpenSpec.upto lakeRainSpec)

/-- 'sackunglaw10.LakeWhatever', WHERE WHAT IT READS IS OF BULK AT MOST 1048576: true; the input reads as it did. -/
def lakeWhateverUptoRow : OpenClaim := { program := "ytpijmfbpdglchaa", sum := "5ca12bdb3723efade0600814d23c4cbb34d0e00f1f344270663e101bc1e5a54b", func := "sackung/sackunglaw10.LakeWhatever", spec := "lakeWhatever", unfollowed := true, recurses := true, plainKeys := false, apart := false, narrowed := true }
def LakeWhateverUptoSaid : Prop := lakeWhateverUptoRow.holds Try.pinned (OpenSpec.upto lakeWhateverSpec)

/-- 'sackunglaw10.LakeBelow', WHERE WHAT IT READS IS OF BULK AT MOST 1048576: true; the input reads as it did. -/
def lakeBelowUptoRow : OpenClaim := { program := "ytpijmfbpdglchaa", sum := "5ca12bdb3723efade0600814d23c4cbb34d0e00f1f344270663e101bc1e5a54b", func := "sackung/sackunglaw10.LakeBelow", spec := "lakeBelow", unfollowed := true, recurses := true, plainKeys := false, apart := false, narrowed := true }
def LakeBelowUptoSaid : Prop := lakeBelowUptoRow.holds Try.pinned (OpenSpec.upto lakeBelowSpec)

/-- 'sackunglaw10.LakeNames', WHERE WHAT IT READS IS OF BULK AT MOST 1048576: true; the input reads as it did. -/
def lakeNamesUptoRow : OpenClaim := { program := "ytpijmfbpdglchaa", sum := "5ca12bdb3723efade0600814d23c4cbb34d0e00f1f344270663e101bc1e5a54b", func := "sackung/sackunglaw10.LakeNames", spec := "lakeNames", unfollowed := true, recurses := true, plainKeys := false, apart := false, narrowed := true }
def LakeNamesUptoSaid : Prop := lakeNamesUptoRow.holds Try.pinned (OpenSpec.upto lakeNamesSpec)

end Rows
end Go.Proofs.Ytpijmfbpdglchaa
