/-
  No cell of these rows narrows 'for every input' (looked for: loops, veiled, ifaces, maps, wideKeys, modest, calm, conditions, laid).
  DERIVED. THE GIVEN ROWS OF THIS SEAT. 13 by the template 'for every input the law returns true; each argument reads behind the call as it read before'; 0 by the template 'total and deterministic' (their statements: YtncnlhkmdljgpaaTotals.lean).
  GIVEN WITH THE SEED: the statements are not yours to turn. If you find one false, say at which input.
  Laid BY PROGRAM, IN A SANDBOX (cutbox-rows.mjs): the forced cells as the released guide's own fill.sh prints them over the translation e063182e19a67421… (all of the seat's roots in one cut). By AI agents, Wed Nov 11 2026. No macro, syntax, notation, axiom, sorry.
-/
import Derived.Test.YtncnlhkmdljgpaaChecked
import GoSem.Claim
import GoSem.ClaimJoined
import GoSem.ClaimMapViews
import Derived.JoinedTies
import Derived.KernelRfl
namespace Go.Proofs.Ytncnlhkmdljgpaa
/- THE CELL 'sum', in the pinned program and in every row, IS THE sha256 OF THE DUMP (.gsa) THAT YtncnlhkmdljgpaaProg.lean LOADS. Nothing in Lean hashes anything: it is a label: what it is worth is what the hold of that sum in a sandbox is worth. -/
noncomputable def Try.pinned : Pinned := { name := "ytncnlhkmdljgpaa", sum := "e063182e19a67421356ecea6070b0e6543e6dcf15166330b6fdd7d0484860094", checked := Try.checked }
namespace Rows
def none {H : Type} : Left H := { results := [], args := [] }

/-- 'thalweglaw01.RiverRunoff': WHATEVER THE INPUT: true; the input reads as it did. -/
def riverRunoffSpec : ChangeSpec := { name := "riverRunoff", fn := fun _ => fun
  | [d1, d2] => { results := [.lit (.bool true)], args := [d1, d2] }
  | _ => none }
def riverRunoffRow : OpenClaim := { program := "ytncnlhkmdljgpaa", sum := "e063182e19a67421356ecea6070b0e6543e6dcf15166330b6fdd7d0484860094", func := "thalweg/thalweglaw01.RiverRunoff", spec := "riverRunoff", unfollowed := true, recurses := true, apart := false }
def RiverRunoffSaid : Prop := riverRunoffRow.holds Try.pinned (OpenSpec.ofChange riverRunoffSpec)

/-- ITS FALSE NEIGHBOUR: 'it returns false'. Refute it at one input. -/
def riverRunoffWrong : ChangeSpec := { name := "riverRunoff", fn := fun _ => fun
  | [d1, d2] => { results := [.lit (.bool false)], args := [d1, d2] }
  | _ => none }
def RiverRunoffWrongFalsely : Prop := riverRunoffRow.holds Try.pinned (OpenSpec.ofChange riverRunoffWrong)

/-- 'thalweglaw01.RiverMelts': WHATEVER THE INPUT: true; the input reads as it did. -/
def riverMeltsSpec : ChangeSpec := { name := "riverMelts", fn := fun _ => fun
  | [d1, d2, d3] => { results := [.lit (.bool true)], args := [d1, d2, d3] }
  | _ => none }
def riverMeltsRow : OpenClaim := { program := "ytncnlhkmdljgpaa", sum := "e063182e19a67421356ecea6070b0e6543e6dcf15166330b6fdd7d0484860094", func := "thalweg/thalweglaw01.RiverMelts", spec := "riverMelts", unfollowed := true, recurses := true, apart := false }
def RiverMeltsSaid : Prop := riverMeltsRow.holds Try.pinned (OpenSpec.ofChange riverMeltsSpec)

/-- ITS FALSE NEIGHBOUR: 'it returns false'. Refute it at one input. -/
def riverMeltsWrong : ChangeSpec := { name := "riverMelts", fn := fun _ => fun
  | [d1, d2, d3] => { results := [.lit (.bool false)], args := [d1, d2, d3] }
  | _ => none }
def RiverMeltsWrongFalsely : Prop := riverMeltsRow.holds Try.pinned (OpenSpec.ofChange riverMeltsWrong)

/-- 'thalweglaw01.RiverChecks': WHATEVER THE INPUT: true; the input reads as it did. -/
def riverChecksSpec : ChangeSpec := { name := "riverChecks", fn := fun _ => fun
  | [d1, d2, d3] => { results := [.lit (.bool true)], args := [d1, d2, d3] }
  | _ => none }
def riverChecksRow : OpenClaim := { program := "ytncnlhkmdljgpaa", sum := "e063182e19a67421356ecea6070b0e6543e6dcf15166330b6fdd7d0484860094", func := "thalweg/thalweglaw01.RiverChecks", spec := "riverChecks", unfollowed := true, recurses := true, apart := false }
def RiverChecksSaid : Prop := riverChecksRow.holds Try.pinned (OpenSpec.ofChange riverChecksSpec)

/-- ITS FALSE NEIGHBOUR: 'it returns false'. Refute it at one input. -/
def riverChecksWrong : ChangeSpec := { name := "riverChecks", fn := fun _ => fun
  | [d1, d2, d3] => { results := [.lit (.bool false)], args := [d1, d2, d3] }
  | _ => none }
def RiverChecksWrongFalsely : Prop := riverChecksRow.holds Try.pinned (OpenSpec.ofChange riverChecksWrong)

/-- 'thalweglaw01.RiverDepths': WHATEVER THE INPUT: true; the input reads as it did. -/
def riverDepthsSpec : ChangeSpec := { name := "riverDepths", fn := fun _ => fun
  | [d1, d2, d3] => { results := [.lit (.bool true)], args := [d1, d2, d3] }
  | _ => none }
def riverDepthsRow : OpenClaim := { program := "ytncnlhkmdljgpaa", sum := "e063182e19a67421356ecea6070b0e6543e6dcf15166330b6fdd7d0484860094", func := "thalweg/thalweglaw01.RiverDepths", spec := "riverDepths", unfollowed := true, recurses := true, apart := false }
def RiverDepthsSaid : Prop := riverDepthsRow.holds Try.pinned (OpenSpec.ofChange riverDepthsSpec)

/-- ITS FALSE NEIGHBOUR: 'it returns false'. Refute it at one input. -/
def riverDepthsWrong : ChangeSpec := { name := "riverDepths", fn := fun _ => fun
  | [d1, d2, d3] => { results := [.lit (.bool false)], args := [d1, d2, d3] }
  | _ => none }
def RiverDepthsWrongFalsely : Prop := riverDepthsRow.holds Try.pinned (OpenSpec.ofChange riverDepthsWrong)

/-- 'thalweglaw01.RiverFlows': WHATEVER THE INPUT: true; the input reads as it did. -/
def riverFlowsSpec : ChangeSpec := { name := "riverFlows", fn := fun _ => fun
  | [d] => { results := [.lit (.bool true)], args := [d] }
  | _ => none }
def riverFlowsRow : OpenClaim := { program := "ytncnlhkmdljgpaa", sum := "e063182e19a67421356ecea6070b0e6543e6dcf15166330b6fdd7d0484860094", func := "thalweg/thalweglaw01.RiverFlows", spec := "riverFlows", unfollowed := true, recurses := true, apart := false }
def RiverFlowsSaid : Prop := riverFlowsRow.holds Try.pinned (OpenSpec.ofChange riverFlowsSpec)

/-- ITS FALSE NEIGHBOUR: 'it returns false'. Refute it at one input. -/
def riverFlowsWrong : ChangeSpec := { name := "riverFlows", fn := fun _ => fun
  | [d] => { results := [.lit (.bool false)], args := [d] }
  | _ => none }
def RiverFlowsWrongFalsely : Prop := riverFlowsRow.holds Try.pinned (OpenSpec.ofChange riverFlowsWrong)

/-- 'thalweglaw01.RiverEnds': WHATEVER THE INPUT: true; the input reads as it did. -/
def riverEndsSpec : ChangeSpec := { name := "riverEnds", fn := fun _ => fun
  | [d] => { results := [.lit (.bool true)], args := [d] }
  | _ => none }
def riverEndsRow : OpenClaim := { program := "ytncnlhkmdljgpaa", sum := "e063182e19a67421356ecea6070b0e6543e6dcf15166330b6fdd7d0484860094", func := "thalweg/thalweglaw01.RiverEnds", spec := "riverEnds", unfollowed := true, recurses := true, apart := false }
def RiverEndsSaid : Prop := riverEndsRow.holds Try.pinned (OpenSpec.ofChange riverEndsSpec)

/-- ITS FALSE NEIGHBOUR: 'it returns false'. Refute it at one input. -/
def riverEndsWrong : ChangeSpec := { name := "riverEnds", fn := fun _ => fun
  | [d] => { results := [.lit (.bool false)], args := [d] }
  | _ => none }
def RiverEndsWrongFalsely : Prop := riverEndsRow.holds Try.pinned (OpenSpec.ofChange riverEndsWrong)

/-- 'thalweglaw01.RiverVolumes': WHATEVER THE INPUT: true; the input reads as it did. -/
def riverVolumesSpec : ChangeSpec := { name := "riverVolumes", fn := fun _ => fun
  | [d1, d2] => { results := [.lit (.bool true)], args := [d1, d2] }
  | _ => none }
def riverVolumesRow : OpenClaim := { program := "ytncnlhkmdljgpaa", sum := "e063182e19a67421356ecea6070b0e6543e6dcf15166330b6fdd7d0484860094", func := "thalweg/thalweglaw01.RiverVolumes", spec := "riverVolumes", unfollowed := true, recurses := true, apart := false }
def RiverVolumesSaid : Prop := riverVolumesRow.holds Try.pinned (OpenSpec.ofChange riverVolumesSpec)

/-- ITS FALSE NEIGHBOUR: 'it returns false'. Refute it at one input. -/
def riverVolumesWrong : ChangeSpec := { name := "riverVolumes", fn := fun _ => fun
  | [d1, d2] => { results := [.lit (.bool false)], args := [d1, d2] }
  | _ => none }
def RiverVolumesWrongFalsely : Prop := riverVolumesRow.holds Try.pinned (OpenSpec.ofChange riverVolumesWrong)

/-- 'thalweglaw01.RiverKeeps': WHATEVER THE INPUT: true; the input reads as it did. -/
def riverKeepsSpec : ChangeSpec := { name := "riverKeeps", fn := fun _ => fun
  | [d1, d2] => { results := [.lit (.bool true)], args := [d1, d2] }
  | _ => none }
def riverKeepsRow : OpenClaim := { program := "ytncnlhkmdljgpaa", sum := "e063182e19a67421356ecea6070b0e6543e6dcf15166330b6fdd7d0484860094", func := "thalweg/thalweglaw01.RiverKeeps", spec := "riverKeeps", unfollowed := true, recurses := true, apart := false }
def RiverKeepsSaid : Prop := riverKeepsRow.holds Try.pinned (OpenSpec.ofChange riverKeepsSpec)

/-- ITS FALSE NEIGHBOUR: 'it returns false'. Refute it at one input. -/
def riverKeepsWrong : ChangeSpec := { name := "riverKeeps", fn := fun _ => fun
  | [d1, d2] => { results := [.lit (.bool false)], args := [d1, d2] }
  | _ => none }
def RiverKeepsWrongFalsely : Prop := riverKeepsRow.holds Try.pinned (OpenSpec.ofChange riverKeepsWrong)

/-- 'thalweglaw01.RiverCloses': WHATEVER THE INPUT: true; the input reads as it did. -/
def riverClosesSpec : ChangeSpec := { name := "riverCloses", fn := fun _ => fun
  | [d1, d2, d3] => { results := [.lit (.bool true)], args := [d1, d2, d3] }
  | _ => none }
def riverClosesRow : OpenClaim := { program := "ytncnlhkmdljgpaa", sum := "e063182e19a67421356ecea6070b0e6543e6dcf15166330b6fdd7d0484860094", func := "thalweg/thalweglaw01.RiverCloses", spec := "riverCloses", unfollowed := true, recurses := true, apart := false }
def RiverClosesSaid : Prop := riverClosesRow.holds Try.pinned (OpenSpec.ofChange riverClosesSpec)

/-- ITS FALSE NEIGHBOUR: 'it returns false'. Refute it at one input. -/
def riverClosesWrong : ChangeSpec := { name := "riverCloses", fn := fun _ => fun
  | [d1, d2, d3] => { results := [.lit (.bool false)], args := [d1, d2, d3] }
  | _ => none }
def RiverClosesWrongFalsely : Prop := riverClosesRow.holds Try.pinned (OpenSpec.ofChange riverClosesWrong)

/-- 'thalweglaw01.RiverNarrows': WHATEVER THE INPUT: true; the input reads as it did. -/
def riverNarrowsSpec : ChangeSpec := { name := "riverNarrows", fn := fun _ => fun
  | [d1, d2, d3] => { results := [.lit (.bool true)], args := [d1, d2, d3] }
  | _ => none }
def riverNarrowsRow : OpenClaim := { program := "ytncnlhkmdljgpaa", sum := "e063182e19a67421356ecea6070b0e6543e6dcf15166330b6fdd7d0484860094", func := "thalweg/thalweglaw01.RiverNarrows", spec := "riverNarrows", unfollowed := true, recurses := true, apart := false }
def RiverNarrowsSaid : Prop := riverNarrowsRow.holds Try.pinned (OpenSpec.ofChange riverNarrowsSpec)

/-- ITS FALSE NEIGHBOUR: 'it returns false'. Refute it at one input. -/
def riverNarrowsWrong : ChangeSpec := { name := "riverNarrows", fn := fun _ => fun
  | [d1, d2, d3] => { results := [.lit (.bool false)], args := [d1, d2, d3] }
  | _ => none }
def RiverNarrowsWrongFalsely : Prop := riverNarrowsRow.holds Try.pinned (OpenSpec.ofChange riverNarrowsWrong)

/-- 'thalweglaw01.RiverShallow': WHATEVER THE INPUT: true; the input reads as it did. -/
def riverShallowSpec : ChangeSpec := { name := "riverShallow", fn := fun _ => fun
  | [d1, d2] => { results := [.lit (.bool true)], args := [d1, d2] }
  | _ => none }
def riverShallowRow : OpenClaim := { program := "ytncnlhkmdljgpaa", sum := "e063182e19a67421356ecea6070b0e6543e6dcf15166330b6fdd7d0484860094", func := "thalweg/thalweglaw01.RiverShallow", spec := "riverShallow", unfollowed := true, recurses := true, apart := false }
def RiverShallowSaid : Prop := riverShallowRow.holds Try.pinned (OpenSpec.ofChange riverShallowSpec)

/-- ITS FALSE NEIGHBOUR: 'it returns false'. Refute it at one input. -/
def riverShallowWrong : ChangeSpec := { name := "riverShallow", fn := fun _ => fun
  | [d1, d2] => { results := [.lit (.bool false)], args := [d1, d2] }
  | _ => none }
def RiverShallowWrongFalsely : Prop := riverShallowRow.holds Try.pinned (OpenSpec.ofChange riverShallowWrong)

/-- 'thalweglaw01.RiverWays': WHATEVER THE INPUT: true; the input reads as it did. -/
def riverWaysSpec : ChangeSpec := { name := "riverWays", fn := fun _ => fun
  | [d1, d2, d3] => { results := [.lit (.bool true)], args := [d1, d2, d3] }
  | _ => none }
def riverWaysRow : OpenClaim := { program := "ytncnlhkmdljgpaa", sum := "e063182e19a67421356ecea6070b0e6543e6dcf15166330b6fdd7d0484860094", func := "thalweg/thalweglaw01.RiverWays", spec := "riverWays", unfollowed := true, recurses := true, apart := false }
def RiverWaysSaid : Prop := riverWaysRow.holds Try.pinned (OpenSpec.ofChange riverWaysSpec)

/-- ITS FALSE NEIGHBOUR: 'it returns false'. Refute it at one input. -/
def riverWaysWrong : ChangeSpec := { name := "riverWays", fn := fun _ => fun
  | [d1, d2, d3] => { results := [.lit (.bool false)], args := [d1, d2, d3] }
  | _ => none }
def RiverWaysWrongFalsely : Prop := riverWaysRow.holds Try.pinned (OpenSpec.ofChange riverWaysWrong)

/-- 'thalweglaw01.RiverTruths': WHATEVER THE INPUT: true; the input reads as it did. -/
def riverTruthsSpec : ChangeSpec := { name := "riverTruths", fn := fun _ => fun
  | [d1, d2, d3] => { results := [.lit (.bool true)], args := [d1, d2, d3] }
  | _ => none }
def riverTruthsRow : OpenClaim := { program := "ytncnlhkmdljgpaa", sum := "e063182e19a67421356ecea6070b0e6543e6dcf15166330b6fdd7d0484860094", func := "thalweg/thalweglaw01.RiverTruths", spec := "riverTruths", unfollowed := true, recurses := true, apart := false }
def RiverTruthsSaid : Prop := riverTruthsRow.holds Try.pinned (OpenSpec.ofChange riverTruthsSpec)

/-- ITS FALSE NEIGHBOUR: 'it returns false'. Refute it at one input. -/
def riverTruthsWrong : ChangeSpec := { name := "riverTruths", fn := fun _ => fun
  | [d1, d2, d3] => { results := [.lit (.bool false)], args := [d1, d2, d3] }
  | _ => none }
def RiverTruthsWrongFalsely : Prop := riverTruthsRow.holds Try.pinned (OpenSpec.ofChange riverTruthsWrong)

/- THE SECOND FORM. 'bulk': how many values and letters a reading holds, each counted each time it is reached (what is shared counts as often as it is met; a slice's spare places count too). A statement '..UptoSaid' is the law's where the arguments, and the package variables that the reading takes, are together of bulk at most 1048576: NARROWER than '..Said'. Prove '..Said' where nothing that the law and all that it calls make is longer than what came in: it says more and counts as full. Else prove '..UptoSaid'. A law counts once. -/
mutual
def uptoBulk {H : Type} : DataW H → Nat
  | .lit (.string bytes) => bytes.length + 1
  | .lit _ => 1
  | .nil => 1
  | .ptr d => uptoBulk d + 1
  | .slice elems spare => uptoBulkAll elems + uptoBulkAll spare + 1
  | .agg parts => uptoBulkAll parts + 1
  | .iface _ d => uptoBulk d + 1
  | .map entries => uptoBulkEntries entries + 1
  | .held _ => 1
def uptoBulkAll {H : Type} : List (DataW H) → Nat
  | [] => 0
  | d :: r => uptoBulk d + uptoBulkAll r
def uptoBulkEntries {H : Type} : List (Lit × DataW H) → Nat
  | [] => 0
  | x :: r => uptoBulkEntry x + uptoBulkEntries r
def uptoBulkEntry {H : Type} : Lit × DataW H → Nat
  | (.string bytes, d) => bytes.length + uptoBulk d + 1
  | (_, d) => uptoBulk d + 1
 end
def uptoSmall : (H : Type) → List (DataW H) → Bool := fun _ ds => decide (uptoBulkAll ds ≤ 1048576)
def OpenSpec.upto (s : _root_.Go.ChangeSpec) : _root_.Go.OpenSpec := { _root_.Go.OpenSpec.ofChange s with cond := some uptoSmall }

/-- 'thalweglaw01.RiverRunoff', WHERE WHAT IT READS IS OF BULK AT MOST 1048576: true; the input reads as it did. -/
def riverRunoffUptoRow : OpenClaim := { program := "ytncnlhkmdljgpaa", sum := "e063182e19a67421356ecea6070b0e6543e6dcf15166330b6fdd7d0484860094", func := "thalweg/thalweglaw01.RiverRunoff", spec := "riverRunoff", unfollowed := true, recurses := true, apart := false, narrowed := true }
def RiverRunoffUptoSaid : Prop := riverRunoffUptoRow.holds Try.pinned (OpenSpec.upto riverRunoffSpec)

/-- 'thalweglaw01.RiverMelts', WHERE WHAT IT READS IS OF BULK AT MOST 1048576: true; the input reads as it did. -/
def riverMeltsUptoRow : OpenClaim := { program := "ytncnlhkmdljgpaa", sum := "e063182e19a67421356ecea6070b0e6543e6dcf15166330b6fdd7d0484860094", func := "thalweg/thalweglaw01.RiverMelts", spec := "riverMelts", unfollowed := true, recurses := true, apart := false, narrowed := true }
def RiverMeltsUptoSaid : Prop := riverMeltsUptoRow.holds Try.pinned (OpenSpec.upto riverMeltsSpec)

/-- 'thalweglaw01.RiverChecks', WHERE WHAT IT READS IS OF BULK AT MOST 1048576: true; the input reads as it did. -/
def riverChecksUptoRow : OpenClaim := { program := "ytncnlhkmdljgpaa", sum := "e063182e19a67421356ecea6070b0e6543e6dcf15166330b6fdd7d0484860094", func := "thalweg/thalweglaw01.RiverChecks", spec := "riverChecks", unfollowed := true, recurses := true, apart := false, narrowed := true }
def RiverChecksUptoSaid : Prop := riverChecksUptoRow.holds Try.pinned (OpenSpec.upto riverChecksSpec)

/-- 'thalweglaw01.RiverDepths', WHERE WHAT IT READS IS OF BULK AT MOST 1048576: true; the input reads as it did. -/
def riverDepthsUptoRow : OpenClaim := { program := "ytncnlhkmdljgpaa", sum := "e063182e19a67421356ecea6070b0e6543e6dcf15166330b6fdd7d0484860094", func := "thalweg/thalweglaw01.RiverDepths", spec := "riverDepths", unfollowed := true, recurses := true, apart := false, narrowed := true }
def RiverDepthsUptoSaid : Prop := riverDepthsUptoRow.holds Try.pinned (OpenSpec.upto riverDepthsSpec)

/-- 'thalweglaw01.RiverFlows', WHERE WHAT IT READS IS OF BULK AT MOST 1048576: true; the input reads as it did. -/
def riverFlowsUptoRow : OpenClaim := { program := "ytncnlhkmdljgpaa", sum := "e063182e19a67421356ecea6070b0e6543e6dcf15166330b6fdd7d0484860094", func := "thalweg/thalweglaw01.RiverFlows", spec := "riverFlows", unfollowed := true, recurses := true, apart := false, narrowed := true }
def RiverFlowsUptoSaid : Prop := riverFlowsUptoRow.holds Try.pinned (OpenSpec.upto riverFlowsSpec)

/-- 'thalweglaw01.RiverEnds', WHERE WHAT IT READS IS OF BULK AT MOST 1048576: true; the input reads as it did. -/
def riverEndsUptoRow : OpenClaim := { program := "ytncnlhkmdljgpaa", sum := "e063182e19a67421356ecea6070b0e6543e6dcf15166330b6fdd7d0484860094", func := "thalweg/thalweglaw01.RiverEnds", spec := "riverEnds", unfollowed := true, recurses := true, apart := false, narrowed := true }
def RiverEndsUptoSaid : Prop := riverEndsUptoRow.holds Try.pinned (OpenSpec.upto riverEndsSpec)

/-- 'thalweglaw01.RiverVolumes', WHERE WHAT IT READS IS OF BULK AT MOST 1048576: true; the input reads as it did. -/
def riverVolumesUptoRow : OpenClaim := { program := "ytncnlhkmdljgpaa", sum := "e063182e19a67421356ecea6070b0e6543e6dcf15166330b6fdd7d0484860094", func := "thalweg/thalweglaw01.RiverVolumes", spec := "riverVolumes", unfollowed := true, recurses := true, apart := false, narrowed := true }
def RiverVolumesUptoSaid : Prop := riverVolumesUptoRow.holds Try.pinned (OpenSpec.upto riverVolumesSpec)

/-- 'thalweglaw01.RiverKeeps', WHERE WHAT IT READS IS OF BULK AT MOST 1048576: true; the input reads as it did. -/
def riverKeepsUptoRow : OpenClaim := { program := "ytncnlhkmdljgpaa", sum := "e063182e19a67421356ecea6070b0e6543e6dcf15166330b6fdd7d0484860094", func := "thalweg/thalweglaw01.RiverKeeps", spec := "riverKeeps", unfollowed := true, recurses := true, apart := false, narrowed := true }
def RiverKeepsUptoSaid : Prop := riverKeepsUptoRow.holds Try.pinned (OpenSpec.upto riverKeepsSpec)

/-- 'thalweglaw01.RiverCloses', WHERE WHAT IT READS IS OF BULK AT MOST 1048576: true; the input reads as it did. -/
def riverClosesUptoRow : OpenClaim := { program := "ytncnlhkmdljgpaa", sum := "e063182e19a67421356ecea6070b0e6543e6dcf15166330b6fdd7d0484860094", func := "thalweg/thalweglaw01.RiverCloses", spec := "riverCloses", unfollowed := true, recurses := true, apart := false, narrowed := true }
def RiverClosesUptoSaid : Prop := riverClosesUptoRow.holds Try.pinned (OpenSpec.upto riverClosesSpec)

/-- 'thalweglaw01.RiverNarrows', WHERE WHAT IT READS IS OF BULK AT MOST 1048576: true; the input reads as it did. -/
def riverNarrowsUptoRow : OpenClaim := { program := "ytncnlhkmdljgpaa", sum := "e063182e19a67421356ecea6070b0e6543e6dcf15166330b6fdd7d0484860094", func := "thalweg/thalweglaw01.RiverNarrows", spec := "riverNarrows", unfollowed := true, recurses := true, apart := false, narrowed := true }
def RiverNarrowsUptoSaid : Prop := riverNarrowsUptoRow.holds Try.pinned (OpenSpec.upto riverNarrowsSpec)

/-- 'thalweglaw01.RiverShallow', WHERE WHAT IT READS IS OF BULK AT MOST 1048576: true; the input reads as it did. -/
def riverShallowUptoRow : OpenClaim := { program := "ytncnlhkmdljgpaa", sum := "e063182e19a67421356ecea6070b0e6543e6dcf15166330b6fdd7d0484860094", func := "thalweg/thalweglaw01.RiverShallow", spec := "riverShallow", unfollowed := true, recurses := true, apart := false, narrowed := true }
def RiverShallowUptoSaid : Prop := riverShallowUptoRow.holds Try.pinned (OpenSpec.upto riverShallowSpec)

/-- 'thalweglaw01.RiverWays', WHERE WHAT IT READS IS OF BULK AT MOST 1048576: true; the input reads as it did. -/
def riverWaysUptoRow : OpenClaim := { program := "ytncnlhkmdljgpaa", sum := "e063182e19a67421356ecea6070b0e6543e6dcf15166330b6fdd7d0484860094", func := "thalweg/thalweglaw01.RiverWays", spec := "riverWays", unfollowed := true, recurses := true, apart := false, narrowed := true }
def RiverWaysUptoSaid : Prop := riverWaysUptoRow.holds Try.pinned (OpenSpec.upto riverWaysSpec)

/-- 'thalweglaw01.RiverTruths', WHERE WHAT IT READS IS OF BULK AT MOST 1048576: true; the input reads as it did. -/
def riverTruthsUptoRow : OpenClaim := { program := "ytncnlhkmdljgpaa", sum := "e063182e19a67421356ecea6070b0e6543e6dcf15166330b6fdd7d0484860094", func := "thalweg/thalweglaw01.RiverTruths", spec := "riverTruths", unfollowed := true, recurses := true, apart := false, narrowed := true }
def RiverTruthsUptoSaid : Prop := riverTruthsUptoRow.holds Try.pinned (OpenSpec.upto riverTruthsSpec)

end Rows
end Go.Proofs.Ytncnlhkmdljgpaa
