/-
  No cell of these rows narrows 'for every input' (looked for: loops, veiled, ifaces, maps, wideKeys, modest, calm, conditions, laid).
  DERIVED. THE GIVEN ROWS OF THIS SEAT. 7 by the template 'for every input the law returns true; each argument reads behind the call as it read before'; 0 by the template 'total and deterministic' (their statements: YtfgfenmaommclaaTotals.lean).
  GIVEN WITH THE SEED: the statements are not yours to turn. If you find one false, say at which input.
  Laid BY PROGRAM, IN A SANDBOX (cutbox-rows.mjs): the forced cells as the released guide's own fill.sh prints them over the translation f15382fa594e9c7a… (all of the seat's roots in one cut). By AI agents, Wed Nov 11 2026. No macro, syntax, notation, axiom, sorry.
-/
import Derived.Test.YtfgfenmaommclaaChecked
import GoSem.Claim
import GoSem.ClaimJoined
import GoSem.ClaimMapViews
import Derived.JoinedTies
import Derived.KernelRfl
namespace Go.Proofs.Ytfgfenmaommclaa
/- THE CELL 'sum', in the pinned program and in every row, IS THE sha256 OF THE DUMP (.gsa) THAT YtfgfenmaommclaaProg.lean LOADS. Nothing in Lean hashes anything: it is a label: what it is worth is what the hold of that sum in a sandbox is worth. -/
noncomputable def Try.pinned : Pinned := { name := "ytfgfenmaommclaa", sum := "f15382fa594e9c7a11f72ffce3bfa4e2bf9c6651013f0dce7a750a5616aff839", checked := Try.checked }
namespace Rows
def none {H : Type} : Left H := { results := [], args := [] }

/-- 'thalweglaw02.HullLives': WHATEVER THE INPUT: true; the input reads as it did. -/
def hullLivesSpec : ChangeSpec := { name := "hullLives", fn := fun _ => fun
  | [d1, d2] => { results := [.lit (.bool true)], args := [d1, d2] }
  | _ => none }
def hullLivesRow : OpenClaim := { program := "ytfgfenmaommclaa", sum := "f15382fa594e9c7a11f72ffce3bfa4e2bf9c6651013f0dce7a750a5616aff839", func := "thalweg/thalweglaw02.HullLives", spec := "hullLives", unfollowed := true, recurses := true, apart := false }
def HullLivesSaid : Prop := hullLivesRow.holds Try.pinned (OpenSpec.ofChange hullLivesSpec)

/-- ITS FALSE NEIGHBOUR: 'it returns false'. Refute it at one input. -/
def hullLivesWrong : ChangeSpec := { name := "hullLives", fn := fun _ => fun
  | [d1, d2] => { results := [.lit (.bool false)], args := [d1, d2] }
  | _ => none }
def HullLivesWrongFalsely : Prop := hullLivesRow.holds Try.pinned (OpenSpec.ofChange hullLivesWrong)

/-- 'thalweglaw02.HullGreatest': WHATEVER THE INPUT: true; the input reads as it did. -/
def hullGreatestSpec : ChangeSpec := { name := "hullGreatest", fn := fun _ => fun
  | [d1, d2, d3] => { results := [.lit (.bool true)], args := [d1, d2, d3] }
  | _ => none }
def hullGreatestRow : OpenClaim := { program := "ytfgfenmaommclaa", sum := "f15382fa594e9c7a11f72ffce3bfa4e2bf9c6651013f0dce7a750a5616aff839", func := "thalweg/thalweglaw02.HullGreatest", spec := "hullGreatest", unfollowed := true, recurses := true, apart := false }
def HullGreatestSaid : Prop := hullGreatestRow.holds Try.pinned (OpenSpec.ofChange hullGreatestSpec)

/-- ITS FALSE NEIGHBOUR: 'it returns false'. Refute it at one input. -/
def hullGreatestWrong : ChangeSpec := { name := "hullGreatest", fn := fun _ => fun
  | [d1, d2, d3] => { results := [.lit (.bool false)], args := [d1, d2, d3] }
  | _ => none }
def HullGreatestWrongFalsely : Prop := hullGreatestRow.holds Try.pinned (OpenSpec.ofChange hullGreatestWrong)

/-- 'thalweglaw02.HullLeast': WHATEVER THE INPUT: true; the input reads as it did. -/
def hullLeastSpec : ChangeSpec := { name := "hullLeast", fn := fun _ => fun
  | [d1, d2, d3] => { results := [.lit (.bool true)], args := [d1, d2, d3] }
  | _ => none }
def hullLeastRow : OpenClaim := { program := "ytfgfenmaommclaa", sum := "f15382fa594e9c7a11f72ffce3bfa4e2bf9c6651013f0dce7a750a5616aff839", func := "thalweg/thalweglaw02.HullLeast", spec := "hullLeast", unfollowed := true, recurses := true, apart := false }
def HullLeastSaid : Prop := hullLeastRow.holds Try.pinned (OpenSpec.ofChange hullLeastSpec)

/-- ITS FALSE NEIGHBOUR: 'it returns false'. Refute it at one input. -/
def hullLeastWrong : ChangeSpec := { name := "hullLeast", fn := fun _ => fun
  | [d1, d2, d3] => { results := [.lit (.bool false)], args := [d1, d2, d3] }
  | _ => none }
def HullLeastWrongFalsely : Prop := hullLeastRow.holds Try.pinned (OpenSpec.ofChange hullLeastWrong)

/-- 'thalweglaw02.HullLater': WHATEVER THE INPUT: true; the input reads as it did. -/
def hullLaterSpec : ChangeSpec := { name := "hullLater", fn := fun _ => fun
  | [d1, d2] => { results := [.lit (.bool true)], args := [d1, d2] }
  | _ => none }
def hullLaterRow : OpenClaim := { program := "ytfgfenmaommclaa", sum := "f15382fa594e9c7a11f72ffce3bfa4e2bf9c6651013f0dce7a750a5616aff839", func := "thalweg/thalweglaw02.HullLater", spec := "hullLater", unfollowed := true, recurses := true, apart := false }
def HullLaterSaid : Prop := hullLaterRow.holds Try.pinned (OpenSpec.ofChange hullLaterSpec)

/-- ITS FALSE NEIGHBOUR: 'it returns false'. Refute it at one input. -/
def hullLaterWrong : ChangeSpec := { name := "hullLater", fn := fun _ => fun
  | [d1, d2] => { results := [.lit (.bool false)], args := [d1, d2] }
  | _ => none }
def HullLaterWrongFalsely : Prop := hullLaterRow.holds Try.pinned (OpenSpec.ofChange hullLaterWrong)

/-- 'thalweglaw02.HullWears': WHATEVER THE INPUT: true; the input reads as it did. -/
def hullWearsSpec : ChangeSpec := { name := "hullWears", fn := fun _ => fun
  | [d1, d2, d3] => { results := [.lit (.bool true)], args := [d1, d2, d3] }
  | _ => none }
def hullWearsRow : OpenClaim := { program := "ytfgfenmaommclaa", sum := "f15382fa594e9c7a11f72ffce3bfa4e2bf9c6651013f0dce7a750a5616aff839", func := "thalweg/thalweglaw02.HullWears", spec := "hullWears", unfollowed := true, recurses := true, apart := false }
def HullWearsSaid : Prop := hullWearsRow.holds Try.pinned (OpenSpec.ofChange hullWearsSpec)

/-- ITS FALSE NEIGHBOUR: 'it returns false'. Refute it at one input. -/
def hullWearsWrong : ChangeSpec := { name := "hullWears", fn := fun _ => fun
  | [d1, d2, d3] => { results := [.lit (.bool false)], args := [d1, d2, d3] }
  | _ => none }
def HullWearsWrongFalsely : Prop := hullWearsRow.holds Try.pinned (OpenSpec.ofChange hullWearsWrong)

/-- 'thalweglaw02.HullWelded': WHATEVER THE INPUT: true; the input reads as it did. -/
def hullWeldedSpec : ChangeSpec := { name := "hullWelded", fn := fun _ => fun
  | [d1, d2, d3] => { results := [.lit (.bool true)], args := [d1, d2, d3] }
  | _ => none }
def hullWeldedRow : OpenClaim := { program := "ytfgfenmaommclaa", sum := "f15382fa594e9c7a11f72ffce3bfa4e2bf9c6651013f0dce7a750a5616aff839", func := "thalweg/thalweglaw02.HullWelded", spec := "hullWelded", unfollowed := true, recurses := true, apart := false }
def HullWeldedSaid : Prop := hullWeldedRow.holds Try.pinned (OpenSpec.ofChange hullWeldedSpec)

/-- ITS FALSE NEIGHBOUR: 'it returns false'. Refute it at one input. -/
def hullWeldedWrong : ChangeSpec := { name := "hullWelded", fn := fun _ => fun
  | [d1, d2, d3] => { results := [.lit (.bool false)], args := [d1, d2, d3] }
  | _ => none }
def HullWeldedWrongFalsely : Prop := hullWeldedRow.holds Try.pinned (OpenSpec.ofChange hullWeldedWrong)

/-- 'thalweglaw02.HullTruths': WHATEVER THE INPUT: true; the input reads as it did. -/
def hullTruthsSpec : ChangeSpec := { name := "hullTruths", fn := fun _ => fun
  | [d1, d2, d3] => { results := [.lit (.bool true)], args := [d1, d2, d3] }
  | _ => none }
def hullTruthsRow : OpenClaim := { program := "ytfgfenmaommclaa", sum := "f15382fa594e9c7a11f72ffce3bfa4e2bf9c6651013f0dce7a750a5616aff839", func := "thalweg/thalweglaw02.HullTruths", spec := "hullTruths", unfollowed := true, recurses := true, apart := false }
def HullTruthsSaid : Prop := hullTruthsRow.holds Try.pinned (OpenSpec.ofChange hullTruthsSpec)

/-- ITS FALSE NEIGHBOUR: 'it returns false'. Refute it at one input. -/
def hullTruthsWrong : ChangeSpec := { name := "hullTruths", fn := fun _ => fun
  | [d1, d2, d3] => { results := [.lit (.bool false)], args := [d1, d2, d3] }
  | _ => none }
def HullTruthsWrongFalsely : Prop := hullTruthsRow.holds Try.pinned (OpenSpec.ofChange hullTruthsWrong)

/- THE SECOND FORM. 'bulk': how many values and letters a reading holds, each counted each time it is reached (what is shared counts as often as it is met; a slice's spare places count too). A statement '..UptoSaid' is the law's where the arguments, and the package variables that the reading takes, are together of bulk at most 1048576: NARROWER than '..Said'. Prove '..Said' where nothing that the law and all that it calls make is longer than what came in: it says more and counts as full. Else prove '..UptoSaid'. A law counts once. -/
mutual
def uptoBulk {H : Type} : DataW H → Nat
  | .lit (.string bytes) => bytes.length + 1
  | .lit _ => 1
  | .nil => 1
  | .ptr d => uptoBulk d + 1
  | .slice elems spare => uptoBulkAll elems + uptoBulkAll spare + 1
  | .agg parts => uptoBulkAll parts + 1
  | .iface _ d => uptoBulk d + 1
  | .map entries => uptoBulkEntries entries + 1
  | .held _ => 1
def uptoBulkAll {H : Type} : List (DataW H) → Nat
  | [] => 0
  | d :: r => uptoBulk d + uptoBulkAll r
def uptoBulkEntries {H : Type} : List (Lit × DataW H) → Nat
  | [] => 0
  | x :: r => uptoBulkEntry x + uptoBulkEntries r
def uptoBulkEntry {H : Type} : Lit × DataW H → Nat
  | (.string bytes, d) => bytes.length + uptoBulk d + 1
  | (_, d) => uptoBulk d + 1
 end
def uptoSmall : (H : Type) → List (DataW H) → Bool := fun _ ds => decide (uptoBulkAll ds ≤ 1048576)
def OpenSpec.upto (s : _root_.Go.ChangeSpec) : _root_.Go.OpenSpec := { _root_.Go.OpenSpec.ofChange s with cond := some uptoSmall }

/-- 'thalweglaw02.HullLives', WHERE WHAT IT READS IS OF BULK AT MOST 1048576: true; the input reads as it did. -/
def hullLivesUptoRow : OpenClaim := { program := "ytfgfenmaommclaa", sum := "f15382fa594e9c7a11f72ffce3bfa4e2bf9c6651013f0dce7a750a5616aff839", func := "thalweg/thalweglaw02.HullLives", spec := "hullLives", unfollowed := true, recurses := true, apart := false, narrowed := true }
def HullLivesUptoSaid : Prop := hullLivesUptoRow.holds Try.pinned (OpenSpec.upto hullLivesSpec)

/-- 'thalweglaw02.HullGreatest', WHERE WHAT IT READS IS OF BULK AT MOST 1048576: true; the input reads as it did. -/
def hullGreatestUptoRow : OpenClaim := { program := "ytfgfenmaommclaa", sum := "f15382fa594e9c7a11f72ffce3bfa4e2bf9c6651013f0dce7a750a5616aff839", func := "thalweg/thalweglaw02.HullGreatest", spec := "hullGreatest", unfollowed := true, recurses := true, apart := false, narrowed := true }
def HullGreatestUptoSaid : Prop := hullGreatestUptoRow.holds Try.pinned (OpenSpec.upto hullGreatestSpec)

/-- 'thalweglaw02.HullLeast', WHERE WHAT IT READS IS OF BULK AT MOST 1048576: true; the input reads as it did. -/
def hullLeastUptoRow : OpenClaim := { program := "ytfgfenmaommclaa", sum := "f15382fa594e9c7a11f72ffce3bfa4e2bf9c6651013f0dce7a750a5616aff839", func := "thalweg/thalweglaw02.HullLeast", spec := "hullLeast", unfollowed := true, recurses := true, apart := false, narrowed := true }
def HullLeastUptoSaid : Prop := hullLeastUptoRow.holds Try.pinned (OpenSpec.upto hullLeastSpec)

/-- 'thalweglaw02.HullLater', WHERE WHAT IT READS IS OF BULK AT MOST 1048576: true; the input reads as it did. -/
def hullLaterUptoRow : OpenClaim := { program := "ytfgfenmaommclaa", sum := "f15382fa594e9c7a11f72ffce3bfa4e2bf9c6651013f0dce7a750a5616aff839", func := "thalweg/thalweglaw02.HullLater", spec := "hullLater", unfollowed := true, recurses := true, apart := false, narrowed := true }
def HullLaterUptoSaid : Prop := hullLaterUptoRow.holds Try.pinned (OpenSpec.upto hullLaterSpec)

/-- 'thalweglaw02.HullWears', WHERE WHAT IT READS IS OF BULK AT MOST 1048576: true; the input reads as it did. -/
def hullWearsUptoRow : OpenClaim := { program := "ytfgfenmaommclaa", sum := "f15382fa594e9c7a11f72ffce3bfa4e2bf9c6651013f0dce7a750a5616aff839", func := "thalweg/thalweglaw02.HullWears", spec := "hullWears", unfollowed := true, recurses := true, apart := false, narrowed := true }
def HullWearsUptoSaid : Prop := hullWearsUptoRow.holds Try.pinned (OpenSpec.upto hullWearsSpec)

/-- 'thalweglaw02.HullWelded', WHERE WHAT IT READS IS OF BULK AT MOST 1048576: true; the input reads as it did. -/
def hullWeldedUptoRow : OpenClaim := { program := "ytfgfenmaommclaa", sum := "f15382fa594e9c7a11f72ffce3bfa4e2bf9c6651013f0dce7a750a5616aff839", func := "thalweg/thalweglaw02.HullWelded", spec := "hullWelded", unfollowed := true, recurses := true, apart := false, narrowed := true }
def HullWeldedUptoSaid : Prop := hullWeldedUptoRow.holds Try.pinned (OpenSpec.upto hullWeldedSpec)

/-- 'thalweglaw02.HullTruths', WHERE WHAT IT READS IS OF BULK AT MOST 1048576: true; the input reads as it did. -/
def hullTruthsUptoRow : OpenClaim := { program := "ytfgfenmaommclaa", sum := "f15382fa594e9c7a11f72ffce3bfa4e2bf9c6651013f0dce7a750a5616aff839", func := "thalweg/thalweglaw02.HullTruths", spec := "hullTruths", unfollowed := true, recurses := true, apart := false, narrowed := true }
def HullTruthsUptoSaid : Prop := hullTruthsUptoRow.holds Try.pinned (OpenSpec.upto hullTruthsSpec)

end Rows
end Go.Proofs.Ytfgfenmaommclaa
