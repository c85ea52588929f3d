/-
  No cell of these rows narrows 'for every input' (looked for: loops, veiled, ifaces, maps, wideKeys, modest, calm, conditions, laid).
  DERIVED. THE GIVEN ROWS OF THIS SEAT. 9 by the template 'for every input the law returns true; each argument reads behind the call as it read before'; 0 by the template 'total and deterministic' (their statements: YtabgmnmpdjnjoaaTotals.lean).
  GIVEN WITH THE SEED: the statements are not yours to turn. If you find one false, say at which input.
  Laid BY PROGRAM, IN A SANDBOX (cutbox-rows.mjs): the forced cells as the released guide's own fill.sh prints them over the translation d5d692e5214a3e11… (all of the seat's roots in one cut). By AI agents, Wed Nov 11 2026. No macro, syntax, notation, axiom, sorry.
-/
import Derived.Test.YtabgmnmpdjnjoaaChecked
import GoSem.Claim
import GoSem.ClaimJoined
import GoSem.ClaimMapViews
import Derived.JoinedTies
import Derived.KernelRfl
namespace Go.Proofs.Ytabgmnmpdjnjoaa
/- THE CELL 'sum', in the pinned program and in every row, IS THE sha256 OF THE DUMP (.gsa) THAT YtabgmnmpdjnjoaaProg.lean LOADS. Nothing in Lean hashes anything: it is a label: what it is worth is what the hold of that sum in a sandbox is worth. -/
noncomputable def Try.pinned : Pinned := { name := "ytabgmnmpdjnjoaa", sum := "d5d692e5214a3e11e909e371cc43441b60f1bcad9c50f33b39c65bbf9b7a894b", checked := Try.checked }
namespace Rows
def none {H : Type} : Left H := { results := [], args := [] }

/-- 'thalweglaw06.EmptiesMoves': WHATEVER THE INPUT: true; the input reads as it did. -/
def emptiesMovesSpec : ChangeSpec := { name := "emptiesMoves", fn := fun _ => fun
  | [d] => { results := [.lit (.bool true)], args := [d] }
  | _ => none }
def emptiesMovesRow : OpenClaim := { program := "ytabgmnmpdjnjoaa", sum := "d5d692e5214a3e11e909e371cc43441b60f1bcad9c50f33b39c65bbf9b7a894b", func := "thalweg/thalweglaw06.EmptiesMoves", spec := "emptiesMoves", unfollowed := true, recurses := true, apart := false }
def EmptiesMovesSaid : Prop := emptiesMovesRow.holds Try.pinned (OpenSpec.ofChange emptiesMovesSpec)

/-- ITS FALSE NEIGHBOUR: 'it returns false'. Refute it at one input. -/
def emptiesMovesWrong : ChangeSpec := { name := "emptiesMoves", fn := fun _ => fun
  | [d] => { results := [.lit (.bool false)], args := [d] }
  | _ => none }
def EmptiesMovesWrongFalsely : Prop := emptiesMovesRow.holds Try.pinned (OpenSpec.ofChange emptiesMovesWrong)

/-- 'thalweglaw06.EmptiesLacks': WHATEVER THE INPUT: true; the input reads as it did. -/
def emptiesLacksSpec : ChangeSpec := { name := "emptiesLacks", fn := fun _ => fun
  | [d] => { results := [.lit (.bool true)], args := [d] }
  | _ => none }
def emptiesLacksRow : OpenClaim := { program := "ytabgmnmpdjnjoaa", sum := "d5d692e5214a3e11e909e371cc43441b60f1bcad9c50f33b39c65bbf9b7a894b", func := "thalweg/thalweglaw06.EmptiesLacks", spec := "emptiesLacks", unfollowed := true, recurses := true, apart := false }
def EmptiesLacksSaid : Prop := emptiesLacksRow.holds Try.pinned (OpenSpec.ofChange emptiesLacksSpec)

/-- ITS FALSE NEIGHBOUR: 'it returns false'. Refute it at one input. -/
def emptiesLacksWrong : ChangeSpec := { name := "emptiesLacks", fn := fun _ => fun
  | [d] => { results := [.lit (.bool false)], args := [d] }
  | _ => none }
def EmptiesLacksWrongFalsely : Prop := emptiesLacksRow.holds Try.pinned (OpenSpec.ofChange emptiesLacksWrong)

/-- 'thalweglaw06.EmptiesMore': WHATEVER THE INPUT: true; the input reads as it did. -/
def emptiesMoreSpec : ChangeSpec := { name := "emptiesMore", fn := fun _ => fun
  | [d1, d2] => { results := [.lit (.bool true)], args := [d1, d2] }
  | _ => none }
def emptiesMoreRow : OpenClaim := { program := "ytabgmnmpdjnjoaa", sum := "d5d692e5214a3e11e909e371cc43441b60f1bcad9c50f33b39c65bbf9b7a894b", func := "thalweg/thalweglaw06.EmptiesMore", spec := "emptiesMore", unfollowed := true, recurses := true, apart := false }
def EmptiesMoreSaid : Prop := emptiesMoreRow.holds Try.pinned (OpenSpec.ofChange emptiesMoreSpec)

/-- ITS FALSE NEIGHBOUR: 'it returns false'. Refute it at one input. -/
def emptiesMoreWrong : ChangeSpec := { name := "emptiesMore", fn := fun _ => fun
  | [d1, d2] => { results := [.lit (.bool false)], args := [d1, d2] }
  | _ => none }
def EmptiesMoreWrongFalsely : Prop := emptiesMoreRow.holds Try.pinned (OpenSpec.ofChange emptiesMoreWrong)

/-- 'thalweglaw06.EmptiesFew': WHATEVER THE INPUT: true; the input reads as it did. -/
def emptiesFewSpec : ChangeSpec := { name := "emptiesFew", fn := fun _ => fun
  | [d1, d2] => { results := [.lit (.bool true)], args := [d1, d2] }
  | _ => none }
def emptiesFewRow : OpenClaim := { program := "ytabgmnmpdjnjoaa", sum := "d5d692e5214a3e11e909e371cc43441b60f1bcad9c50f33b39c65bbf9b7a894b", func := "thalweg/thalweglaw06.EmptiesFew", spec := "emptiesFew", unfollowed := true, recurses := true, apart := false }
def EmptiesFewSaid : Prop := emptiesFewRow.holds Try.pinned (OpenSpec.ofChange emptiesFewSpec)

/-- ITS FALSE NEIGHBOUR: 'it returns false'. Refute it at one input. -/
def emptiesFewWrong : ChangeSpec := { name := "emptiesFew", fn := fun _ => fun
  | [d1, d2] => { results := [.lit (.bool false)], args := [d1, d2] }
  | _ => none }
def EmptiesFewWrongFalsely : Prop := emptiesFewRow.holds Try.pinned (OpenSpec.ofChange emptiesFewWrong)

/-- 'thalweglaw06.EmptiesOneMore': WHATEVER THE INPUT: true; the input reads as it did. -/
def emptiesOneMoreSpec : ChangeSpec := { name := "emptiesOneMore", fn := fun _ => fun
  | [d1, d2] => { results := [.lit (.bool true)], args := [d1, d2] }
  | _ => none }
def emptiesOneMoreRow : OpenClaim := { program := "ytabgmnmpdjnjoaa", sum := "d5d692e5214a3e11e909e371cc43441b60f1bcad9c50f33b39c65bbf9b7a894b", func := "thalweg/thalweglaw06.EmptiesOneMore", spec := "emptiesOneMore", unfollowed := true, recurses := true, apart := false }
def EmptiesOneMoreSaid : Prop := emptiesOneMoreRow.holds Try.pinned (OpenSpec.ofChange emptiesOneMoreSpec)

/-- ITS FALSE NEIGHBOUR: 'it returns false'. Refute it at one input. -/
def emptiesOneMoreWrong : ChangeSpec := { name := "emptiesOneMore", fn := fun _ => fun
  | [d1, d2] => { results := [.lit (.bool false)], args := [d1, d2] }
  | _ => none }
def EmptiesOneMoreWrongFalsely : Prop := emptiesOneMoreRow.holds Try.pinned (OpenSpec.ofChange emptiesOneMoreWrong)

/-- 'thalweglaw06.EmptiesCosts': WHATEVER THE INPUT: true; the input reads as it did. -/
def emptiesCostsSpec : ChangeSpec := { name := "emptiesCosts", fn := fun _ => fun
  | [d1, d2] => { results := [.lit (.bool true)], args := [d1, d2] }
  | _ => none }
def emptiesCostsRow : OpenClaim := { program := "ytabgmnmpdjnjoaa", sum := "d5d692e5214a3e11e909e371cc43441b60f1bcad9c50f33b39c65bbf9b7a894b", func := "thalweg/thalweglaw06.EmptiesCosts", spec := "emptiesCosts", unfollowed := true, recurses := true, apart := false }
def EmptiesCostsSaid : Prop := emptiesCostsRow.holds Try.pinned (OpenSpec.ofChange emptiesCostsSpec)

/-- ITS FALSE NEIGHBOUR: 'it returns false'. Refute it at one input. -/
def emptiesCostsWrong : ChangeSpec := { name := "emptiesCosts", fn := fun _ => fun
  | [d1, d2] => { results := [.lit (.bool false)], args := [d1, d2] }
  | _ => none }
def EmptiesCostsWrongFalsely : Prop := emptiesCostsRow.holds Try.pinned (OpenSpec.ofChange emptiesCostsWrong)

/-- 'thalweglaw06.EmptiesProves': WHATEVER THE INPUT: true; the input reads as it did. -/
def emptiesProvesSpec : ChangeSpec := { name := "emptiesProves", fn := fun _ => fun
  | [d1, d2, d3] => { results := [.lit (.bool true)], args := [d1, d2, d3] }
  | _ => none }
def emptiesProvesRow : OpenClaim := { program := "ytabgmnmpdjnjoaa", sum := "d5d692e5214a3e11e909e371cc43441b60f1bcad9c50f33b39c65bbf9b7a894b", func := "thalweg/thalweglaw06.EmptiesProves", spec := "emptiesProves", unfollowed := true, recurses := true, apart := false }
def EmptiesProvesSaid : Prop := emptiesProvesRow.holds Try.pinned (OpenSpec.ofChange emptiesProvesSpec)

/-- ITS FALSE NEIGHBOUR: 'it returns false'. Refute it at one input. -/
def emptiesProvesWrong : ChangeSpec := { name := "emptiesProves", fn := fun _ => fun
  | [d1, d2, d3] => { results := [.lit (.bool false)], args := [d1, d2, d3] }
  | _ => none }
def EmptiesProvesWrongFalsely : Prop := emptiesProvesRow.holds Try.pinned (OpenSpec.ofChange emptiesProvesWrong)

/-- 'thalweglaw06.EmptiesOverWeeks': WHATEVER THE INPUT: true; the input reads as it did. -/
def emptiesOverWeeksSpec : ChangeSpec := { name := "emptiesOverWeeks", fn := fun _ => fun
  | [d] => { results := [.lit (.bool true)], args := [d] }
  | _ => none }
def emptiesOverWeeksRow : OpenClaim := { program := "ytabgmnmpdjnjoaa", sum := "d5d692e5214a3e11e909e371cc43441b60f1bcad9c50f33b39c65bbf9b7a894b", func := "thalweg/thalweglaw06.EmptiesOverWeeks", spec := "emptiesOverWeeks", unfollowed := true, recurses := true, apart := false }
def EmptiesOverWeeksSaid : Prop := emptiesOverWeeksRow.holds Try.pinned (OpenSpec.ofChange emptiesOverWeeksSpec)

/-- ITS FALSE NEIGHBOUR: 'it returns false'. Refute it at one input. -/
def emptiesOverWeeksWrong : ChangeSpec := { name := "emptiesOverWeeks", fn := fun _ => fun
  | [d] => { results := [.lit (.bool false)], args := [d] }
  | _ => none }
def EmptiesOverWeeksWrongFalsely : Prop := emptiesOverWeeksRow.holds Try.pinned (OpenSpec.ofChange emptiesOverWeeksWrong)

/-- 'thalweglaw06.EmptiesLeast': WHATEVER THE INPUT: true; the input reads as it did. -/
def emptiesLeastSpec : ChangeSpec := { name := "emptiesLeast", fn := fun _ => fun
  | [d1, d2, d3] => { results := [.lit (.bool true)], args := [d1, d2, d3] }
  | _ => none }
def emptiesLeastRow : OpenClaim := { program := "ytabgmnmpdjnjoaa", sum := "d5d692e5214a3e11e909e371cc43441b60f1bcad9c50f33b39c65bbf9b7a894b", func := "thalweg/thalweglaw06.EmptiesLeast", spec := "emptiesLeast", unfollowed := true, recurses := true, apart := false }
def EmptiesLeastSaid : Prop := emptiesLeastRow.holds Try.pinned (OpenSpec.ofChange emptiesLeastSpec)

/-- ITS FALSE NEIGHBOUR: 'it returns false'. Refute it at one input. -/
def emptiesLeastWrong : ChangeSpec := { name := "emptiesLeast", fn := fun _ => fun
  | [d1, d2, d3] => { results := [.lit (.bool false)], args := [d1, d2, d3] }
  | _ => none }
def EmptiesLeastWrongFalsely : Prop := emptiesLeastRow.holds Try.pinned (OpenSpec.ofChange emptiesLeastWrong)

/- THE SECOND FORM. 'bulk': how many values and letters a reading holds, each counted each time it is reached (what is shared counts as often as it is met; a slice's spare places count too). A statement '..UptoSaid' is the law's where the arguments, and the package variables that the reading takes, are together of bulk at most 1048576: NARROWER than '..Said'. Prove '..Said' where nothing that the law and all that it calls make is longer than what came in: it says more and counts as full. Else prove '..UptoSaid'. A law counts once. -/
mutual
def uptoBulk {H : Type} : DataW H → Nat
  | .lit (.string bytes) => bytes.length + 1
  | .lit _ => 1
  | .nil => 1
  | .ptr d => uptoBulk d + 1
  | .slice elems spare => uptoBulkAll elems + uptoBulkAll spare + 1
  | .agg parts => uptoBulkAll parts + 1
  | .iface _ d => uptoBulk d + 1
  | .map entries => uptoBulkEntries entries + 1
  | .held _ => 1
def uptoBulkAll {H : Type} : List (DataW H) → Nat
  | [] => 0
  | d :: r => uptoBulk d + uptoBulkAll r
def uptoBulkEntries {H : Type} : List (Lit × DataW H) → Nat
  | [] => 0
  | x :: r => uptoBulkEntry x + uptoBulkEntries r
def uptoBulkEntry {H : Type} : Lit × DataW H → Nat
  | (.string bytes, d) => bytes.length + uptoBulk d + 1
  | (_, d) => uptoBulk d + 1
 end
def uptoSmall : (H : Type) → List (DataW H) → Bool := fun _ ds => decide (uptoBulkAll ds ≤ 1048576)
def OpenSpec.upto (s : _root_.Go.ChangeSpec) : _root_.Go.OpenSpec := { _root_.Go.OpenSpec.ofChange s with cond := some uptoSmall }

/-- 'thalweglaw06.EmptiesMoves', WHERE WHAT IT READS IS OF BULK AT MOST 1048576: true; the input reads as it did. -/
def emptiesMovesUptoRow : OpenClaim := { program := "ytabgmnmpdjnjoaa", sum := "d5d692e5214a3e11e909e371cc43441b60f1bcad9c50f33b39c65bbf9b7a894b", func := "thalweg/thalweglaw06.EmptiesMoves", spec := "emptiesMoves", unfollowed := true, recurses := true, apart := false, narrowed := true }
def EmptiesMovesUptoSaid : Prop := emptiesMovesUptoRow.holds Try.pinned (OpenSpec.upto emptiesMovesSpec)

/-- 'thalweglaw06.EmptiesLacks', WHERE WHAT IT READS IS OF BULK AT MOST 1048576: true; the input reads as it did. -/
def emptiesLacksUptoRow : OpenClaim := { program := "ytabgmnmpdjnjoaa", sum := "d5d692e5214a3e11e909e371cc43441b60f1bcad9c50f33b39c65bbf9b7a894b", func := "thalweg/thalweglaw06.EmptiesLacks", spec := "emptiesLacks", unfollowed := true, recurses := true, apart := false, narrowed := true }
def EmptiesLacksUptoSaid : Prop := emptiesLacksUptoRow.holds Try.pinned (OpenSpec.upto emptiesLacksSpec)

/-- 'thalweglaw06.EmptiesMore', WHERE WHAT IT READS IS OF BULK AT MOST 1048576: true; the input reads as it did. -/
def emptiesMoreUptoRow : OpenClaim := { program := "ytabgmnmpdjnjoaa", sum := "d5d692e5214a3e11e909e371cc43441b60f1bcad9c50f33b39c65bbf9b7a894b", func := "thalweg/thalweglaw06.EmptiesMore", spec := "emptiesMore", unfollowed := true, recurses := true, apart := false, narrowed := true }
def EmptiesMoreUptoSaid : Prop := emptiesMoreUptoRow.holds Try.pinned (OpenSpec.upto emptiesMoreSpec)

/-- 'thalweglaw06.EmptiesFew', WHERE WHAT IT READS IS OF BULK AT MOST 1048576: true; the input reads as it did. -/
def emptiesFewUptoRow : OpenClaim := { program := "ytabgmnmpdjnjoaa", sum := "d5d692e5214a3e11e909e371cc43441b60f1bcad9c50f33b39c65bbf9b7a894b", func := "thalweg/thalweglaw06.EmptiesFew", spec := "emptiesFew", unfollowed := true, recurses := true, apart := false, narrowed := true }
def EmptiesFewUptoSaid : Prop := emptiesFewUptoRow.holds Try.pinned (OpenSpec.upto emptiesFewSpec)

/-- 'thalweglaw06.EmptiesOneMore', WHERE WHAT IT READS IS OF BULK AT MOST 1048576: true; the input reads as it did. -/
def emptiesOneMoreUptoRow : OpenClaim := { program := "ytabgmnmpdjnjoaa", sum := "d5d692e5214a3e11e909e371cc43441b60f1bcad9c50f33b39c65bbf9b7a894b", func := "thalweg/thalweglaw06.EmptiesOneMore", spec := "emptiesOneMore", unfollowed := true, recurses := true, apart := false, narrowed := true }
def EmptiesOneMoreUptoSaid : Prop := emptiesOneMoreUptoRow.holds Try.pinned (OpenSpec.upto emptiesOneMoreSpec)

/-- 'thalweglaw06.EmptiesCosts', WHERE WHAT IT READS IS OF BULK AT MOST 1048576: true; the input reads as it did. -/
def emptiesCostsUptoRow : OpenClaim := { program := "ytabgmnmpdjnjoaa", sum := "d5d692e5214a3e11e909e371cc43441b60f1bcad9c50f33b39c65bbf9b7a894b", func := "thalweg/thalweglaw06.EmptiesCosts", spec := "emptiesCosts", unfollowed := true, recurses := true, apart := false, narrowed := true }
def EmptiesCostsUptoSaid : Prop := emptiesCostsUptoRow.holds Try.pinned (OpenSpec.upto emptiesCostsSpec)

/-- 'thalweglaw06.EmptiesProves', WHERE WHAT IT READS IS OF BULK AT MOST 1048576: true; the input reads as it did. -/
def emptiesProvesUptoRow : OpenClaim := { program := "ytabgmnmpdjnjoaa", sum := "d5d692e5214a3e11e909e371cc43441b60f1bcad9c50f33b39c65bbf9b7a894b", func := "thalweg/thalweglaw06.EmptiesProves", spec := "emptiesProves", unfollowed := true, recurses := true, apart := false, narrowed := true }
def EmptiesProvesUptoSaid : Prop := emptiesProvesUptoRow.holds Try.pinned (OpenSpec.upto emptiesProvesSpec)

/-- 'thalweglaw06.EmptiesOverWeeks', WHERE WHAT IT READS IS OF BULK AT MOST 1048576: true; the input reads as it did. -/
def emptiesOverWeeksUptoRow : OpenClaim := { program := "ytabgmnmpdjnjoaa", sum := "d5d692e5214a3e11e909e371cc43441b60f1bcad9c50f33b39c65bbf9b7a894b", func := "thalweg/thalweglaw06.EmptiesOverWeeks", spec := "emptiesOverWeeks", unfollowed := true, recurses := true, apart := false, narrowed := true }
def EmptiesOverWeeksUptoSaid : Prop := emptiesOverWeeksUptoRow.holds Try.pinned (OpenSpec.upto emptiesOverWeeksSpec)

/-- 'thalweglaw06.EmptiesLeast', WHERE WHAT IT READS IS OF BULK AT MOST 1048576: true; the input reads as it did. -/
def emptiesLeastUptoRow : OpenClaim := { program := "ytabgmnmpdjnjoaa", sum := "d5d692e5214a3e11e909e371cc43441b60f1bcad9c50f33b39c65bbf9b7a894b", func := "thalweg/thalweglaw06.EmptiesLeast", spec := "emptiesLeast", unfollowed := true, recurses := true, apart := false, narrowed := true }
def EmptiesLeastUptoSaid : Prop := emptiesLeastUptoRow.holds Try.pinned (OpenSpec.upto emptiesLeastSpec)

end Rows
end Go.Proofs.Ytabgmnmpdjnjoaa
