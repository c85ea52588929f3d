/-
  No cell of these rows narrows 'for every input' (looked for: loops, veiled, ifaces, maps, wideKeys, modest, calm, conditions, laid).
  DERIVED. THE GIVEN ROWS OF THIS SEAT. 8 by the template 'for every input the law returns true; each argument reads behind the call as it read before'; 0 by the template 'total and deterministic' (their statements: YtmaiiigijjfjfaaTotals.lean).
  GIVEN WITH THE SEED: the statements are not yours to turn. If you find one false, say at which input.
  Laid BY PROGRAM, IN A SANDBOX (cutbox-rows.mjs): the forced cells as the released guide's own fill.sh prints them over the translation 4b564b147dc0816c… (all of the seat's roots in one cut). By AI agents, Wed Nov 11 2026. No macro, syntax, notation, axiom, sorry.
-/
import Derived.Test.YtmaiiigijjfjfaaChecked
import GoSem.Claim
import GoSem.ClaimJoined
import GoSem.ClaimMapViews
import Derived.JoinedTies
import Derived.KernelRfl
namespace Go.Proofs.Ytmaiiigijjfjfaa
/- THE CELL 'sum', in the pinned program and in every row, IS THE sha256 OF THE DUMP (.gsa) THAT YtmaiiigijjfjfaaProg.lean LOADS. Nothing in Lean hashes anything: it is a label: what it is worth is what the hold of that sum in a sandbox is worth. -/
noncomputable def Try.pinned : Pinned := { name := "ytmaiiigijjfjfaa", sum := "4b564b147dc0816c4938c29ee9b7deea3cc8eda25ccec2d9d5d6bb7e238e416d", checked := Try.checked }
namespace Rows
def none {H : Type} : Left H := { results := [], args := [] }

/-- 'thalweglaw10.WitnessProofs': WHATEVER THE INPUT: true; the input reads as it did. -/
def witnessProofsSpec : ChangeSpec := { name := "witnessProofs", fn := fun _ => fun
  | [d1, d2] => { results := [.lit (.bool true)], args := [d1, d2] }
  | _ => none }
def witnessProofsRow : OpenClaim := { program := "ytmaiiigijjfjfaa", sum := "4b564b147dc0816c4938c29ee9b7deea3cc8eda25ccec2d9d5d6bb7e238e416d", func := "thalweg/thalweglaw10.WitnessProofs", spec := "witnessProofs", unfollowed := true, recurses := true, apart := false }
def WitnessProofsSaid : Prop := witnessProofsRow.holds Try.pinned (OpenSpec.ofChange witnessProofsSpec)

/-- ITS FALSE NEIGHBOUR: 'it returns false'. Refute it at one input. -/
def witnessProofsWrong : ChangeSpec := { name := "witnessProofs", fn := fun _ => fun
  | [d1, d2] => { results := [.lit (.bool false)], args := [d1, d2] }
  | _ => none }
def WitnessProofsWrongFalsely : Prop := witnessProofsRow.holds Try.pinned (OpenSpec.ofChange witnessProofsWrong)

/-- 'thalweglaw10.WitnessCourses': WHATEVER THE INPUT: true; the input reads as it did. -/
def witnessCoursesSpec : ChangeSpec := { name := "witnessCourses", fn := fun _ => fun
  | [d] => { results := [.lit (.bool true)], args := [d] }
  | _ => none }
def witnessCoursesRow : OpenClaim := { program := "ytmaiiigijjfjfaa", sum := "4b564b147dc0816c4938c29ee9b7deea3cc8eda25ccec2d9d5d6bb7e238e416d", func := "thalweg/thalweglaw10.WitnessCourses", spec := "witnessCourses", unfollowed := true, recurses := true, apart := false }
def WitnessCoursesSaid : Prop := witnessCoursesRow.holds Try.pinned (OpenSpec.ofChange witnessCoursesSpec)

/-- ITS FALSE NEIGHBOUR: 'it returns false'. Refute it at one input. -/
def witnessCoursesWrong : ChangeSpec := { name := "witnessCourses", fn := fun _ => fun
  | [d] => { results := [.lit (.bool false)], args := [d] }
  | _ => none }
def WitnessCoursesWrongFalsely : Prop := witnessCoursesRow.holds Try.pinned (OpenSpec.ofChange witnessCoursesWrong)

/-- 'thalweglaw10.WitnessChecks': WHATEVER THE INPUT: true; the input reads as it did. -/
def witnessChecksSpec : ChangeSpec := { name := "witnessChecks", fn := fun _ => fun
  | [d1, d2, d3] => { results := [.lit (.bool true)], args := [d1, d2, d3] }
  | _ => none }
def witnessChecksRow : OpenClaim := { program := "ytmaiiigijjfjfaa", sum := "4b564b147dc0816c4938c29ee9b7deea3cc8eda25ccec2d9d5d6bb7e238e416d", func := "thalweg/thalweglaw10.WitnessChecks", spec := "witnessChecks", unfollowed := true, recurses := true, apart := false }
def WitnessChecksSaid : Prop := witnessChecksRow.holds Try.pinned (OpenSpec.ofChange witnessChecksSpec)

/-- ITS FALSE NEIGHBOUR: 'it returns false'. Refute it at one input. -/
def witnessChecksWrong : ChangeSpec := { name := "witnessChecks", fn := fun _ => fun
  | [d1, d2, d3] => { results := [.lit (.bool false)], args := [d1, d2, d3] }
  | _ => none }
def WitnessChecksWrongFalsely : Prop := witnessChecksRow.holds Try.pinned (OpenSpec.ofChange witnessChecksWrong)

/-- 'thalweglaw10.WitnessEnds': WHATEVER THE INPUT: true; the input reads as it did. -/
def witnessEndsSpec : ChangeSpec := { name := "witnessEnds", fn := fun _ => fun
  | [d1, d2, d3] => { results := [.lit (.bool true)], args := [d1, d2, d3] }
  | _ => none }
def witnessEndsRow : OpenClaim := { program := "ytmaiiigijjfjfaa", sum := "4b564b147dc0816c4938c29ee9b7deea3cc8eda25ccec2d9d5d6bb7e238e416d", func := "thalweg/thalweglaw10.WitnessEnds", spec := "witnessEnds", unfollowed := true, recurses := true, apart := false }
def WitnessEndsSaid : Prop := witnessEndsRow.holds Try.pinned (OpenSpec.ofChange witnessEndsSpec)

/-- ITS FALSE NEIGHBOUR: 'it returns false'. Refute it at one input. -/
def witnessEndsWrong : ChangeSpec := { name := "witnessEnds", fn := fun _ => fun
  | [d1, d2, d3] => { results := [.lit (.bool false)], args := [d1, d2, d3] }
  | _ => none }
def WitnessEndsWrongFalsely : Prop := witnessEndsRow.holds Try.pinned (OpenSpec.ofChange witnessEndsWrong)

/-- 'thalweglaw10.WitnessRings': WHATEVER THE INPUT: true; the input reads as it did. -/
def witnessRingsSpec : ChangeSpec := { name := "witnessRings", fn := fun _ => fun
  | [d1, d2] => { results := [.lit (.bool true)], args := [d1, d2] }
  | _ => none }
def witnessRingsRow : OpenClaim := { program := "ytmaiiigijjfjfaa", sum := "4b564b147dc0816c4938c29ee9b7deea3cc8eda25ccec2d9d5d6bb7e238e416d", func := "thalweg/thalweglaw10.WitnessRings", spec := "witnessRings", unfollowed := true, recurses := true, apart := false }
def WitnessRingsSaid : Prop := witnessRingsRow.holds Try.pinned (OpenSpec.ofChange witnessRingsSpec)

/-- ITS FALSE NEIGHBOUR: 'it returns false'. Refute it at one input. -/
def witnessRingsWrong : ChangeSpec := { name := "witnessRings", fn := fun _ => fun
  | [d1, d2] => { results := [.lit (.bool false)], args := [d1, d2] }
  | _ => none }
def WitnessRingsWrongFalsely : Prop := witnessRingsRow.holds Try.pinned (OpenSpec.ofChange witnessRingsWrong)

/-- 'thalweglaw10.WitnessWrongs': WHATEVER THE INPUT: true; the input reads as it did. -/
def witnessWrongsSpec : ChangeSpec := { name := "witnessWrongs", fn := fun _ => fun
  | [d] => { results := [.lit (.bool true)], args := [d] }
  | _ => none }
def witnessWrongsRow : OpenClaim := { program := "ytmaiiigijjfjfaa", sum := "4b564b147dc0816c4938c29ee9b7deea3cc8eda25ccec2d9d5d6bb7e238e416d", func := "thalweg/thalweglaw10.WitnessWrongs", spec := "witnessWrongs", unfollowed := true, recurses := true, apart := false }
def WitnessWrongsSaid : Prop := witnessWrongsRow.holds Try.pinned (OpenSpec.ofChange witnessWrongsSpec)

/-- ITS FALSE NEIGHBOUR: 'it returns false'. Refute it at one input. -/
def witnessWrongsWrong : ChangeSpec := { name := "witnessWrongs", fn := fun _ => fun
  | [d] => { results := [.lit (.bool false)], args := [d] }
  | _ => none }
def WitnessWrongsWrongFalsely : Prop := witnessWrongsRow.holds Try.pinned (OpenSpec.ofChange witnessWrongsWrong)

/-- 'thalweglaw10.WitnessFewer': WHATEVER THE INPUT: true; the input reads as it did. -/
def witnessFewerSpec : ChangeSpec := { name := "witnessFewer", fn := fun _ => fun
  | [d1, d2] => { results := [.lit (.bool true)], args := [d1, d2] }
  | _ => none }
def witnessFewerRow : OpenClaim := { program := "ytmaiiigijjfjfaa", sum := "4b564b147dc0816c4938c29ee9b7deea3cc8eda25ccec2d9d5d6bb7e238e416d", func := "thalweg/thalweglaw10.WitnessFewer", spec := "witnessFewer", unfollowed := true, recurses := true, apart := false }
def WitnessFewerSaid : Prop := witnessFewerRow.holds Try.pinned (OpenSpec.ofChange witnessFewerSpec)

/-- ITS FALSE NEIGHBOUR: 'it returns false'. Refute it at one input. -/
def witnessFewerWrong : ChangeSpec := { name := "witnessFewer", fn := fun _ => fun
  | [d1, d2] => { results := [.lit (.bool false)], args := [d1, d2] }
  | _ => none }
def WitnessFewerWrongFalsely : Prop := witnessFewerRow.holds Try.pinned (OpenSpec.ofChange witnessFewerWrong)

/-- 'thalweglaw10.WitnessTruths': WHATEVER THE INPUT: true; the input reads as it did. -/
def witnessTruthsSpec : ChangeSpec := { name := "witnessTruths", fn := fun _ => fun
  | [d1, d2] => { results := [.lit (.bool true)], args := [d1, d2] }
  | _ => none }
def witnessTruthsRow : OpenClaim := { program := "ytmaiiigijjfjfaa", sum := "4b564b147dc0816c4938c29ee9b7deea3cc8eda25ccec2d9d5d6bb7e238e416d", func := "thalweg/thalweglaw10.WitnessTruths", spec := "witnessTruths", unfollowed := true, recurses := true, apart := false }
def WitnessTruthsSaid : Prop := witnessTruthsRow.holds Try.pinned (OpenSpec.ofChange witnessTruthsSpec)

/-- ITS FALSE NEIGHBOUR: 'it returns false'. Refute it at one input. -/
def witnessTruthsWrong : ChangeSpec := { name := "witnessTruths", fn := fun _ => fun
  | [d1, d2] => { results := [.lit (.bool false)], args := [d1, d2] }
  | _ => none }
def WitnessTruthsWrongFalsely : Prop := witnessTruthsRow.holds Try.pinned (OpenSpec.ofChange witnessTruthsWrong)

/- THE SECOND FORM. 'bulk': how many values and letters a reading holds, each counted each time it is reached (what is shared counts as often as it is met; a slice's spare places count too). A statement '..UptoSaid' is the law's where the arguments, and the package variables that the reading takes, are together of bulk at most 1048576: NARROWER than '..Said'. Prove '..Said' where nothing that the law and all that it calls make is longer than what came in: it says more and counts as full. Else prove '..UptoSaid'. A law counts once. -/
mutual
def uptoBulk {H : Type} : DataW H → Nat
  | .lit (.string bytes) => bytes.length + 1
  | .lit _ => 1
  | .nil => 1
  | .ptr d => uptoBulk d + 1
  | .slice elems spare => uptoBulkAll elems + uptoBulkAll spare + 1
  | .agg parts => uptoBulkAll parts + 1
  | .iface _ d => uptoBulk d + 1
  | .map entries => uptoBulkEntries entries + 1
  | .held _ => 1
def uptoBulkAll {H : Type} : List (DataW H) → Nat
  | [] => 0
  | d :: r => uptoBulk d + uptoBulkAll r
def uptoBulkEntries {H : Type} : List (Lit × DataW H) → Nat
  | [] => 0
  | x :: r => uptoBulkEntry x + uptoBulkEntries r
def uptoBulkEntry {H : Type} : Lit × DataW H → Nat
  | (.string bytes, d) => bytes.length + uptoBulk d + 1
  | (_, d) => uptoBulk d + 1
 end
def uptoSmall : (H : Type) → List (DataW H) → Bool := fun _ ds => decide (uptoBulkAll ds ≤ 1048576)
def OpenSpec.upto (s : _root_.Go.ChangeSpec) : _root_.Go.OpenSpec := { _root_.Go.OpenSpec.ofChange s with cond := some uptoSmall }

/-- 'thalweglaw10.WitnessProofs', WHERE WHAT IT READS IS OF BULK AT MOST 1048576: true; the input reads as it did. -/
def witnessProofsUptoRow : OpenClaim := { program := "ytmaiiigijjfjfaa", sum := "4b564b147dc0816c4938c29ee9b7deea3cc8eda25ccec2d9d5d6bb7e238e416d", func := "thalweg/thalweglaw10.WitnessProofs", spec := "witnessProofs", unfollowed := true, recurses := true, apart := false, narrowed := true }
def WitnessProofsUptoSaid : Prop := witnessProofsUptoRow.holds Try.pinned (OpenSpec.upto witnessProofsSpec)

/-- 'thalweglaw10.WitnessCourses', WHERE WHAT IT READS IS OF BULK AT MOST 1048576: true; the input reads as it did. -/
def witnessCoursesUptoRow : OpenClaim := { program := "ytmaiiigijjfjfaa", sum := "4b564b147dc0816c4938c29ee9b7deea3cc8eda25ccec2d9d5d6bb7e238e416d", func := "thalweg/thalweglaw10.WitnessCourses", spec := "witnessCourses", unfollowed := true, recurses := true, apart := false, narrowed := true }
def WitnessCoursesUptoSaid : Prop := witnessCoursesUptoRow.holds Try.pinned (OpenSpec.upto witnessCoursesSpec)

/-- 'thalweglaw10.WitnessChecks', WHERE WHAT IT READS IS OF BULK AT MOST 1048576: true; the input reads as it did. -/
def witnessChecksUptoRow : OpenClaim := { program := "ytmaiiigijjfjfaa", sum := "4b564b147dc0816c4938c29ee9b7deea3cc8eda25ccec2d9d5d6bb7e238e416d", func := "thalweg/thalweglaw10.WitnessChecks", spec := "witnessChecks", unfollowed := true, recurses := true, apart := false, narrowed := true }
def WitnessChecksUptoSaid : Prop := witnessChecksUptoRow.holds Try.pinned (OpenSpec.upto witnessChecksSpec)

/-- 'thalweglaw10.WitnessEnds', WHERE WHAT IT READS IS OF BULK AT MOST 1048576: true; the input reads as it did. -/
def witnessEndsUptoRow : OpenClaim := { program := "ytmaiiigijjfjfaa", sum := "4b564b147dc0816c4938c29ee9b7deea3cc8eda25ccec2d9d5d6bb7e238e416d", func := "thalweg/thalweglaw10.WitnessEnds", spec := "witnessEnds", unfollowed := true, recurses := true, apart := false, narrowed := true }
def WitnessEndsUptoSaid : Prop := witnessEndsUptoRow.holds Try.pinned (OpenSpec.upto witnessEndsSpec)

/-- 'thalweglaw10.WitnessRings', WHERE WHAT IT READS IS OF BULK AT MOST 1048576: true; the input reads as it did. -/
def witnessRingsUptoRow : OpenClaim := { program := "ytmaiiigijjfjfaa", sum := "4b564b147dc0816c4938c29ee9b7deea3cc8eda25ccec2d9d5d6bb7e238e416d", func := "thalweg/thalweglaw10.WitnessRings", spec := "witnessRings", unfollowed := true, recurses := true, apart := false, narrowed := true }
def WitnessRingsUptoSaid : Prop := witnessRingsUptoRow.holds Try.pinned (OpenSpec.upto witnessRingsSpec)

/-- 'thalweglaw10.WitnessWrongs', WHERE WHAT IT READS IS OF BULK AT MOST 1048576: true; the input reads as it did. -/
def witnessWrongsUptoRow : OpenClaim := { program := "ytmaiiigijjfjfaa", sum := "4b564b147dc0816c4938c29ee9b7deea3cc8eda25ccec2d9d5d6bb7e238e416d", func := "thalweg/thalweglaw10.WitnessWrongs", spec := "witnessWrongs", unfollowed := true, recurses := true, apart := false, narrowed := true }
def WitnessWrongsUptoSaid : Prop := witnessWrongsUptoRow.holds Try.pinned (OpenSpec.upto witnessWrongsSpec)

/-- 'thalweglaw10.WitnessFewer', WHERE WHAT IT READS IS OF BULK AT MOST 1048576: true; the input reads as it did. -/
def witnessFewerUptoRow : OpenClaim := { program := "ytmaiiigijjfjfaa", sum := "4b564b147dc0816c4938c29ee9b7deea3cc8eda25ccec2d9d5d6bb7e238e416d", func := "thalweg/thalweglaw10.WitnessFewer", spec := "witnessFewer", unfollowed := true, recurses := true, apart := false, narrowed := true }
def WitnessFewerUptoSaid : Prop := witnessFewerUptoRow.holds Try.pinned (OpenSpec.upto witnessFewerSpec)

/-- 'thalweglaw10.WitnessTruths', WHERE WHAT IT READS IS OF BULK AT MOST 1048576: true; the input reads as it did. -/
def witnessTruthsUptoRow : OpenClaim := { program := "ytmaiiigijjfjfaa", sum := "4b564b147dc0816c4938c29ee9b7deea3cc8eda25ccec2d9d5d6bb7e238e416d", func := "thalweg/thalweglaw10.WitnessTruths", spec := "witnessTruths", unfollowed := true, recurses := true, apart := false, narrowed := true }
def WitnessTruthsUptoSaid : Prop := witnessTruthsUptoRow.holds Try.pinned (OpenSpec.upto witnessTruthsSpec)

end Rows
end Go.Proofs.Ytmaiiigijjfjfaa
