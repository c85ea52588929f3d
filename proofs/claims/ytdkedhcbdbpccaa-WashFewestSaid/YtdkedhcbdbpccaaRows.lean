/-
  No cell of these rows narrows 'for every input' (looked for: loops, veiled, ifaces, maps, wideKeys, modest, calm, conditions, laid).
  DERIVED. THE GIVEN ROWS OF THIS SEAT. 8 by the template 'for every input the law returns true; each argument reads behind the call as it read before'; 0 by the template 'total and deterministic' (their statements: YtdkedhcbdbpccaaTotals.lean).
  GIVEN WITH THE SEED: the statements are not yours to turn. If you find one false, say at which input.
  Laid BY PROGRAM, IN A SANDBOX (cutbox-rows.mjs): the forced cells as the released guide's own fill.sh prints them over the translation 47673d149fd9482c… (all of the seat's roots in one cut). By AI agents, Wed Nov 11 2026. No macro, syntax, notation, axiom, sorry.
-/
import Derived.Test.YtdkedhcbdbpccaaChecked
import GoSem.Claim
import GoSem.ClaimJoined
import GoSem.ClaimMapViews
import Derived.JoinedTies
import Derived.KernelRfl
namespace Go.Proofs.Ytdkedhcbdbpccaa
/- THE CELL 'sum', in the pinned program and in every row, IS THE sha256 OF THE DUMP (.gsa) THAT YtdkedhcbdbpccaaProg.lean LOADS. Nothing in Lean hashes anything: it is a label: what it is worth is what the hold of that sum in a sandbox is worth. -/
noncomputable def Try.pinned : Pinned := { name := "ytdkedhcbdbpccaa", sum := "47673d149fd9482c70d7dd1be60b5eadac19848e39b4beee799aa2fb21b08e8a", checked := Try.checked }
namespace Rows
def none {H : Type} : Left H := { results := [], args := [] }

/-- 'thalweglaw05.WashAudits': WHATEVER THE INPUT: true; the input reads as it did. -/
def washAuditsSpec : ChangeSpec := { name := "washAudits", fn := fun _ => fun
  | [d1, d2] => { results := [.lit (.bool true)], args := [d1, d2] }
  | _ => none }
def washAuditsRow : OpenClaim := { program := "ytdkedhcbdbpccaa", sum := "47673d149fd9482c70d7dd1be60b5eadac19848e39b4beee799aa2fb21b08e8a", func := "thalweg/thalweglaw05.WashAudits", spec := "washAudits", unfollowed := true, recurses := true, plainKeys := false, apart := false }
def WashAuditsSaid : Prop := washAuditsRow.holds Try.pinned (OpenSpec.ofChange washAuditsSpec)

/-- ITS FALSE NEIGHBOUR: 'it returns false'. Refute it at one input. -/
def washAuditsWrong : ChangeSpec := { name := "washAudits", fn := fun _ => fun
  | [d1, d2] => { results := [.lit (.bool false)], args := [d1, d2] }
  | _ => none }
def WashAuditsWrongFalsely : Prop := washAuditsRow.holds Try.pinned (OpenSpec.ofChange washAuditsWrong)

/-- 'thalweglaw05.WashPlans': WHATEVER THE INPUT: true; the input reads as it did. -/
def washPlansSpec : ChangeSpec := { name := "washPlans", fn := fun _ => fun
  | [d1, d2, d3] => { results := [.lit (.bool true)], args := [d1, d2, d3] }
  | _ => none }
def washPlansRow : OpenClaim := { program := "ytdkedhcbdbpccaa", sum := "47673d149fd9482c70d7dd1be60b5eadac19848e39b4beee799aa2fb21b08e8a", func := "thalweg/thalweglaw05.WashPlans", spec := "washPlans", unfollowed := true, recurses := true, plainKeys := false, apart := false }
def WashPlansSaid : Prop := washPlansRow.holds Try.pinned (OpenSpec.ofChange washPlansSpec)

/-- ITS FALSE NEIGHBOUR: 'it returns false'. Refute it at one input. -/
def washPlansWrong : ChangeSpec := { name := "washPlans", fn := fun _ => fun
  | [d1, d2, d3] => { results := [.lit (.bool false)], args := [d1, d2, d3] }
  | _ => none }
def WashPlansWrongFalsely : Prop := washPlansRow.holds Try.pinned (OpenSpec.ofChange washPlansWrong)

/-- 'thalweglaw05.WashBetter': WHATEVER THE INPUT: true; the input reads as it did. -/
def washBetterSpec : ChangeSpec := { name := "washBetter", fn := fun _ => fun
  | [d1, d2, d3] => { results := [.lit (.bool true)], args := [d1, d2, d3] }
  | _ => none }
def washBetterRow : OpenClaim := { program := "ytdkedhcbdbpccaa", sum := "47673d149fd9482c70d7dd1be60b5eadac19848e39b4beee799aa2fb21b08e8a", func := "thalweg/thalweglaw05.WashBetter", spec := "washBetter", unfollowed := true, recurses := true, plainKeys := false, apart := false }
def WashBetterSaid : Prop := washBetterRow.holds Try.pinned (OpenSpec.ofChange washBetterSpec)

/-- ITS FALSE NEIGHBOUR: 'it returns false'. Refute it at one input. -/
def washBetterWrong : ChangeSpec := { name := "washBetter", fn := fun _ => fun
  | [d1, d2, d3] => { results := [.lit (.bool false)], args := [d1, d2, d3] }
  | _ => none }
def WashBetterWrongFalsely : Prop := washBetterRow.holds Try.pinned (OpenSpec.ofChange washBetterWrong)

/-- 'thalweglaw05.WashResidues': WHATEVER THE INPUT: true; the input reads as it did. -/
def washResiduesSpec : ChangeSpec := { name := "washResidues", fn := fun _ => fun
  | [d1, d2, d3] => { results := [.lit (.bool true)], args := [d1, d2, d3] }
  | _ => none }
def washResiduesRow : OpenClaim := { program := "ytdkedhcbdbpccaa", sum := "47673d149fd9482c70d7dd1be60b5eadac19848e39b4beee799aa2fb21b08e8a", func := "thalweg/thalweglaw05.WashResidues", spec := "washResidues", unfollowed := true, recurses := true, plainKeys := false, apart := false }
def WashResiduesSaid : Prop := washResiduesRow.holds Try.pinned (OpenSpec.ofChange washResiduesSpec)

/-- ITS FALSE NEIGHBOUR: 'it returns false'. Refute it at one input. -/
def washResiduesWrong : ChangeSpec := { name := "washResidues", fn := fun _ => fun
  | [d1, d2, d3] => { results := [.lit (.bool false)], args := [d1, d2, d3] }
  | _ => none }
def WashResiduesWrongFalsely : Prop := washResiduesRow.holds Try.pinned (OpenSpec.ofChange washResiduesWrong)

/-- 'thalweglaw05.WashTruths': WHATEVER THE INPUT: true; the input reads as it did. -/
def washTruthsSpec : ChangeSpec := { name := "washTruths", fn := fun _ => fun
  | [d1, d2, d3] => { results := [.lit (.bool true)], args := [d1, d2, d3] }
  | _ => none }
def washTruthsRow : OpenClaim := { program := "ytdkedhcbdbpccaa", sum := "47673d149fd9482c70d7dd1be60b5eadac19848e39b4beee799aa2fb21b08e8a", func := "thalweg/thalweglaw05.WashTruths", spec := "washTruths", unfollowed := true, recurses := true, plainKeys := false, apart := false }
def WashTruthsSaid : Prop := washTruthsRow.holds Try.pinned (OpenSpec.ofChange washTruthsSpec)

/-- ITS FALSE NEIGHBOUR: 'it returns false'. Refute it at one input. -/
def washTruthsWrong : ChangeSpec := { name := "washTruths", fn := fun _ => fun
  | [d1, d2, d3] => { results := [.lit (.bool false)], args := [d1, d2, d3] }
  | _ => none }
def WashTruthsWrongFalsely : Prop := washTruthsRow.holds Try.pinned (OpenSpec.ofChange washTruthsWrong)

/-- 'thalweglaw05.WashFleets': WHATEVER THE INPUT: true; the input reads as it did. -/
def washFleetsSpec : ChangeSpec := { name := "washFleets", fn := fun _ => fun
  | [d1, d2, d3] => { results := [.lit (.bool true)], args := [d1, d2, d3] }
  | _ => none }
def washFleetsRow : OpenClaim := { program := "ytdkedhcbdbpccaa", sum := "47673d149fd9482c70d7dd1be60b5eadac19848e39b4beee799aa2fb21b08e8a", func := "thalweg/thalweglaw05.WashFleets", spec := "washFleets", unfollowed := true, recurses := true, plainKeys := false, apart := false }
def WashFleetsSaid : Prop := washFleetsRow.holds Try.pinned (OpenSpec.ofChange washFleetsSpec)

/-- ITS FALSE NEIGHBOUR: 'it returns false'. Refute it at one input. -/
def washFleetsWrong : ChangeSpec := { name := "washFleets", fn := fun _ => fun
  | [d1, d2, d3] => { results := [.lit (.bool false)], args := [d1, d2, d3] }
  | _ => none }
def WashFleetsWrongFalsely : Prop := washFleetsRow.holds Try.pinned (OpenSpec.ofChange washFleetsWrong)

/-- 'thalweglaw05.WashFewest': WHATEVER THE INPUT: true; the input reads as it did. -/
def washFewestSpec : ChangeSpec := { name := "washFewest", fn := fun _ => fun
  | [d1, d2, d3] => { results := [.lit (.bool true)], args := [d1, d2, d3] }
  | _ => none }
def washFewestRow : OpenClaim := { program := "ytdkedhcbdbpccaa", sum := "47673d149fd9482c70d7dd1be60b5eadac19848e39b4beee799aa2fb21b08e8a", func := "thalweg/thalweglaw05.WashFewest", spec := "washFewest", unfollowed := true, recurses := true, plainKeys := false, apart := false }
def WashFewestSaid : Prop := washFewestRow.holds Try.pinned (OpenSpec.ofChange washFewestSpec)

/-- ITS FALSE NEIGHBOUR: 'it returns false'. Refute it at one input. -/
def washFewestWrong : ChangeSpec := { name := "washFewest", fn := fun _ => fun
  | [d1, d2, d3] => { results := [.lit (.bool false)], args := [d1, d2, d3] }
  | _ => none }
def WashFewestWrongFalsely : Prop := washFewestRow.holds Try.pinned (OpenSpec.ofChange washFewestWrong)

/-- 'thalweglaw05.WashNever': WHATEVER THE INPUT: true; the input reads as it did. -/
def washNeverSpec : ChangeSpec := { name := "washNever", fn := fun _ => fun
  | [d1, d2, d3] => { results := [.lit (.bool true)], args := [d1, d2, d3] }
  | _ => none }
def washNeverRow : OpenClaim := { program := "ytdkedhcbdbpccaa", sum := "47673d149fd9482c70d7dd1be60b5eadac19848e39b4beee799aa2fb21b08e8a", func := "thalweg/thalweglaw05.WashNever", spec := "washNever", unfollowed := true, recurses := true, plainKeys := false, apart := false }
def WashNeverSaid : Prop := washNeverRow.holds Try.pinned (OpenSpec.ofChange washNeverSpec)

/-- ITS FALSE NEIGHBOUR: 'it returns false'. Refute it at one input. -/
def washNeverWrong : ChangeSpec := { name := "washNever", fn := fun _ => fun
  | [d1, d2, d3] => { results := [.lit (.bool false)], args := [d1, d2, d3] }
  | _ => none }
def WashNeverWrongFalsely : Prop := washNeverRow.holds Try.pinned (OpenSpec.ofChange washNeverWrong)

/- THE SECOND FORM. 'bulk': how many values and letters a reading holds, each counted each time it is reached (what is shared counts as often as it is met; a slice's spare places count too). A statement '..UptoSaid' is the law's where the arguments, and the package variables that the reading takes, are together of bulk at most 1048576: NARROWER than '..Said'. Prove '..Said' where nothing that the law and all that it calls make is longer than what came in: it says more and counts as full. Else prove '..UptoSaid'. A law counts once. -/
mutual
def uptoBulk {H : Type} : DataW H → Nat
  | .lit (.string bytes) => bytes.length + 1
  | .lit _ => 1
  | .nil => 1
  | .ptr d => uptoBulk d + 1
  | .slice elems spare => uptoBulkAll elems + uptoBulkAll spare + 1
  | .agg parts => uptoBulkAll parts + 1
  | .iface _ d => uptoBulk d + 1
  | .map entries => uptoBulkEntries entries + 1
  | .held _ => 1
def uptoBulkAll {H : Type} : List (DataW H) → Nat
  | [] => 0
  | d :: r => uptoBulk d + uptoBulkAll r
def uptoBulkEntries {H : Type} : List (Lit × DataW H) → Nat
  | [] => 0
  | x :: r => uptoBulkEntry x + uptoBulkEntries r
def uptoBulkEntry {H : Type} : Lit × DataW H → Nat
  | (.string bytes, d) => bytes.length + uptoBulk d + 1
  | (_, d) => uptoBulk d + 1
 end
def uptoSmall : (H : Type) → List (DataW H) → Bool := fun _ ds => decide (uptoBulkAll ds ≤ 1048576)
def OpenSpec.upto (s : _root_.Go.ChangeSpec) : _root_.Go.OpenSpec := { _root_.Go.OpenSpec.ofChange s with cond := some uptoSmall }

/-- 'thalweglaw05.WashAudits', WHERE WHAT IT READS IS OF BULK AT MOST 1048576: true; the input reads as it did. -/
def washAuditsUptoRow : OpenClaim := { program := "ytdkedhcbdbpccaa", sum := "47673d149fd9482c70d7dd1be60b5eadac19848e39b4beee799aa2fb21b08e8a", func := "thalweg/thalweglaw05.WashAudits", spec := "washAudits", unfollowed := true, recurses := true, plainKeys := false, apart := false, narrowed := true }
def WashAuditsUptoSaid : Prop := washAuditsUptoRow.holds Try.pinned (OpenSpec.upto washAuditsSpec)

/-- 'thalweglaw05.WashPlans', WHERE WHAT IT READS IS OF BULK AT MOST 1048576: true; the input reads as it did. -/
def washPlansUptoRow : OpenClaim := { program := "ytdkedhcbdbpccaa", sum := "47673d149fd9482c70d7dd1be60b5eadac19848e39b4beee799aa2fb21b08e8a", func := "thalweg/thalweglaw05.WashPlans", spec := "washPlans", unfollowed := true, recurses := true, plainKeys := false, apart := false, narrowed := true }
def WashPlansUptoSaid : Prop := washPlansUptoRow.holds Try.pinned (OpenSpec.upto washPlansSpec)

/-- 'thalweglaw05.WashBetter', WHERE WHAT IT READS IS OF BULK AT MOST 1048576: true; the input reads as it did. -/
def washBetterUptoRow : OpenClaim := { program := "ytdkedhcbdbpccaa", sum := "47673d149fd9482c70d7dd1be60b5eadac19848e39b4beee799aa2fb21b08e8a", func := "thalweg/thalweglaw05.WashBetter", spec := "washBetter", unfollowed := true, recurses := true, plainKeys := false, apart := false, narrowed := true }
def WashBetterUptoSaid : Prop := washBetterUptoRow.holds Try.pinned (OpenSpec.upto washBetterSpec)

/-- 'thalweglaw05.WashResidues', WHERE WHAT IT READS IS OF BULK AT MOST 1048576: true; the input reads as it did. -/
def washResiduesUptoRow : OpenClaim := { program := "ytdkedhcbdbpccaa", sum := "47673d149fd9482c70d7dd1be60b5eadac19848e39b4beee799aa2fb21b08e8a", func := "thalweg/thalweglaw05.WashResidues", spec := "washResidues", unfollowed := true, recurses := true, plainKeys := false, apart := false, narrowed := true }
def WashResiduesUptoSaid : Prop := washResiduesUptoRow.holds Try.pinned (OpenSpec.upto washResiduesSpec)

/-- 'thalweglaw05.WashTruths', WHERE WHAT IT READS IS OF BULK AT MOST 1048576: true; the input reads as it did. -/
def washTruthsUptoRow : OpenClaim := { program := "ytdkedhcbdbpccaa", sum := "47673d149fd9482c70d7dd1be60b5eadac19848e39b4beee799aa2fb21b08e8a", func := "thalweg/thalweglaw05.WashTruths", spec := "washTruths", unfollowed := true, recurses := true, plainKeys := false, apart := false, narrowed := true }
def WashTruthsUptoSaid : Prop := washTruthsUptoRow.holds Try.pinned (OpenSpec.upto washTruthsSpec)

/-- 'thalweglaw05.WashFleets', WHERE WHAT IT READS IS OF BULK AT MOST 1048576: true; the input reads as it did. -/
def washFleetsUptoRow : OpenClaim := { program := "ytdkedhcbdbpccaa", sum := "47673d149fd9482c70d7dd1be60b5eadac19848e39b4beee799aa2fb21b08e8a", func := "thalweg/thalweglaw05.WashFleets", spec := "washFleets", unfollowed := true, recurses := true, plainKeys := false, apart := false, narrowed := true }
def WashFleetsUptoSaid : Prop := washFleetsUptoRow.holds Try.pinned (OpenSpec.upto washFleetsSpec)

/-- 'thalweglaw05.WashFewest', WHERE WHAT IT READS IS OF BULK AT MOST 1048576: true; the input reads as it did. -/
def washFewestUptoRow : OpenClaim := { program := "ytdkedhcbdbpccaa", sum := "47673d149fd9482c70d7dd1be60b5eadac19848e39b4beee799aa2fb21b08e8a", func := "thalweg/thalweglaw05.WashFewest", spec := "washFewest", unfollowed := true, recurses := true, plainKeys := false, apart := false, narrowed := true }
def WashFewestUptoSaid : Prop := washFewestUptoRow.holds Try.pinned (OpenSpec.upto washFewestSpec)

/-- 'thalweglaw05.WashNever', WHERE WHAT IT READS IS OF BULK AT MOST 1048576: true; the input reads as it did. -/
def washNeverUptoRow : OpenClaim := { program := "ytdkedhcbdbpccaa", sum := "47673d149fd9482c70d7dd1be60b5eadac19848e39b4beee799aa2fb21b08e8a", func := "thalweg/thalweglaw05.WashNever", spec := "washNever", unfollowed := true, recurses := true, plainKeys := false, apart := false, narrowed := true }
def WashNeverUptoSaid : Prop := washNeverUptoRow.holds Try.pinned (OpenSpec.upto washNeverSpec)

end Rows
end Go.Proofs.Ytdkedhcbdbpccaa
