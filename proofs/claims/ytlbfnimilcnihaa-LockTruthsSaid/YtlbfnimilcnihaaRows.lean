/-
  No cell of these rows narrows 'for every input' (looked for: loops, veiled, ifaces, maps, wideKeys, modest, calm, conditions, laid).
  DERIVED. THE GIVEN ROWS OF THIS SEAT. 9 by the template 'for every input the law returns true; each argument reads behind the call as it read before'; 0 by the template 'total and deterministic' (their statements: YtlbfnimilcnihaaTotals.lean).
  GIVEN WITH THE SEED: the statements are not yours to turn. If you find one false, say at which input.
  Laid BY PROGRAM, IN A SANDBOX (cutbox-rows.mjs): the forced cells as the released guide's own fill.sh prints them over the translation e10a522530e21e80… (all of the seat's roots in one cut). By AI agents, Wed Nov 11 2026. No macro, syntax, notation, axiom, sorry.
-/
import Derived.Test.YtlbfnimilcnihaaChecked
import GoSem.Claim
import GoSem.ClaimJoined
import GoSem.ClaimMapViews
import Derived.JoinedTies
import Derived.KernelRfl
namespace Go.Proofs.Ytlbfnimilcnihaa
/- THE CELL 'sum', in the pinned program and in every row, IS THE sha256 OF THE DUMP (.gsa) THAT YtlbfnimilcnihaaProg.lean LOADS. Nothing in Lean hashes anything: it is a label: what it is worth is what the hold of that sum in a sandbox is worth. -/
noncomputable def Try.pinned : Pinned := { name := "ytlbfnimilcnihaa", sum := "e10a522530e21e80b1a68d9f3c1d967a6ba479757eb67a19d793fac8537f08dc", checked := Try.checked }
namespace Rows
def none {H : Type} : Left H := { results := [], args := [] }

/-- 'thalweglaw04.LockRuns': WHATEVER THE INPUT: true; the input reads as it did. -/
def lockRunsSpec : ChangeSpec := { name := "lockRuns", fn := fun _ => fun
  | [d1, d2, d3] => { results := [.lit (.bool true)], args := [d1, d2, d3] }
  | _ => none }
def lockRunsRow : OpenClaim := { program := "ytlbfnimilcnihaa", sum := "e10a522530e21e80b1a68d9f3c1d967a6ba479757eb67a19d793fac8537f08dc", func := "thalweg/thalweglaw04.LockRuns", spec := "lockRuns", unfollowed := true, recurses := true, apart := false }
def LockRunsSaid : Prop := lockRunsRow.holds Try.pinned (OpenSpec.ofChange lockRunsSpec)

/-- ITS FALSE NEIGHBOUR: 'it returns false'. Refute it at one input. -/
def lockRunsWrong : ChangeSpec := { name := "lockRuns", fn := fun _ => fun
  | [d1, d2, d3] => { results := [.lit (.bool false)], args := [d1, d2, d3] }
  | _ => none }
def LockRunsWrongFalsely : Prop := lockRunsRow.holds Try.pinned (OpenSpec.ofChange lockRunsWrong)

/-- 'thalweglaw04.LockBests': WHATEVER THE INPUT: true; the input reads as it did. -/
def lockBestsSpec : ChangeSpec := { name := "lockBests", fn := fun _ => fun
  | [d1, d2] => { results := [.lit (.bool true)], args := [d1, d2] }
  | _ => none }
def lockBestsRow : OpenClaim := { program := "ytlbfnimilcnihaa", sum := "e10a522530e21e80b1a68d9f3c1d967a6ba479757eb67a19d793fac8537f08dc", func := "thalweg/thalweglaw04.LockBests", spec := "lockBests", unfollowed := true, recurses := true, apart := false }
def LockBestsSaid : Prop := lockBestsRow.holds Try.pinned (OpenSpec.ofChange lockBestsSpec)

/-- ITS FALSE NEIGHBOUR: 'it returns false'. Refute it at one input. -/
def lockBestsWrong : ChangeSpec := { name := "lockBests", fn := fun _ => fun
  | [d1, d2] => { results := [.lit (.bool false)], args := [d1, d2] }
  | _ => none }
def LockBestsWrongFalsely : Prop := lockBestsRow.holds Try.pinned (OpenSpec.ofChange lockBestsWrong)

/-- 'thalweglaw04.LockThrifts': WHATEVER THE INPUT: true; the input reads as it did. -/
def lockThriftsSpec : ChangeSpec := { name := "lockThrifts", fn := fun _ => fun
  | [d1, d2, d3] => { results := [.lit (.bool true)], args := [d1, d2, d3] }
  | _ => none }
def lockThriftsRow : OpenClaim := { program := "ytlbfnimilcnihaa", sum := "e10a522530e21e80b1a68d9f3c1d967a6ba479757eb67a19d793fac8537f08dc", func := "thalweg/thalweglaw04.LockThrifts", spec := "lockThrifts", unfollowed := true, recurses := true, apart := false }
def LockThriftsSaid : Prop := lockThriftsRow.holds Try.pinned (OpenSpec.ofChange lockThriftsSpec)

/-- ITS FALSE NEIGHBOUR: 'it returns false'. Refute it at one input. -/
def lockThriftsWrong : ChangeSpec := { name := "lockThrifts", fn := fun _ => fun
  | [d1, d2, d3] => { results := [.lit (.bool false)], args := [d1, d2, d3] }
  | _ => none }
def LockThriftsWrongFalsely : Prop := lockThriftsRow.holds Try.pinned (OpenSpec.ofChange lockThriftsWrong)

/-- 'thalweglaw04.LockDays': WHATEVER THE INPUT: true; the input reads as it did. -/
def lockDaysSpec : ChangeSpec := { name := "lockDays", fn := fun _ => fun
  | [d1, d2, d3] => { results := [.lit (.bool true)], args := [d1, d2, d3] }
  | _ => none }
def lockDaysRow : OpenClaim := { program := "ytlbfnimilcnihaa", sum := "e10a522530e21e80b1a68d9f3c1d967a6ba479757eb67a19d793fac8537f08dc", func := "thalweg/thalweglaw04.LockDays", spec := "lockDays", unfollowed := true, recurses := true, apart := false }
def LockDaysSaid : Prop := lockDaysRow.holds Try.pinned (OpenSpec.ofChange lockDaysSpec)

/-- ITS FALSE NEIGHBOUR: 'it returns false'. Refute it at one input. -/
def lockDaysWrong : ChangeSpec := { name := "lockDays", fn := fun _ => fun
  | [d1, d2, d3] => { results := [.lit (.bool false)], args := [d1, d2, d3] }
  | _ => none }
def LockDaysWrongFalsely : Prop := lockDaysRow.holds Try.pinned (OpenSpec.ofChange lockDaysWrong)

/-- 'thalweglaw04.LockConserves': WHATEVER THE INPUT: true; the input reads as it did. -/
def lockConservesSpec : ChangeSpec := { name := "lockConserves", fn := fun _ => fun
  | [d] => { results := [.lit (.bool true)], args := [d] }
  | _ => none }
def lockConservesRow : OpenClaim := { program := "ytlbfnimilcnihaa", sum := "e10a522530e21e80b1a68d9f3c1d967a6ba479757eb67a19d793fac8537f08dc", func := "thalweg/thalweglaw04.LockConserves", spec := "lockConserves", unfollowed := true, recurses := true, apart := false }
def LockConservesSaid : Prop := lockConservesRow.holds Try.pinned (OpenSpec.ofChange lockConservesSpec)

/-- ITS FALSE NEIGHBOUR: 'it returns false'. Refute it at one input. -/
def lockConservesWrong : ChangeSpec := { name := "lockConserves", fn := fun _ => fun
  | [d] => { results := [.lit (.bool false)], args := [d] }
  | _ => none }
def LockConservesWrongFalsely : Prop := lockConservesRow.holds Try.pinned (OpenSpec.ofChange lockConservesWrong)

/-- 'thalweglaw04.LockInOrder': WHATEVER THE INPUT: true; the input reads as it did. -/
def lockInOrderSpec : ChangeSpec := { name := "lockInOrder", fn := fun _ => fun
  | [d] => { results := [.lit (.bool true)], args := [d] }
  | _ => none }
def lockInOrderRow : OpenClaim := { program := "ytlbfnimilcnihaa", sum := "e10a522530e21e80b1a68d9f3c1d967a6ba479757eb67a19d793fac8537f08dc", func := "thalweg/thalweglaw04.LockInOrder", spec := "lockInOrder", unfollowed := true, recurses := true, apart := false }
def LockInOrderSaid : Prop := lockInOrderRow.holds Try.pinned (OpenSpec.ofChange lockInOrderSpec)

/-- ITS FALSE NEIGHBOUR: 'it returns false'. Refute it at one input. -/
def lockInOrderWrong : ChangeSpec := { name := "lockInOrder", fn := fun _ => fun
  | [d] => { results := [.lit (.bool false)], args := [d] }
  | _ => none }
def LockInOrderWrongFalsely : Prop := lockInOrderRow.holds Try.pinned (OpenSpec.ofChange lockInOrderWrong)

/-- 'thalweglaw04.LockNoOther': WHATEVER THE INPUT: true; the input reads as it did. -/
def lockNoOtherSpec : ChangeSpec := { name := "lockNoOther", fn := fun _ => fun
  | [d1, d2] => { results := [.lit (.bool true)], args := [d1, d2] }
  | _ => none }
def lockNoOtherRow : OpenClaim := { program := "ytlbfnimilcnihaa", sum := "e10a522530e21e80b1a68d9f3c1d967a6ba479757eb67a19d793fac8537f08dc", func := "thalweg/thalweglaw04.LockNoOther", spec := "lockNoOther", unfollowed := true, recurses := true, apart := false }
def LockNoOtherSaid : Prop := lockNoOtherRow.holds Try.pinned (OpenSpec.ofChange lockNoOtherSpec)

/-- ITS FALSE NEIGHBOUR: 'it returns false'. Refute it at one input. -/
def lockNoOtherWrong : ChangeSpec := { name := "lockNoOther", fn := fun _ => fun
  | [d1, d2] => { results := [.lit (.bool false)], args := [d1, d2] }
  | _ => none }
def LockNoOtherWrongFalsely : Prop := lockNoOtherRow.holds Try.pinned (OpenSpec.ofChange lockNoOtherWrong)

/-- 'thalweglaw04.LockSooner': WHATEVER THE INPUT: true; the input reads as it did. -/
def lockSoonerSpec : ChangeSpec := { name := "lockSooner", fn := fun _ => fun
  | [d1, d2, d3] => { results := [.lit (.bool true)], args := [d1, d2, d3] }
  | _ => none }
def lockSoonerRow : OpenClaim := { program := "ytlbfnimilcnihaa", sum := "e10a522530e21e80b1a68d9f3c1d967a6ba479757eb67a19d793fac8537f08dc", func := "thalweg/thalweglaw04.LockSooner", spec := "lockSooner", unfollowed := true, recurses := true, apart := false }
def LockSoonerSaid : Prop := lockSoonerRow.holds Try.pinned (OpenSpec.ofChange lockSoonerSpec)

/-- ITS FALSE NEIGHBOUR: 'it returns false'. Refute it at one input. -/
def lockSoonerWrong : ChangeSpec := { name := "lockSooner", fn := fun _ => fun
  | [d1, d2, d3] => { results := [.lit (.bool false)], args := [d1, d2, d3] }
  | _ => none }
def LockSoonerWrongFalsely : Prop := lockSoonerRow.holds Try.pinned (OpenSpec.ofChange lockSoonerWrong)

/-- 'thalweglaw04.LockTruths': WHATEVER THE INPUT: true; the input reads as it did. -/
def lockTruthsSpec : ChangeSpec := { name := "lockTruths", fn := fun _ => fun
  | [d1, d2] => { results := [.lit (.bool true)], args := [d1, d2] }
  | _ => none }
def lockTruthsRow : OpenClaim := { program := "ytlbfnimilcnihaa", sum := "e10a522530e21e80b1a68d9f3c1d967a6ba479757eb67a19d793fac8537f08dc", func := "thalweg/thalweglaw04.LockTruths", spec := "lockTruths", unfollowed := true, recurses := true, apart := false }
def LockTruthsSaid : Prop := lockTruthsRow.holds Try.pinned (OpenSpec.ofChange lockTruthsSpec)

/-- ITS FALSE NEIGHBOUR: 'it returns false'. Refute it at one input. -/
def lockTruthsWrong : ChangeSpec := { name := "lockTruths", fn := fun _ => fun
  | [d1, d2] => { results := [.lit (.bool false)], args := [d1, d2] }
  | _ => none }
def LockTruthsWrongFalsely : Prop := lockTruthsRow.holds Try.pinned (OpenSpec.ofChange lockTruthsWrong)

/- THE SECOND FORM. 'bulk': how many values and letters a reading holds, each counted each time it is reached (what is shared counts as often as it is met; a slice's spare places count too). A statement '..UptoSaid' is the law's where the arguments, and the package variables that the reading takes, are together of bulk at most 1048576: NARROWER than '..Said'. Prove '..Said' where nothing that the law and all that it calls make is longer than what came in: it says more and counts as full. Else prove '..UptoSaid'. A law counts once. -/
mutual
def uptoBulk {H : Type} : DataW H → Nat
  | .lit (.string bytes) => bytes.length + 1
  | .lit _ => 1
  | .nil => 1
  | .ptr d => uptoBulk d + 1
  | .slice elems spare => uptoBulkAll elems + uptoBulkAll spare + 1
  | .agg parts => uptoBulkAll parts + 1
  | .iface _ d => uptoBulk d + 1
  | .map entries => uptoBulkEntries entries + 1
  | .held _ => 1
def uptoBulkAll {H : Type} : List (DataW H) → Nat
  | [] => 0
  | d :: r => uptoBulk d + uptoBulkAll r
def uptoBulkEntries {H : Type} : List (Lit × DataW H) → Nat
  | [] => 0
  | x :: r => uptoBulkEntry x + uptoBulkEntries r
def uptoBulkEntry {H : Type} : Lit × DataW H → Nat
  | (.string bytes, d) => bytes.length + uptoBulk d + 1
  | (_, d) => uptoBulk d + 1
 end
def uptoSmall : (H : Type) → List (DataW H) → Bool := fun _ ds => decide (uptoBulkAll ds ≤ 1048576)
def OpenSpec.upto (s : _root_.Go.ChangeSpec) : _root_.Go.OpenSpec := { _root_.Go.OpenSpec.ofChange s with cond := some uptoSmall }

/-- 'thalweglaw04.LockRuns', WHERE WHAT IT READS IS OF BULK AT MOST 1048576: true; the input reads as it did. -/
def lockRunsUptoRow : OpenClaim := { program := "ytlbfnimilcnihaa", sum := "e10a522530e21e80b1a68d9f3c1d967a6ba479757eb67a19d793fac8537f08dc", func := "thalweg/thalweglaw04.LockRuns", spec := "lockRuns", unfollowed := true, recurses := true, apart := false, narrowed := true }
def LockRunsUptoSaid : Prop := lockRunsUptoRow.holds Try.pinned (OpenSpec.upto lockRunsSpec)

/-- 'thalweglaw04.LockBests', WHERE WHAT IT READS IS OF BULK AT MOST 1048576: true; the input reads as it did. -/
def lockBestsUptoRow : OpenClaim := { program := "ytlbfnimilcnihaa", sum := "e10a522530e21e80b1a68d9f3c1d967a6ba479757eb67a19d793fac8537f08dc", func := "thalweg/thalweglaw04.LockBests", spec := "lockBests", unfollowed := true, recurses := true, apart := false, narrowed := true }
def LockBestsUptoSaid : Prop := lockBestsUptoRow.holds Try.pinned (OpenSpec.upto lockBestsSpec)

/-- 'thalweglaw04.LockThrifts', WHERE WHAT IT READS IS OF BULK AT MOST 1048576: true; the input reads as it did. -/
def lockThriftsUptoRow : OpenClaim := { program := "ytlbfnimilcnihaa", sum := "e10a522530e21e80b1a68d9f3c1d967a6ba479757eb67a19d793fac8537f08dc", func := "thalweg/thalweglaw04.LockThrifts", spec := "lockThrifts", unfollowed := true, recurses := true, apart := false, narrowed := true }
def LockThriftsUptoSaid : Prop := lockThriftsUptoRow.holds Try.pinned (OpenSpec.upto lockThriftsSpec)

/-- 'thalweglaw04.LockDays', WHERE WHAT IT READS IS OF BULK AT MOST 1048576: true; the input reads as it did. -/
def lockDaysUptoRow : OpenClaim := { program := "ytlbfnimilcnihaa", sum := "e10a522530e21e80b1a68d9f3c1d967a6ba479757eb67a19d793fac8537f08dc", func := "thalweg/thalweglaw04.LockDays", spec := "lockDays", unfollowed := true, recurses := true, apart := false, narrowed := true }
def LockDaysUptoSaid : Prop := lockDaysUptoRow.holds Try.pinned (OpenSpec.upto lockDaysSpec)

/-- 'thalweglaw04.LockConserves', WHERE WHAT IT READS IS OF BULK AT MOST 1048576: true; the input reads as it did. -/
def lockConservesUptoRow : OpenClaim := { program := "ytlbfnimilcnihaa", sum := "e10a522530e21e80b1a68d9f3c1d967a6ba479757eb67a19d793fac8537f08dc", func := "thalweg/thalweglaw04.LockConserves", spec := "lockConserves", unfollowed := true, recurses := true, apart := false, narrowed := true }
def LockConservesUptoSaid : Prop := lockConservesUptoRow.holds Try.pinned (OpenSpec.upto lockConservesSpec)

/-- 'thalweglaw04.LockInOrder', WHERE WHAT IT READS IS OF BULK AT MOST 1048576: true; the input reads as it did. -/
def lockInOrderUptoRow : OpenClaim := { program := "ytlbfnimilcnihaa", sum := "e10a522530e21e80b1a68d9f3c1d967a6ba479757eb67a19d793fac8537f08dc", func := "thalweg/thalweglaw04.LockInOrder", spec := "lockInOrder", unfollowed := true, recurses := true, apart := false, narrowed := true }
def LockInOrderUptoSaid : Prop := lockInOrderUptoRow.holds Try.pinned (OpenSpec.upto lockInOrderSpec)

/-- 'thalweglaw04.LockNoOther', WHERE WHAT IT READS IS OF BULK AT MOST 1048576: true; the input reads as it did. -/
def lockNoOtherUptoRow : OpenClaim := { program := "ytlbfnimilcnihaa", sum := "e10a522530e21e80b1a68d9f3c1d967a6ba479757eb67a19d793fac8537f08dc", func := "thalweg/thalweglaw04.LockNoOther", spec := "lockNoOther", unfollowed := true, recurses := true, apart := false, narrowed := true }
def LockNoOtherUptoSaid : Prop := lockNoOtherUptoRow.holds Try.pinned (OpenSpec.upto lockNoOtherSpec)

/-- 'thalweglaw04.LockSooner', WHERE WHAT IT READS IS OF BULK AT MOST 1048576: true; the input reads as it did. -/
def lockSoonerUptoRow : OpenClaim := { program := "ytlbfnimilcnihaa", sum := "e10a522530e21e80b1a68d9f3c1d967a6ba479757eb67a19d793fac8537f08dc", func := "thalweg/thalweglaw04.LockSooner", spec := "lockSooner", unfollowed := true, recurses := true, apart := false, narrowed := true }
def LockSoonerUptoSaid : Prop := lockSoonerUptoRow.holds Try.pinned (OpenSpec.upto lockSoonerSpec)

/-- 'thalweglaw04.LockTruths', WHERE WHAT IT READS IS OF BULK AT MOST 1048576: true; the input reads as it did. -/
def lockTruthsUptoRow : OpenClaim := { program := "ytlbfnimilcnihaa", sum := "e10a522530e21e80b1a68d9f3c1d967a6ba479757eb67a19d793fac8537f08dc", func := "thalweg/thalweglaw04.LockTruths", spec := "lockTruths", unfollowed := true, recurses := true, apart := false, narrowed := true }
def LockTruthsUptoSaid : Prop := lockTruthsUptoRow.holds Try.pinned (OpenSpec.upto lockTruthsSpec)

end Rows
end Go.Proofs.Ytlbfnimilcnihaa
