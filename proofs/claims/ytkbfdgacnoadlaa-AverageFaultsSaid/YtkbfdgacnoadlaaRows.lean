/-
  No cell of these rows narrows 'for every input' (looked for: loops, veiled, ifaces, maps, wideKeys, modest, calm, conditions, laid).
  DERIVED. THE GIVEN ROWS OF THIS SEAT. 11 by the template 'for every input the law returns true; each argument reads behind the call as it read before'; 0 by the template 'total and deterministic' (their statements: YtkbfdgacnoadlaaTotals.lean).
  GIVEN WITH THE SEED: the statements are not yours to turn. If you find one false, say at which input.
  Laid BY PROGRAM, IN A SANDBOX (cutbox-rows.mjs): the forced cells as the released guide's own fill.sh prints them over the translation a6e47b55b0aef47b… (all of the seat's roots in one cut). By AI agents, Wed Nov 11 2026. No macro, syntax, notation, axiom, sorry.
-/
import Derived.Test.YtkbfdgacnoadlaaChecked
import GoSem.Claim
import GoSem.ClaimJoined
import GoSem.ClaimMapViews
import Derived.JoinedTies
import Derived.KernelRfl
namespace Go.Proofs.Ytkbfdgacnoadlaa
/- THE CELL 'sum', in the pinned program and in every row, IS THE sha256 OF THE DUMP (.gsa) THAT YtkbfdgacnoadlaaProg.lean LOADS. Nothing in Lean hashes anything: it is a label: what it is worth is what the hold of that sum in a sandbox is worth. -/
noncomputable def Try.pinned : Pinned := { name := "ytkbfdgacnoadlaa", sum := "a6e47b55b0aef47b30df144893e7fb54eedf9dd55ecb11295fec2993fdf1fdec", checked := Try.checked }
namespace Rows
def none {H : Type} : Left H := { results := [], args := [] }

/-- 'thalweglaw08.AverageAdjusts': WHATEVER THE INPUT: true; the input reads as it did. -/
def averageAdjustsSpec : ChangeSpec := { name := "averageAdjusts", fn := fun _ => fun
  | [d1, d2, d3] => { results := [.lit (.bool true)], args := [d1, d2, d3] }
  | _ => none }
def averageAdjustsRow : OpenClaim := { program := "ytkbfdgacnoadlaa", sum := "a6e47b55b0aef47b30df144893e7fb54eedf9dd55ecb11295fec2993fdf1fdec", func := "thalweg/thalweglaw08.AverageAdjusts", spec := "averageAdjusts", unfollowed := true, recurses := true, named := ["math/bits.divideError", "math/bits.overflowError"], apart := false }
def AverageAdjustsSaid : Prop := averageAdjustsRow.holds Try.pinned (OpenSpec.ofChange averageAdjustsSpec)

/-- ITS FALSE NEIGHBOUR: 'it returns false'. Refute it at one input. -/
def averageAdjustsWrong : ChangeSpec := { name := "averageAdjusts", fn := fun _ => fun
  | [d1, d2, d3] => { results := [.lit (.bool false)], args := [d1, d2, d3] }
  | _ => none }
def AverageAdjustsWrongFalsely : Prop := averageAdjustsRow.holds Try.pinned (OpenSpec.ofChange averageAdjustsWrong)

/-- 'thalweglaw08.AverageBlames': WHATEVER THE INPUT: true; the input reads as it did. -/
def averageBlamesSpec : ChangeSpec := { name := "averageBlames", fn := fun _ => fun
  | [d1, d2, d3] => { results := [.lit (.bool true)], args := [d1, d2, d3] }
  | _ => none }
def averageBlamesRow : OpenClaim := { program := "ytkbfdgacnoadlaa", sum := "a6e47b55b0aef47b30df144893e7fb54eedf9dd55ecb11295fec2993fdf1fdec", func := "thalweg/thalweglaw08.AverageBlames", spec := "averageBlames", unfollowed := true, recurses := true, named := ["math/bits.divideError", "math/bits.overflowError"], apart := false }
def AverageBlamesSaid : Prop := averageBlamesRow.holds Try.pinned (OpenSpec.ofChange averageBlamesSpec)

/-- ITS FALSE NEIGHBOUR: 'it returns false'. Refute it at one input. -/
def averageBlamesWrong : ChangeSpec := { name := "averageBlames", fn := fun _ => fun
  | [d1, d2, d3] => { results := [.lit (.bool false)], args := [d1, d2, d3] }
  | _ => none }
def AverageBlamesWrongFalsely : Prop := averageBlamesRow.holds Try.pinned (OpenSpec.ofChange averageBlamesWrong)

/-- 'thalweglaw08.AverageDues': WHATEVER THE INPUT: true; the input reads as it did. -/
def averageDuesSpec : ChangeSpec := { name := "averageDues", fn := fun _ => fun
  | [d1, d2, d3] => { results := [.lit (.bool true)], args := [d1, d2, d3] }
  | _ => none }
def averageDuesRow : OpenClaim := { program := "ytkbfdgacnoadlaa", sum := "a6e47b55b0aef47b30df144893e7fb54eedf9dd55ecb11295fec2993fdf1fdec", func := "thalweg/thalweglaw08.AverageDues", spec := "averageDues", unfollowed := true, recurses := true, named := ["math/bits.divideError", "math/bits.overflowError"], apart := false }
def AverageDuesSaid : Prop := averageDuesRow.holds Try.pinned (OpenSpec.ofChange averageDuesSpec)

/-- ITS FALSE NEIGHBOUR: 'it returns false'. Refute it at one input. -/
def averageDuesWrong : ChangeSpec := { name := "averageDues", fn := fun _ => fun
  | [d1, d2, d3] => { results := [.lit (.bool false)], args := [d1, d2, d3] }
  | _ => none }
def AverageDuesWrongFalsely : Prop := averageDuesRow.holds Try.pinned (OpenSpec.ofChange averageDuesWrong)

/-- 'thalweglaw08.AverageOrders': WHATEVER THE INPUT: true; the input reads as it did. -/
def averageOrdersSpec : ChangeSpec := { name := "averageOrders", fn := fun _ => fun
  | [d1, d2] => { results := [.lit (.bool true)], args := [d1, d2] }
  | _ => none }
def averageOrdersRow : OpenClaim := { program := "ytkbfdgacnoadlaa", sum := "a6e47b55b0aef47b30df144893e7fb54eedf9dd55ecb11295fec2993fdf1fdec", func := "thalweg/thalweglaw08.AverageOrders", spec := "averageOrders", unfollowed := true, recurses := true, named := ["math/bits.divideError", "math/bits.overflowError"], apart := false }
def AverageOrdersSaid : Prop := averageOrdersRow.holds Try.pinned (OpenSpec.ofChange averageOrdersSpec)

/-- ITS FALSE NEIGHBOUR: 'it returns false'. Refute it at one input. -/
def averageOrdersWrong : ChangeSpec := { name := "averageOrders", fn := fun _ => fun
  | [d1, d2] => { results := [.lit (.bool false)], args := [d1, d2] }
  | _ => none }
def AverageOrdersWrongFalsely : Prop := averageOrdersRow.holds Try.pinned (OpenSpec.ofChange averageOrdersWrong)

/-- 'thalweglaw08.AverageBalances': WHATEVER THE INPUT: true; the input reads as it did. -/
def averageBalancesSpec : ChangeSpec := { name := "averageBalances", fn := fun _ => fun
  | [d1, d2, d3] => { results := [.lit (.bool true)], args := [d1, d2, d3] }
  | _ => none }
def averageBalancesRow : OpenClaim := { program := "ytkbfdgacnoadlaa", sum := "a6e47b55b0aef47b30df144893e7fb54eedf9dd55ecb11295fec2993fdf1fdec", func := "thalweg/thalweglaw08.AverageBalances", spec := "averageBalances", unfollowed := true, recurses := true, named := ["math/bits.divideError", "math/bits.overflowError"], apart := false }
def AverageBalancesSaid : Prop := averageBalancesRow.holds Try.pinned (OpenSpec.ofChange averageBalancesSpec)

/-- ITS FALSE NEIGHBOUR: 'it returns false'. Refute it at one input. -/
def averageBalancesWrong : ChangeSpec := { name := "averageBalances", fn := fun _ => fun
  | [d1, d2, d3] => { results := [.lit (.bool false)], args := [d1, d2, d3] }
  | _ => none }
def AverageBalancesWrongFalsely : Prop := averageBalancesRow.holds Try.pinned (OpenSpec.ofChange averageBalancesWrong)

/-- 'thalweglaw08.AverageBills': WHATEVER THE INPUT: true; the input reads as it did. -/
def averageBillsSpec : ChangeSpec := { name := "averageBills", fn := fun _ => fun
  | [d1, d2, d3] => { results := [.lit (.bool true)], args := [d1, d2, d3] }
  | _ => none }
def averageBillsRow : OpenClaim := { program := "ytkbfdgacnoadlaa", sum := "a6e47b55b0aef47b30df144893e7fb54eedf9dd55ecb11295fec2993fdf1fdec", func := "thalweg/thalweglaw08.AverageBills", spec := "averageBills", unfollowed := true, recurses := true, named := ["math/bits.divideError", "math/bits.overflowError"], apart := false }
def AverageBillsSaid : Prop := averageBillsRow.holds Try.pinned (OpenSpec.ofChange averageBillsSpec)

/-- ITS FALSE NEIGHBOUR: 'it returns false'. Refute it at one input. -/
def averageBillsWrong : ChangeSpec := { name := "averageBills", fn := fun _ => fun
  | [d1, d2, d3] => { results := [.lit (.bool false)], args := [d1, d2, d3] }
  | _ => none }
def AverageBillsWrongFalsely : Prop := averageBillsRow.holds Try.pinned (OpenSpec.ofChange averageBillsWrong)

/-- 'thalweglaw08.AverageSplits': WHATEVER THE INPUT: true; the input reads as it did. -/
def averageSplitsSpec : ChangeSpec := { name := "averageSplits", fn := fun _ => fun
  | [d1, d2] => { results := [.lit (.bool true)], args := [d1, d2] }
  | _ => none }
def averageSplitsRow : OpenClaim := { program := "ytkbfdgacnoadlaa", sum := "a6e47b55b0aef47b30df144893e7fb54eedf9dd55ecb11295fec2993fdf1fdec", func := "thalweg/thalweglaw08.AverageSplits", spec := "averageSplits", unfollowed := true, recurses := true, named := ["math/bits.divideError", "math/bits.overflowError"], apart := false }
def AverageSplitsSaid : Prop := averageSplitsRow.holds Try.pinned (OpenSpec.ofChange averageSplitsSpec)

/-- ITS FALSE NEIGHBOUR: 'it returns false'. Refute it at one input. -/
def averageSplitsWrong : ChangeSpec := { name := "averageSplits", fn := fun _ => fun
  | [d1, d2] => { results := [.lit (.bool false)], args := [d1, d2] }
  | _ => none }
def AverageSplitsWrongFalsely : Prop := averageSplitsRow.holds Try.pinned (OpenSpec.ofChange averageSplitsWrong)

/-- 'thalweglaw08.AverageShares': WHATEVER THE INPUT: true; the input reads as it did. -/
def averageSharesSpec : ChangeSpec := { name := "averageShares", fn := fun _ => fun
  | [d1, d2, d3] => { results := [.lit (.bool true)], args := [d1, d2, d3] }
  | _ => none }
def averageSharesRow : OpenClaim := { program := "ytkbfdgacnoadlaa", sum := "a6e47b55b0aef47b30df144893e7fb54eedf9dd55ecb11295fec2993fdf1fdec", func := "thalweg/thalweglaw08.AverageShares", spec := "averageShares", unfollowed := true, recurses := true, named := ["math/bits.divideError", "math/bits.overflowError"], apart := false }
def AverageSharesSaid : Prop := averageSharesRow.holds Try.pinned (OpenSpec.ofChange averageSharesSpec)

/-- ITS FALSE NEIGHBOUR: 'it returns false'. Refute it at one input. -/
def averageSharesWrong : ChangeSpec := { name := "averageShares", fn := fun _ => fun
  | [d1, d2, d3] => { results := [.lit (.bool false)], args := [d1, d2, d3] }
  | _ => none }
def AverageSharesWrongFalsely : Prop := averageSharesRow.holds Try.pinned (OpenSpec.ofChange averageSharesWrong)

/-- 'thalweglaw08.AverageFaults': WHATEVER THE INPUT: true; the input reads as it did. -/
def averageFaultsSpec : ChangeSpec := { name := "averageFaults", fn := fun _ => fun
  | [d1, d2, d3] => { results := [.lit (.bool true)], args := [d1, d2, d3] }
  | _ => none }
def averageFaultsRow : OpenClaim := { program := "ytkbfdgacnoadlaa", sum := "a6e47b55b0aef47b30df144893e7fb54eedf9dd55ecb11295fec2993fdf1fdec", func := "thalweg/thalweglaw08.AverageFaults", spec := "averageFaults", unfollowed := true, recurses := true, named := ["math/bits.divideError", "math/bits.overflowError"], apart := false }
def AverageFaultsSaid : Prop := averageFaultsRow.holds Try.pinned (OpenSpec.ofChange averageFaultsSpec)

/-- ITS FALSE NEIGHBOUR: 'it returns false'. Refute it at one input. -/
def averageFaultsWrong : ChangeSpec := { name := "averageFaults", fn := fun _ => fun
  | [d1, d2, d3] => { results := [.lit (.bool false)], args := [d1, d2, d3] }
  | _ => none }
def AverageFaultsWrongFalsely : Prop := averageFaultsRow.holds Try.pinned (OpenSpec.ofChange averageFaultsWrong)

/-- 'thalweglaw08.AverageBurns': WHATEVER THE INPUT: true; the input reads as it did. -/
def averageBurnsSpec : ChangeSpec := { name := "averageBurns", fn := fun _ => fun
  | [d1, d2, d3] => { results := [.lit (.bool true)], args := [d1, d2, d3] }
  | _ => none }
def averageBurnsRow : OpenClaim := { program := "ytkbfdgacnoadlaa", sum := "a6e47b55b0aef47b30df144893e7fb54eedf9dd55ecb11295fec2993fdf1fdec", func := "thalweg/thalweglaw08.AverageBurns", spec := "averageBurns", unfollowed := true, recurses := true, named := ["math/bits.divideError", "math/bits.overflowError"], apart := false }
def AverageBurnsSaid : Prop := averageBurnsRow.holds Try.pinned (OpenSpec.ofChange averageBurnsSpec)

/-- ITS FALSE NEIGHBOUR: 'it returns false'. Refute it at one input. -/
def averageBurnsWrong : ChangeSpec := { name := "averageBurns", fn := fun _ => fun
  | [d1, d2, d3] => { results := [.lit (.bool false)], args := [d1, d2, d3] }
  | _ => none }
def AverageBurnsWrongFalsely : Prop := averageBurnsRow.holds Try.pinned (OpenSpec.ofChange averageBurnsWrong)

/-- 'thalweglaw08.AverageTanks': WHATEVER THE INPUT: true; the input reads as it did. -/
def averageTanksSpec : ChangeSpec := { name := "averageTanks", fn := fun _ => fun
  | [d1, d2, d3] => { results := [.lit (.bool true)], args := [d1, d2, d3] }
  | _ => none }
def averageTanksRow : OpenClaim := { program := "ytkbfdgacnoadlaa", sum := "a6e47b55b0aef47b30df144893e7fb54eedf9dd55ecb11295fec2993fdf1fdec", func := "thalweg/thalweglaw08.AverageTanks", spec := "averageTanks", unfollowed := true, recurses := true, named := ["math/bits.divideError", "math/bits.overflowError"], apart := false }
def AverageTanksSaid : Prop := averageTanksRow.holds Try.pinned (OpenSpec.ofChange averageTanksSpec)

/-- ITS FALSE NEIGHBOUR: 'it returns false'. Refute it at one input. -/
def averageTanksWrong : ChangeSpec := { name := "averageTanks", fn := fun _ => fun
  | [d1, d2, d3] => { results := [.lit (.bool false)], args := [d1, d2, d3] }
  | _ => none }
def AverageTanksWrongFalsely : Prop := averageTanksRow.holds Try.pinned (OpenSpec.ofChange averageTanksWrong)

/- THE SECOND FORM. 'bulk': how many values and letters a reading holds, each counted each time it is reached (what is shared counts as often as it is met; a slice's spare places count too). A statement '..UptoSaid' is the law's where the arguments, and the package variables that the reading takes, are together of bulk at most 1048576: NARROWER than '..Said'. Prove '..Said' where nothing that the law and all that it calls make is longer than what came in: it says more and counts as full. Else prove '..UptoSaid'. A law counts once. -/
mutual
def uptoBulk {H : Type} : DataW H → Nat
  | .lit (.string bytes) => bytes.length + 1
  | .lit _ => 1
  | .nil => 1
  | .ptr d => uptoBulk d + 1
  | .slice elems spare => uptoBulkAll elems + uptoBulkAll spare + 1
  | .agg parts => uptoBulkAll parts + 1
  | .iface _ d => uptoBulk d + 1
  | .map entries => uptoBulkEntries entries + 1
  | .held _ => 1
def uptoBulkAll {H : Type} : List (DataW H) → Nat
  | [] => 0
  | d :: r => uptoBulk d + uptoBulkAll r
def uptoBulkEntries {H : Type} : List (Lit × DataW H) → Nat
  | [] => 0
  | x :: r => uptoBulkEntry x + uptoBulkEntries r
def uptoBulkEntry {H : Type} : Lit × DataW H → Nat
  | (.string bytes, d) => bytes.length + uptoBulk d + 1
  | (_, d) => uptoBulk d + 1
 end
def uptoSmall : (H : Type) → List (DataW H) → Bool := fun _ ds => decide (uptoBulkAll ds ≤ 1048576)
def OpenSpec.upto (s : _root_.Go.ChangeSpec) : _root_.Go.OpenSpec := { _root_.Go.OpenSpec.ofChange s with cond := some uptoSmall }

/-- 'thalweglaw08.AverageAdjusts', WHERE WHAT IT READS IS OF BULK AT MOST 1048576: true; the input reads as it did. -/
def averageAdjustsUptoRow : OpenClaim := { program := "ytkbfdgacnoadlaa", sum := "a6e47b55b0aef47b30df144893e7fb54eedf9dd55ecb11295fec2993fdf1fdec", func := "thalweg/thalweglaw08.AverageAdjusts", spec := "averageAdjusts", unfollowed := true, recurses := true, named := ["math/bits.divideError", "math/bits.overflowError"], apart := false, narrowed := true }
def AverageAdjustsUptoSaid : Prop := averageAdjustsUptoRow.holds Try.pinned (OpenSpec.upto averageAdjustsSpec)

/-- 'thalweglaw08.AverageBlames', WHERE WHAT IT READS IS OF BULK AT MOST 1048576: true; the input reads as it did. -/
def averageBlamesUptoRow : OpenClaim := { program := "ytkbfdgacnoadlaa", sum := "a6e47b55b0aef47b30df144893e7fb54eedf9dd55ecb11295fec2993fdf1fdec", func := "thalweg/thalweglaw08.AverageBlames", spec := "averageBlames", unfollowed := true, recurses := true, named := ["math/bits.divideError", "math/bits.overflowError"], apart := false, narrowed := true }
def AverageBlamesUptoSaid : Prop := averageBlamesUptoRow.holds Try.pinned (OpenSpec.upto averageBlamesSpec)

/-- 'thalweglaw08.AverageDues', WHERE WHAT IT READS IS OF BULK AT MOST 1048576: true; the input reads as it did. -/
def averageDuesUptoRow : OpenClaim := { program := "ytkbfdgacnoadlaa", sum := "a6e47b55b0aef47b30df144893e7fb54eedf9dd55ecb11295fec2993fdf1fdec", func := "thalweg/thalweglaw08.AverageDues", spec := "averageDues", unfollowed := true, recurses := true, named := ["math/bits.divideError", "math/bits.overflowError"], apart := false, narrowed := true }
def AverageDuesUptoSaid : Prop := averageDuesUptoRow.holds Try.pinned (OpenSpec.upto averageDuesSpec)

/-- 'thalweglaw08.AverageOrders', WHERE WHAT IT READS IS OF BULK AT MOST 1048576: true; the input reads as it did. -/
def averageOrdersUptoRow : OpenClaim := { program := "ytkbfdgacnoadlaa", sum := "a6e47b55b0aef47b30df144893e7fb54eedf9dd55ecb11295fec2993fdf1fdec", func := "thalweg/thalweglaw08.AverageOrders", spec := "averageOrders", unfollowed := true, recurses := true, named := ["math/bits.divideError", "math/bits.overflowError"], apart := false, narrowed := true }
def AverageOrdersUptoSaid : Prop := averageOrdersUptoRow.holds Try.pinned (OpenSpec.upto averageOrdersSpec)

/-- 'thalweglaw08.AverageBalances', WHERE WHAT IT READS IS OF BULK AT MOST 1048576: true; the input reads as it did. -/
def averageBalancesUptoRow : OpenClaim := { program := "ytkbfdgacnoadlaa", sum := "a6e47b55b0aef47b30df144893e7fb54eedf9dd55ecb11295fec2993fdf1fdec", func := "thalweg/thalweglaw08.AverageBalances", spec := "averageBalances", unfollowed := true, recurses := true, named := ["math/bits.divideError", "math/bits.overflowError"], apart := false, narrowed := true }
def AverageBalancesUptoSaid : Prop := averageBalancesUptoRow.holds Try.pinned (OpenSpec.upto averageBalancesSpec)

/-- 'thalweglaw08.AverageBills', WHERE WHAT IT READS IS OF BULK AT MOST 1048576: true; the input reads as it did. -/
def averageBillsUptoRow : OpenClaim := { program := "ytkbfdgacnoadlaa", sum := "a6e47b55b0aef47b30df144893e7fb54eedf9dd55ecb11295fec2993fdf1fdec", func := "thalweg/thalweglaw08.AverageBills", spec := "averageBills", unfollowed := true, recurses := true, named := ["math/bits.divideError", "math/bits.overflowError"], apart := false, narrowed := true }
def AverageBillsUptoSaid : Prop := averageBillsUptoRow.holds Try.pinned (OpenSpec.upto averageBillsSpec)

/-- 'thalweglaw08.AverageSplits', WHERE WHAT IT READS IS OF BULK AT MOST 1048576: true; the input reads as it did. -/
def averageSplitsUptoRow : OpenClaim := { program := "ytkbfdgacnoadlaa", sum := "a6e47b55b0aef47b30df144893e7fb54eedf9dd55ecb11295fec2993fdf1fdec", func := "thalweg/thalweglaw08.AverageSplits", spec := "averageSplits", unfollowed := true, recurses := true, named := ["math/bits.divideError", "math/bits.overflowError"], apart := false, narrowed := true }
def AverageSplitsUptoSaid : Prop := averageSplitsUptoRow.holds Try.pinned (OpenSpec.upto averageSplitsSpec)

/-- 'thalweglaw08.AverageShares', WHERE WHAT IT READS IS OF BULK AT MOST 1048576: true; the input reads as it did. -/
def averageSharesUptoRow : OpenClaim := { program := "ytkbfdgacnoadlaa", sum := "a6e47b55b0aef47b30df144893e7fb54eedf9dd55ecb11295fec2993fdf1fdec", func := "thalweg/thalweglaw08.AverageShares", spec := "averageShares", unfollowed := true, recurses := true, named := ["math/bits.divideError", "math/bits.overflowError"], apart := false, narrowed := true }
def AverageSharesUptoSaid : Prop := averageSharesUptoRow.holds Try.pinned (OpenSpec.upto averageSharesSpec)

/-- 'thalweglaw08.AverageFaults', WHERE WHAT IT READS IS OF BULK AT MOST 1048576: true; the input reads as it did. -/
def averageFaultsUptoRow : OpenClaim := { program := "ytkbfdgacnoadlaa", sum := "a6e47b55b0aef47b30df144893e7fb54eedf9dd55ecb11295fec2993fdf1fdec", func := "thalweg/thalweglaw08.AverageFaults", spec := "averageFaults", unfollowed := true, recurses := true, named := ["math/bits.divideError", "math/bits.overflowError"], apart := false, narrowed := true }
def AverageFaultsUptoSaid : Prop := averageFaultsUptoRow.holds Try.pinned (OpenSpec.upto averageFaultsSpec)

/-- 'thalweglaw08.AverageBurns', WHERE WHAT IT READS IS OF BULK AT MOST 1048576: true; the input reads as it did. -/
def averageBurnsUptoRow : OpenClaim := { program := "ytkbfdgacnoadlaa", sum := "a6e47b55b0aef47b30df144893e7fb54eedf9dd55ecb11295fec2993fdf1fdec", func := "thalweg/thalweglaw08.AverageBurns", spec := "averageBurns", unfollowed := true, recurses := true, named := ["math/bits.divideError", "math/bits.overflowError"], apart := false, narrowed := true }
def AverageBurnsUptoSaid : Prop := averageBurnsUptoRow.holds Try.pinned (OpenSpec.upto averageBurnsSpec)

/-- 'thalweglaw08.AverageTanks', WHERE WHAT IT READS IS OF BULK AT MOST 1048576: true; the input reads as it did. -/
def averageTanksUptoRow : OpenClaim := { program := "ytkbfdgacnoadlaa", sum := "a6e47b55b0aef47b30df144893e7fb54eedf9dd55ecb11295fec2993fdf1fdec", func := "thalweg/thalweglaw08.AverageTanks", spec := "averageTanks", unfollowed := true, recurses := true, named := ["math/bits.divideError", "math/bits.overflowError"], apart := false, narrowed := true }
def AverageTanksUptoSaid : Prop := averageTanksUptoRow.holds Try.pinned (OpenSpec.upto averageTanksSpec)

end Rows
end Go.Proofs.Ytkbfdgacnoadlaa
