/- River: whether a reach is valid, by the reference. -/
import Derived.Test.YtfgfenmaommclaaV2
namespace Go.Proofs.Ytfgfenmaommclaa
open Go.RowKit

theorem reachB_form2 (x : Reach) : reachB x = (inB 1 5000 x.len && (inB 0 200 x.delay && (bdOk 0 10000000000 x.base && (inB 2 30 (x.curve.length : Int) && (inB 0 10000 x.weir && (bdOk 0 10000 x.bottom && (inB 0 10000 x.flood && curveB x.curve))))))) := rfl
theorem ints_pos {k : Nat} (h : 0 < k) : decide (0 < (k : Int)) = true ∧ decide (0 < k) = true := by simp; omega

end Go.Proofs.Ytfgfenmaommclaa
